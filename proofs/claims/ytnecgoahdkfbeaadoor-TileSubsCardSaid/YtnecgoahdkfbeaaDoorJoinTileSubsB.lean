/- Several texts in one: TsbP; Tsb; Open; OpenD. -/
import Derived.Test.YtnecgoahdkfbeaaDoorJoinTileSubsA
import Derived.Test.YtnecgoahdkfbeaaDoorByt
import Derived.ProofKit
import Derived.OpenShut
import Derived.SizedLaws
import Derived.Lib.SmallJoins
import Derived.Deep.Slices
import Derived.ShutString
import Derived.Test.YtnecgoahdkfbeaaDoorDsl
section
namespace Go.Proofs.YtnecgoahdkfbeaaDoor.Tid
open Go Go.Op Go.Proofs.YtnecgoahdkfbeaaDoor.Cop Go.Proofs.YtnecgoahdkfbeaaDoor.Ver Go.Proofs.YtnecgoahdkfbeaaDoor.Tre Go.Proofs.YtnecgoahdkfbeaaDoor.TreP Go.Proofs.YtnecgoahdkfbeaaDoor.Vfy Go.Proofs.YtnecgoahdkfbeaaDoor.Oct Go.Proofs.YtnecgoahdkfbeaaDoor.Dsl Go.Proofs.YtnecgoahdkfbeaaDoor.Sha
set_option linter.unusedVariables false
set_option linter.unusedSimpArgs false
theorem rootS_R {l : List (List UInt8)} (h : 0 < l.length) : rootS l = R l := by unfold rootS; rw [if_neg (by omega)]
theorem chk_take {l : List (List UInt8)} {c j k : Nat} (h : (j + 1) * c ≤ k) : chk (l.take k) c j = chk l c j := by
  rw [Nat.succ_mul] at h
  unfold chk
  rw [List.drop_take, List.take_take, Nat.min_eq_left (by omega)]
theorem chk_drop {l : List (List UInt8)} {c j k : Nat} : chk (l.drop (k * c)) c j = chk l c (k + j) := by
  unfold chk
  rw [List.drop_drop, Nat.add_mul]
theorem R_parts (q : Nat) : ∀ (r : Nat) (l : List (List UInt8)), l.length = 2 ^ (r + q) → l.length ≤ 281474976710656 → R ((List.range (2 ^ r)).map fun j => chk l (2 ^ q) j) = R l
  | 0, l, hl, hm => by
    have hp : 0 < 2 ^ q := Nat.two_pow_pos _
    have h0 : l.length = 2 ^ q := by rw [hl, Nat.zero_add]
    have e : chk l (2 ^ q) 0 = R l := by
      unfold chk
      rw [Nat.zero_mul, List.drop_zero, List.take_of_length_le (by omega), rootS_R (by omega)]
    show R ((List.range 1).map fun j => chk l (2 ^ q) j) = R l
    rw [List.range_one, List.map_cons, List.map_nil, e, R_one _ (by simp)]
    rfl
  | r + 1, l, hl, hm => by
    have hp : 0 < 2 ^ (r + q) := Nat.two_pow_pos _
    have hs : 2 ^ (r + 1 + q) = 2 ^ (r + q) + 2 ^ (r + q) := by rw [show r + 1 + q = r + q + 1 by omega, Nat.pow_succ]; omega
    have h2 : 2 ^ (r + 1) = 2 ^ r + 2 ^ r := by rw [Nat.pow_succ]; omega
    have hm1 : 2 ^ (r + q) = 2 ^ r * 2 ^ q := Nat.pow_add _ _ _
    have lA : (l.take (2 ^ (r + q))).length = 2 ^ (r + q) := by rw [List.length_take]; omega
    have lB : (l.drop (2 ^ (r + q))).length = 2 ^ (r + q) := by rw [List.length_drop]; omega
    have iA := R_parts q r (l.take (2 ^ (r + q))) lA (by omega)
    have iB := R_parts q r (l.drop (2 ^ (r + q))) lB (by omega)
    have eA : ((List.range (2 ^ r)).map fun j => chk (l.take (2 ^ (r + q))) (2 ^ q) j) = (List.range (2 ^ r)).map fun j => chk l (2 ^ q) j := by
      refine List.map_congr_left fun j hj => chk_take ?_
      rw [hm1]
      exact Nat.mul_le_mul_right _ (by have := List.mem_range.1 hj; omega)
    have eB : ((List.range (2 ^ r)).map fun j => chk (l.drop (2 ^ (r + q))) (2 ^ q) j) = (List.range (2 ^ r)).map fun j => chk l (2 ^ q) (2 ^ r + j) := by
      refine List.map_congr_left fun j hj => ?_
      rw [hm1, chk_drop]
    rw [eA] at iA
    rw [eB] at iB
    rw [h2, List.range_add, List.map_append, List.map_map]
    have hr : 0 < 2 ^ r := Nat.two_pow_pos _
    have hrq : 2 ^ r ≤ 2 ^ (r + q) := Nat.pow_le_pow_right (by omega) (by omega)
    have := R_app ((List.range (2 ^ r)).map fun j => chk l (2 ^ q) j) ((List.range (2 ^ r)).map ((fun j => chk l (2 ^ q) j) ∘ fun j => 2 ^ r + j)) r (by simp) (by simp; omega) (by simp) (by simp; omega)
    rw [this, iA]
    have iB' : R ((List.range (2 ^ r)).map ((fun j => chk l (2 ^ q) j) ∘ fun j => 2 ^ r + j)) = R (l.drop (2 ^ (r + q))) := iB
    rw [iB', ← R_app _ _ (r + q) lA (by omega) (by omega) (by rw [List.take_append_drop]; exact hm), List.take_append_drop]
/-- The digests of a tile's bytes. -/
theorem dL_tbs {ds : List (List UInt8)} (h : All32 ds) (hl : ds.length ≤ 281474976710656) (c m n : Nat) : dL (tbs ds c m n) ((tbs ds c m n).length / 32) = (List.range n).map fun j => chk ds c (m + j) := by
  rw [tbs_len h hl, Nat.mul_div_cancel _ (by decide)]
  induction n with
  | zero => rfl
  | succ n ih =>
    have hn := tbs_len h hl c m n
    have hc := chk_len h hl c (m + n)
    have e : dL (tbs ds c m (n + 1)) (n + 1) = dL (tbs ds c m n) n ++ [chk ds c (m + n)] := by
      apply List.ext_getElem?
      intro j
      by_cases hj : j < n + 1
      · rw [dL_get hj]
        have e1 : (32 * (j : Int)) = ((32 * j : Nat) : Int) := by omega
        have hn1 := tbs_len h hl c m (n + 1)
        rw [e1, gd_in (by omega), tbs_succ]
        by_cases hjn : j < n
        · rw [List.getElem?_append_left (by rw [dL_length]; omega), dL_get hjn, e1, gd_in (by omega), List.drop_append_of_le_length (by omega), List.take_append_of_le_length (by rw [List.length_drop]; omega)]
        · obtain rfl : j = n := by omega
          rw [List.getElem?_append_right (by rw [dL_length]; omega), dL_length, Nat.sub_self, List.drop_append, List.drop_of_length_le (by omega), List.nil_append, hn, show 32 * j - j * 32 = 0 by omega, List.drop_zero, List.take_of_length_le (by omega)]
          rfl
      · rw [List.getElem?_eq_none (by rw [dL_length]; omega), List.getElem?_eq_none (by rw [List.length_append, dL_length]; simp; omega)]
    rw [e, ih, List.range_succ, List.map_append]
    rfl
theorem chk_sub {ds : List (List UInt8)} {c s k j : Nat} (hj : j < k) : chk ((ds.drop (s * c)).take (k * c)) c j = chk ds c (s + j) := by
  rw [chk_take (Nat.mul_le_mul_right _ (by omega)), chk_drop]
/-- The roots of 2^r parts of 2^q digests each, from the s-th part on, have the root of all these digests. -/
theorem roots_root {ds : List (List UInt8)} {r q s n f : Nat} (hl : ds.length ≤ 281474976710656) (hs : (s + 2 ^ r) * 2 ^ q ≤ ds.length) (hf : f + 2 ^ r ≤ n) (m : Nat) (hm : m + f = s) : rootS (((((List.range n).map fun j => chk ds (2 ^ q) (m + j))).drop f).take (2 ^ r)) = rootS ((ds.drop (s * 2 ^ q)).take (2 ^ (r + q))) := by
  have hr : 0 < 2 ^ r := Nat.two_pow_pos _
  have hq : 0 < 2 ^ (r + q) := Nat.two_pow_pos _
  have hrq : 2 ^ (r + q) = 2 ^ r * 2 ^ q := Nat.pow_add _ _ _
  rw [Nat.add_mul, ← hrq] at hs
  have lx : ((ds.drop (s * 2 ^ q)).take (2 ^ (r + q))).length = 2 ^ (r + q) := by rw [List.length_take, List.length_drop]; omega
  have e : (((List.range n).map fun j => chk ds (2 ^ q) (m + j)).drop f).take (2 ^ r) = (List.range (2 ^ r)).map fun j => chk ((ds.drop (s * 2 ^ q)).take (2 ^ (r + q))) (2 ^ q) j := by
    apply List.ext_getElem?
    intro j
    by_cases hj : j < 2 ^ r
    · rw [List.getElem?_take_of_lt hj, List.getElem?_drop, List.getElem?_map, List.getElem?_range (by omega), List.getElem?_map, List.getElem?_range hj, Option.map_some, Option.map_some, hrq, chk_sub hj, ← hm, Nat.add_assoc]
    · rw [List.getElem?_eq_none (by rw [List.length_take]; omega), List.getElem?_eq_none (by rw [List.length_map, List.length_range]; omega)]
  rw [e, rootS_R (by rw [List.length_map, List.length_range]; omega), R_parts q r _ lx (by omega), rootS_R (by omega)]
/-- The numbers of a node's tile in a log. -/
theorem sub_nums {n a b N : Nat} (h1 : 1 ≤ n) (h8 : n ≤ 8) (ha : a ≤ 20) (hN : N ≤ 281474976710656) (hb : (b + 1) * 2 ^ a ≤ N) :
    b < 2 ^ (48 - a) ∧ oT n a b ≤ 2 ^ n ∧ n * (a / n) ≤ 20 ∧ oS n a b = oS n a b / 2 ^ n * 2 ^ n + oF n a b ∧ oS n a b + 2 ^ (a % n) ≤ N / 2 ^ (n * (a / n)) ∧ 2 ^ a = 2 ^ (a % n) * 2 ^ (n * (a / n)) := by
  have hp : 0 < 2 ^ a := Nat.two_pow_pos _
  have hd : a % n + n * (a / n) = a := Nat.mod_add_div a n
  have hmn : a % n < n := Nat.mod_lt _ (by omega)
  have e2 : 2 ^ a = 2 ^ (a % n) * 2 ^ (n * (a / n)) := by rw [← Nat.pow_add, hd]
  have e3 : 2 ^ 48 = 2 ^ (48 - a) * 2 ^ a := by rw [← Nat.pow_add]; congr 1; omega
  have e4 : 2 ^ n = 2 ^ (n - a % n) * 2 ^ (a % n) := by rw [← Nat.pow_add]; congr 1; omega
  refine ⟨?_, ?_, by omega, ?_, ?_, e2⟩
  · have : (b + 1) * 2 ^ a ≤ 2 ^ (48 - a) * 2 ^ a := by rw [← e3]; exact Nat.le_trans hb hN
    have := Nat.le_of_mul_le_mul_right this hp
    omega
  · unfold oT oF oS
    have hk : 0 < 2 ^ (a % n) := Nat.two_pow_pos _
    have hk2 : 0 < 2 ^ (n - a % n) := Nat.two_pow_pos _
    rw [e4, Nat.mul_mod_mul_right, ← Nat.succ_mul]
    exact Nat.mul_le_mul_right _ (Nat.mod_lt _ hk2)
  · unfold oF; rw [Nat.mul_comm]; exact (Nat.div_add_mod _ _).symm
  · rw [Nat.le_div_iff_mul_le (Nat.two_pow_pos _)]
    unfold oS
    rw [← Nat.succ_mul, Nat.mul_assoc, ← e2]
    exact hb
end Go.Proofs.YtnecgoahdkfbeaaDoor.Tid
end

section
namespace Go.Proofs.YtnecgoahdkfbeaaDoor.Tid
open Go Go.RowKit Go.Proofs.YtnecgoahdkfbeaaDoor Go.Proofs.YtnecgoahdkfbeaaDoor.Cop Go.Proofs.YtnecgoahdkfbeaaDoor.Ver Go.Proofs.YtnecgoahdkfbeaaDoor.Tre Go.Proofs.YtnecgoahdkfbeaaDoor.TreP Go.Proofs.YtnecgoahdkfbeaaDoor.Vfy Go.Proofs.YtnecgoahdkfbeaaDoor.Oct Go.Proofs.YtnecgoahdkfbeaaDoor.Dsl Go.Proofs.YtnecgoahdkfbeaaDoor.Sha
set_option linter.unusedVariables false
set_option linter.unusedSimpArgs false
theorem ag3_tsb (w : World) : (isAgg 3).run Tryd.prog w = .ok false w := by kernel_rfl
theorem ag38_tsb (w : World) : (isAgg 38).run Tryd.prog w = .ok true w := by kernel_rfl
theorem sz38_tsb : (Tryd.prog.info? 38).map (fun i => i.size) = some 2 := by kernel_rfl
theorem en18_tsb : Eng.Entr Tryd.prog 18 := ⟨_, Tryd.func18, by kernel_rfl, by kernel_rfl⟩
theorem zr23_tsb (w : World) : (zeroValue 23).run Tryd.prog w = .ok (.agg #[(.int .i64 0), (.int .i64 0), (.int .i64 0), (.int .i64 0)]) w := by kernel_rfl
theorem sz23_tsb : (Tryd.prog.info? 23).map (fun i => i.size) = some 4 := by kernel_rfl
theorem en19_tsb : Eng.Entr Tryd.prog 19 := ⟨_, Tryd.func19, by kernel_rfl, by kernel_rfl⟩
theorem sz3_tsb : (Tryd.prog.info? 3).map (fun i => i.size) = some 1 := by kernel_rfl
theorem ag23_tsb (w : World) : (isAgg 23).run Tryd.prog w = .ok true w := by kernel_rfl
theorem en21_tsb : Eng.Entr Tryd.prog 21 := ⟨_, Tryd.func21, by kernel_rfl, by kernel_rfl⟩
theorem en20_tsb : Eng.Entr Tryd.prog 20 := ⟨_, Tryd.func20, by kernel_rfl, by kernel_rfl⟩
theorem zr45_tsb (w : World) : (zeroValue 45).run Tryd.prog w = .ok (dg Oct.dz) w := by kernel_rfl
theorem sz45_tsb : (Tryd.prog.info? 45).map (fun i => i.size) = some 32 := by kernel_rfl
theorem en22_tsb : Eng.Entr Tryd.prog 22 := ⟨_, Tryd.func22, by kernel_rfl, by kernel_rfl⟩
theorem ag45_tsb (w : World) : (isAgg 45).run Tryd.prog w = .ok true w := by kernel_rfl
theorem sz5_tsb : (Tryd.prog.info? 5).map (fun i => i.size) = some 1 := by kernel_rfl
/-- The bytes of a tile of a log tell the root of a node's leaves. -/
theorem dig_root {n a c x N : Nat} {ds : List (List UInt8)} (h1 : 1 ≤ n) (h8 : n ≤ 8) (ha : a ≤ 20) (hN : ds.length = N) (hm : N ≤ 281474976710656) (h32 : All32 ds) (hb : (c + 1) * 2 ^ a ≤ N) (hx : oT n a c ≤ x) (hx8 : x ≤ 2 ^ n) (hxo : (oS n a c / 2 ^ n) * 2 ^ n + x ≤ N / 2 ^ (a / n * n)) :
    digOf (n : Int) ((a / n : Nat) : Int) (((oS n a c / 2 ^ n) : Nat) : Int) (x : Int) (a : Int) (c : Int) (tbs ds (2 ^ (a / n * n)) ((oS n a c / 2 ^ n) * 2 ^ n) x) = (rootS ((ds.drop (c * 2 ^ a)).take (2 ^ a)), 0) := by
  obtain ⟨s1, s2, s3, s4, s5, s6⟩ := sub_nums h1 h8 ha hm hb
  obtain ⟨b1, b2, b3, b4, b5, b6, b7, b8, b9⟩ := o_bounds h1 h8 (show a ≤ 48 by omega) s1
  have hcm : n * (a / n) = a / n * n := Nat.mul_comm _ _
  rw [hcm] at s3 s5 s6
  have hq : a % n + a / n * n = a := by rw [← hcm]; exact Nat.mod_add_div a n
  have hT : oT n a c = oF n a c + 2 ^ (a % n) := rfl
  have ht1 : ht (n : Int) = true := decide_eq_true (by omega)
  have hl := tbs_len h32 (hN ▸ hm) (2 ^ (a / n * n)) ((oS n a c / 2 ^ n) * 2 ^ n) x
  have hnv : nv (a : Int) (c : Int) = true := decide_eq_true ⟨by omega, by omega, by omega, by simp only [Int.toNat_natCast]; exact_mod_cast s1⟩
  have hlt : (oS n a c / 2 ^ n) * 2 ^ n + x ≤ 2 ^ (48 - a / n * n) := by
    refine Nat.le_trans hxo (Nat.le_trans (Nat.div_le_div_right (c := 2 ^ (a / n * n)) (show N ≤ 2 ^ 48 from hm)) ?_)
    rw [Nat.pow_div (by omega) (by omega)]
    exact Nat.le_refl _
  have htv : tv (n : Int) ((a / n : Nat) : Int) (((oS n a c / 2 ^ n) : Nat) : Int) (x : Int) = true := by
    generalize (oS n a c / 2 ^ n) = J at hxo s4 hlt ⊢
    generalize a / n = L at hxo s3 hlt ⊢
    have hnv2 : nv ((L : Int) * (n : Int)) ((J : Int) * ((2 ^ (n : Int).toNat : Nat) : Int) + (x : Int) - 1) = true := by
      rw [Int.toNat_natCast, ← Int.natCast_mul, ← Int.natCast_mul]
      refine decide_eq_true ⟨by omega, by omega, by omega, ?_⟩
      rw [Int.toNat_natCast]
      omega
    rw [← tvT ht1 (by omega) (by omega) (by omega) (by rw [Int.toNat_natCast]; omega)]
    exact hnv2
  rw [dg_ok htv hnv (by rw [hl]; omega) rfl rfl rfl rfl rfl (by omega), dL_tbs h32 (hN ▸ hm), hT, Nat.add_sub_cancel_left]
  have hs : (oS n a c + 2 ^ (a % n)) * 2 ^ (a / n * n) ≤ ds.length := by
    rw [hN]
    exact Nat.le_trans (Nat.mul_le_mul_right _ s5) (Nat.div_mul_le_self _ _)
  rw [roots_root (r := a % n) (q := a / n * n) (s := oS n a c) (n := x) (f := oF n a c) (hN ▸ hm) hs (by omega) ((oS n a c / 2 ^ n) * 2 ^ n) s4.symm, hq]
  have : oS n a c * 2 ^ (a / n * n) = c * 2 ^ a := by unfold oS; rw [Nat.mul_assoc, ← s6]
  rw [this]
/-- What the law's calls tell, where its guard lets through. -/
theorem tsb_all {h l i : Int} {ds : List (List UInt8)} (c1 : ¬ h < 1) (c2 : ¬ 8 < h) (c3 : ¬ l < 0) (c4 : ¬ 20 < l) (c5 : ¬ i < 0) (c6 : ¬ ((ds.length / 2 ^ l.toNat : Nat) : Int) ≤ i) (h32 : All32 ds) (hm : ds.length ≤ 281474976710656) (w : World) :
    ∃ n a c x N : Nat, h = (n : Int) ∧ l = (a : Int) ∧ i = (c : Int) ∧ ds.length = N ∧ N ≤ 281474976710656 ∧ 1 ≤ n ∧ n ≤ 8 ∧ a ≤ 20 ∧ oF n a c < oT n a c ∧ oT n a c ≤ 2 ^ n ∧ oT n a c ≤ x ∧ x ≤ 256 ∧ 2 ^ n ≤ 256 ∧ (c + 1) * 2 ^ a ≤ N ∧ c * 2 ^ a ≤ N ∧ a / n * n ≤ 48 ∧ ((oS n a c / 2 ^ n) * 2 ^ n + x) * 2 ^ (a / n * n) ≤ N ∧ (oS n a c / 2 ^ n) * 2 ^ n ≤ 281474976710656 ∧
      (∀ w, Calls Tryd.prog 18 #[.int .i64 h, .agg #[.int .i64 l, .int .i64 i]] w fun e w' => e = .returned (.tuple #[.agg #[.int .i64 (n : Int), .int .i64 ((a / n : Nat) : Int), .int .i64 ((oS n a c / 2 ^ n : Nat) : Int), .int .i64 (oT n a c : Int)], .int .i64 (oF n a c : Int), .int .i64 (oT n a c : Int), .int .i64 0]) ∧ Below w.heap.size w w') ∧
      (∀ w, Calls Tryd.prog 19 #[.int .i64 h, .int .i64 ((a / n : Nat) : Int), .int .i64 (((oS n a c / 2 ^ n) : Nat) : Int), .int .i64 (ds.length : Int)] w fun e w' => e = .returned (.tuple #[.int .i64 (x : Int), .int .i64 0]) ∧ Below w.heap.size w w') ∧
      digOf (n : Int) ((a / n : Nat) : Int) (((oS n a c / 2 ^ n) : Nat) : Int) (x : Int) l i (tbs ds (2 ^ (a / n * n)) ((oS n a c / 2 ^ n) * 2 ^ n) x) = (rootS ((ds.drop (c * 2 ^ a)).take (2 ^ a)), 0) ∧
      subS ds ((c * 2 ^ a : Nat) : Int) (((c + 1) * 2 ^ a : Nat) : Int) = (rootS ((ds.drop (c * 2 ^ a)).take (2 ^ a)), 0) := by
  obtain ⟨n, rfl⟩ : ∃ n : Nat, h = (n : Int) := ⟨h.toNat, by omega⟩
  obtain ⟨a, rfl⟩ : ∃ a : Nat, l = (a : Int) := ⟨l.toNat, by omega⟩
  obtain ⟨c, rfl⟩ : ∃ c : Nat, i = (c : Int) := ⟨i.toNat, by omega⟩
  obtain ⟨N, hN⟩ : ∃ N, ds.length = N := ⟨_, rfl⟩
  rw [Int.toNat_natCast, hN] at c6
  rw [hN] at hm ⊢
  have h1 : 1 ≤ n := by omega
  have h8 : n ≤ 8 := by omega
  have ha : a ≤ 20 := by omega
  have hb : (c + 1) * 2 ^ a ≤ N := (Nat.le_div_iff_mul_le (Nat.two_pow_pos _)).1 (by omega)
  have hb2 : (c + 1) * 2 ^ a = c * 2 ^ a + 2 ^ a := Nat.succ_mul _ _
  obtain ⟨s1, s2, s3, s4, s5, s6⟩ := sub_nums h1 h8 ha hm hb
  obtain ⟨b1, b2, b3, b4, b5, b6, b7, b8, b9⟩ := o_bounds h1 h8 (show a ≤ 48 by omega) s1
  have hcm : n * (a / n) = a / n * n := Nat.mul_comm _ _
  have hT : oT n a c = oF n a c + 2 ^ (a % n) := rfl
  obtain ⟨o, ho⟩ : ∃ o, N / 2 ^ (n * (a / n)) = o := ⟨_, rfl⟩
  have hid : (oS n a c / 2 ^ n) ≤ o / 2 ^ n := Nat.div_le_div_right (by omega)
  obtain ⟨x, hx⟩ : ∃ x, min (o - (oS n a c / 2 ^ n) * 2 ^ n) (2 ^ n) = x := ⟨_, rfl⟩
  have hx1 : oT n a c ≤ x := by omega
  have hx2 : (oS n a c / 2 ^ n) * 2 ^ n + x ≤ o := by omega
  have hx3 : x ≤ 2 ^ n := by omega
  refine ⟨n, a, c, x, N, rfl, rfl, rfl, rfl, hm, h1, h8, ha, by omega, s2, hx1, by omega, b3, hb, by omega, by omega, ?_, by omega, ?_, ?_, ?_, ?_⟩
  · rw [← hcm]
    exact Nat.le_trans (Nat.mul_le_mul_right _ (ho ▸ hx2)) (Nat.div_mul_le_self _ _)
  · exact fun w => of_yes n a c h1 h8 (by omega) s1 w
  · intro w
    have := width_ok n (a / n) (oS n a c / 2 ^ n) N o h1 h8 (by omega) hm ho hid w
    rwa [hx] at this
  · exact dig_root h1 h8 ha hN hm h32 hb hx1 hx3 (by rw [← hcm, ho]; exact hx2)
  · unfold subS
    have hp : 0 < 2 ^ a := Nat.two_pow_pos _
    rw [if_neg (by omega), Int.toNat_natCast, Int.toNat_natCast, hb2, Nat.add_sub_cancel_left]
set_option maxRecDepth 100000 in
set_option maxHeartbeats 4000000 in
theorem subs_law (h l i : Int) (v : Value) (ds : List (List UInt8)) (w : World) (hD : Ds w v ds) (hm : ds.length ≤ 281474976710656) (hi : i ≤ 9223372036854775807) (hKn : Kon w) : Calls Tryd.prog 5 #[(.int .i64 h), v, (.agg #[(.int .i64 l), (.int .i64 i)])] w (fun e w' => e = .returned (.bool true) ∧ Below w.heap.size w w') := by
  have hsm := hD.1.small
  refine Eng.enter (l := [(.int .i64 h), v, (.agg #[(.int .i64 l), (.int .i64 i)])]) Tryd.func5 rfl 128 rfl (by simp) ?_
  refine Eng.seqk fun K1 hK1 => ?_
  refine Eng.reg ?_
  refine Eng.bo (v := (.agg #[(.int .i64 l), (.int .i64 i)])) (cs := [(.int .i64 l), (.int .i64 i)]) rfl rfl rfl rfl rfl ?_
  intro w2 hk2 hb2 hz2
  refine Eng.sv rfl rfl (Eng.x_as (v := (.bool false)) rfl rfl) ?_
  refine Eng.nil ?_
  refine hK1 _ _ ?_
  refine Eng.seqk fun K3 hK3 => ?_
  refine Eng.seqk fun K4 hK4 => ?_
  by_cases q0 : h < 1
  · skip
    refine Eng.reg ?_
    refine Eng.sv rfl rfl (Eng.x_mv (v := (.int .i64 h)) rfl rfl) ?_
    refine Eng.sv rfl rfl (Eng.x_lt (r := true) rfl rfl rfl (decide_eq_true (by omega))) ?_
    refine Eng.sv rfl rfl (Eng.x_mv (v := (.bool true)) rfl rfl) ?_
    refine Eng.sg (Eng.gf rfl rfl rfl rfl) rfl ?_
    refine Eng.sg (Eng.gf rfl rfl rfl rfl) rfl ?_
    refine Eng.sv rfl rfl (Eng.x_pick (v := (.bool true)) rfl rfl rfl rfl rfl) ?_
    refine Eng.sv rfl rfl (Eng.x_mv (v := (.bool true)) rfl rfl) ?_
    refine Eng.sg (Eng.gf rfl rfl rfl rfl) rfl ?_
    refine Eng.sg (Eng.gf rfl rfl rfl rfl) rfl ?_
    refine Eng.sg (Eng.gf rfl rfl rfl rfl) rfl ?_
    refine Eng.sv rfl rfl (Eng.x_pick (v := (.bool true)) rfl rfl rfl rfl rfl) ?_
    refine Eng.sv rfl rfl (Eng.x_mv (v := (.bool true)) rfl rfl) ?_
    refine Eng.sg (Eng.gf rfl rfl rfl rfl) rfl ?_
    refine Eng.sg (Eng.gf rfl rfl rfl rfl) rfl ?_
    refine Eng.sg (Eng.gf rfl rfl rfl rfl) rfl ?_
    refine Eng.sv rfl rfl (Eng.x_pick (v := (.bool true)) rfl rfl rfl rfl rfl) ?_
    refine Eng.sv rfl rfl (Eng.x_mv (v := (.bool true)) rfl rfl) ?_
    refine Eng.sg (Eng.gf rfl rfl rfl rfl) rfl ?_
    refine Eng.sg (Eng.gf rfl rfl rfl rfl) rfl ?_
    refine Eng.sg (Eng.gf rfl rfl rfl rfl) rfl ?_
    refine Eng.sv rfl rfl (Eng.x_pick (v := (.bool true)) rfl rfl rfl rfl rfl) ?_
    refine Eng.sv rfl rfl (Eng.x_mv (v := (.bool true)) rfl rfl) ?_
    refine Eng.sg (Eng.gf rfl rfl rfl rfl) rfl ?_
    refine Eng.sg (Eng.gf rfl rfl rfl rfl) rfl ?_
    refine Eng.sg (Eng.gf rfl rfl rfl rfl) rfl ?_
    refine Eng.sg (Eng.gf rfl rfl rfl rfl) rfl ?_
    refine Eng.sg (Eng.gf rfl rfl rfl rfl) rfl ?_
    refine Eng.sg (Eng.gf rfl rfl rfl rfl) rfl ?_
    refine Eng.sg (Eng.gf rfl rfl rfl rfl) rfl ?_
    refine Eng.sg (Eng.gf rfl rfl rfl rfl) rfl ?_
    refine Eng.sg (Eng.gf rfl rfl rfl rfl) rfl ?_
    refine Eng.sv rfl rfl (Eng.x_pick (v := (.bool true)) rfl rfl rfl rfl rfl) ?_
    refine Eng.nil ?_
    refine hK4 _ _ ?_
    refine Eng.cond_t rfl ?_
    refine Eng.seqk fun K5 hK5 => ?_
    refine Eng.reg ?_
    refine Eng.sv rfl rfl (Eng.x_as (v := (.bool true)) rfl rfl) ?_
    refine Eng.nil ?_
    refine hK5 _ _ ?_
    refine Eng.rt ?_
    refine Eng.tr ?_
    refine Eng.ret (Eng.res1 (v1 := (.bool true)) rfl (Eng.rdt rfl)) ?_
    exact ⟨rfl, hb2⟩
  · skip
    by_cases q1 : 8 < h
    · skip
      refine Eng.reg ?_
      refine Eng.sv rfl rfl (Eng.x_mv (v := (.int .i64 h)) rfl rfl) ?_
      refine Eng.sv rfl rfl (Eng.x_lt (r := false) rfl rfl rfl (decide_eq_false (by omega))) ?_
      refine Eng.sv rfl rfl (Eng.x_mv (v := (.bool false)) rfl rfl) ?_
      refine Eng.sv (Eng.gt rfl rfl rfl rfl) rfl (Eng.x_mv (v := (.int .i64 h)) rfl rfl) ?_
      refine Eng.sv (Eng.gt rfl rfl rfl rfl) rfl (Eng.x_gt (r := true) rfl rfl rfl (decide_eq_true (by omega))) ?_
      refine Eng.sv rfl rfl (Eng.x_pick (v := (.bool true)) rfl rfl rfl rfl rfl) ?_
      refine Eng.sv rfl rfl (Eng.x_mv (v := (.bool true)) rfl rfl) ?_
      refine Eng.sg (Eng.gf rfl rfl rfl rfl) rfl ?_
      refine Eng.sg (Eng.gf rfl rfl rfl rfl) rfl ?_
      refine Eng.sg (Eng.gf rfl rfl rfl rfl) rfl ?_
      refine Eng.sv rfl rfl (Eng.x_pick (v := (.bool true)) rfl rfl rfl rfl rfl) ?_
      refine Eng.sv rfl rfl (Eng.x_mv (v := (.bool true)) rfl rfl) ?_
      refine Eng.sg (Eng.gf rfl rfl rfl rfl) rfl ?_
      refine Eng.sg (Eng.gf rfl rfl rfl rfl) rfl ?_
      refine Eng.sg (Eng.gf rfl rfl rfl rfl) rfl ?_
      refine Eng.sv rfl rfl (Eng.x_pick (v := (.bool true)) rfl rfl rfl rfl rfl) ?_
      refine Eng.sv rfl rfl (Eng.x_mv (v := (.bool true)) rfl rfl) ?_
      refine Eng.sg (Eng.gf rfl rfl rfl rfl) rfl ?_
      refine Eng.sg (Eng.gf rfl rfl rfl rfl) rfl ?_
      refine Eng.sg (Eng.gf rfl rfl rfl rfl) rfl ?_
      refine Eng.sv rfl rfl (Eng.x_pick (v := (.bool true)) rfl rfl rfl rfl rfl) ?_
      refine Eng.sv rfl rfl (Eng.x_mv (v := (.bool true)) rfl rfl) ?_
      refine Eng.sg (Eng.gf rfl rfl rfl rfl) rfl ?_
      refine Eng.sg (Eng.gf rfl rfl rfl rfl) rfl ?_
      refine Eng.sg (Eng.gf rfl rfl rfl rfl) rfl ?_
      refine Eng.sg (Eng.gf rfl rfl rfl rfl) rfl ?_
      refine Eng.sg (Eng.gf rfl rfl rfl rfl) rfl ?_
      refine Eng.sg (Eng.gf rfl rfl rfl rfl) rfl ?_
      refine Eng.sg (Eng.gf rfl rfl rfl rfl) rfl ?_
      refine Eng.sg (Eng.gf rfl rfl rfl rfl) rfl ?_
      refine Eng.sg (Eng.gf rfl rfl rfl rfl) rfl ?_
      refine Eng.sv rfl rfl (Eng.x_pick (v := (.bool true)) rfl rfl rfl rfl rfl) ?_
      refine Eng.nil ?_
      refine hK4 _ _ ?_
      refine Eng.cond_t rfl ?_
      refine Eng.seqk fun K6 hK6 => ?_
      refine Eng.reg ?_
      refine Eng.sv rfl rfl (Eng.x_as (v := (.bool true)) rfl rfl) ?_
      refine Eng.nil ?_
      refine hK6 _ _ ?_
      refine Eng.rt ?_
      refine Eng.tr ?_
      refine Eng.ret (Eng.res1 (v1 := (.bool true)) rfl (Eng.rdt rfl)) ?_
      exact ⟨rfl, hb2⟩
    · skip
      by_cases q2 : l < 0
      · skip
        refine Eng.reg ?_
        refine Eng.sv rfl rfl (Eng.x_mv (v := (.int .i64 h)) rfl rfl) ?_
        refine Eng.sv rfl rfl (Eng.x_lt (r := false) rfl rfl rfl (decide_eq_false (by omega))) ?_
        refine Eng.sv rfl rfl (Eng.x_mv (v := (.bool false)) rfl rfl) ?_
        refine Eng.sv (Eng.gt rfl rfl rfl rfl) rfl (Eng.x_mv (v := (.int .i64 h)) rfl rfl) ?_
        refine Eng.sv (Eng.gt rfl rfl rfl rfl) rfl (Eng.x_gt (r := false) rfl rfl rfl (decide_eq_false (by omega))) ?_
        refine Eng.sv rfl rfl (Eng.x_pick (v := (.bool false)) rfl rfl rfl rfl rfl) ?_
        refine Eng.sv rfl rfl (Eng.x_mv (v := (.bool false)) rfl rfl) ?_
        refine Eng.sv (Eng.gt rfl rfl rfl rfl) rfl (Eng.x_fa (v := (.pointer (some ⟨w.heap.size, 0, none⟩))) rfl rfl (by kernel_rfl)) ?_
        refine Eng.sv (Eng.gt rfl rfl rfl rfl) rfl (Eng.x_ld1 (v := (.int .i64 l)) rfl ag3_tsb rfl ((hk2).cell 0)) ?_
        refine Eng.sv (Eng.gt rfl rfl rfl rfl) rfl (Eng.x_lt (r := true) rfl rfl rfl (decide_eq_true (by omega))) ?_
        refine Eng.sv rfl rfl (Eng.x_pick (v := (.bool true)) rfl rfl rfl rfl rfl) ?_
        refine Eng.sv rfl rfl (Eng.x_mv (v := (.bool true)) rfl rfl) ?_
        refine Eng.sg (Eng.gf rfl rfl rfl rfl) rfl ?_
        refine Eng.sg (Eng.gf rfl rfl rfl rfl) rfl ?_
        refine Eng.sg (Eng.gf rfl rfl rfl rfl) rfl ?_
        refine Eng.sv rfl rfl (Eng.x_pick (v := (.bool true)) rfl rfl rfl rfl rfl) ?_
        refine Eng.sv rfl rfl (Eng.x_mv (v := (.bool true)) rfl rfl) ?_
        refine Eng.sg (Eng.gf rfl rfl rfl rfl) rfl ?_
        refine Eng.sg (Eng.gf rfl rfl rfl rfl) rfl ?_
        refine Eng.sg (Eng.gf rfl rfl rfl rfl) rfl ?_
        refine Eng.sv rfl rfl (Eng.x_pick (v := (.bool true)) rfl rfl rfl rfl rfl) ?_
        refine Eng.sv rfl rfl (Eng.x_mv (v := (.bool true)) rfl rfl) ?_
        refine Eng.sg (Eng.gf rfl rfl rfl rfl) rfl ?_
        refine Eng.sg (Eng.gf rfl rfl rfl rfl) rfl ?_
        refine Eng.sg (Eng.gf rfl rfl rfl rfl) rfl ?_
        refine Eng.sg (Eng.gf rfl rfl rfl rfl) rfl ?_
        refine Eng.sg (Eng.gf rfl rfl rfl rfl) rfl ?_
        refine Eng.sg (Eng.gf rfl rfl rfl rfl) rfl ?_
        refine Eng.sg (Eng.gf rfl rfl rfl rfl) rfl ?_
        refine Eng.sg (Eng.gf rfl rfl rfl rfl) rfl ?_
        refine Eng.sg (Eng.gf rfl rfl rfl rfl) rfl ?_
        refine Eng.sv rfl rfl (Eng.x_pick (v := (.bool true)) rfl rfl rfl rfl rfl) ?_
        refine Eng.nil ?_
        refine hK4 _ _ ?_
        refine Eng.cond_t rfl ?_
        refine Eng.seqk fun K7 hK7 => ?_
        refine Eng.reg ?_
        refine Eng.sv rfl rfl (Eng.x_as (v := (.bool true)) rfl rfl) ?_
        refine Eng.nil ?_
        refine hK7 _ _ ?_
        refine Eng.rt ?_
        refine Eng.tr ?_
        refine Eng.ret (Eng.res1 (v1 := (.bool true)) rfl (Eng.rdt rfl)) ?_
        exact ⟨rfl, hb2⟩
      · skip
        by_cases q3 : 20 < l
        · skip
          refine Eng.reg ?_
          refine Eng.sv rfl rfl (Eng.x_mv (v := (.int .i64 h)) rfl rfl) ?_
          refine Eng.sv rfl rfl (Eng.x_lt (r := false) rfl rfl rfl (decide_eq_false (by omega))) ?_
          refine Eng.sv rfl rfl (Eng.x_mv (v := (.bool false)) rfl rfl) ?_
          refine Eng.sv (Eng.gt rfl rfl rfl rfl) rfl (Eng.x_mv (v := (.int .i64 h)) rfl rfl) ?_
          refine Eng.sv (Eng.gt rfl rfl rfl rfl) rfl (Eng.x_gt (r := false) rfl rfl rfl (decide_eq_false (by omega))) ?_
          refine Eng.sv rfl rfl (Eng.x_pick (v := (.bool false)) rfl rfl rfl rfl rfl) ?_
          refine Eng.sv rfl rfl (Eng.x_mv (v := (.bool false)) rfl rfl) ?_
          refine Eng.sv (Eng.gt rfl rfl rfl rfl) rfl (Eng.x_fa (v := (.pointer (some ⟨w.heap.size, 0, none⟩))) rfl rfl (by kernel_rfl)) ?_
          refine Eng.sv (Eng.gt rfl rfl rfl rfl) rfl (Eng.x_ld1 (v := (.int .i64 l)) rfl ag3_tsb rfl ((hk2).cell 0)) ?_
          refine Eng.sv (Eng.gt rfl rfl rfl rfl) rfl (Eng.x_lt (r := false) rfl rfl rfl (decide_eq_false (by omega))) ?_
          refine Eng.sv rfl rfl (Eng.x_pick (v := (.bool false)) rfl rfl rfl rfl rfl) ?_
          refine Eng.sv rfl rfl (Eng.x_mv (v := (.bool false)) rfl rfl) ?_
          refine Eng.sv (Eng.gt rfl rfl rfl rfl) rfl (Eng.x_fa (v := (.pointer (some ⟨w.heap.size, 0, none⟩))) rfl rfl (by kernel_rfl)) ?_
          refine Eng.sv (Eng.gt rfl rfl rfl rfl) rfl (Eng.x_ld1 (v := (.int .i64 l)) rfl ag3_tsb rfl ((hk2).cell 0)) ?_
          refine Eng.sv (Eng.gt rfl rfl rfl rfl) rfl (Eng.x_gt (r := true) rfl rfl rfl (decide_eq_true (by omega))) ?_
          refine Eng.sv rfl rfl (Eng.x_pick (v := (.bool true)) rfl rfl rfl rfl rfl) ?_
          refine Eng.sv rfl rfl (Eng.x_mv (v := (.bool true)) rfl rfl) ?_
          refine Eng.sg (Eng.gf rfl rfl rfl rfl) rfl ?_
          refine Eng.sg (Eng.gf rfl rfl rfl rfl) rfl ?_
          refine Eng.sg (Eng.gf rfl rfl rfl rfl) rfl ?_
          refine Eng.sv rfl rfl (Eng.x_pick (v := (.bool true)) rfl rfl rfl rfl rfl) ?_
          refine Eng.sv rfl rfl (Eng.x_mv (v := (.bool true)) rfl rfl) ?_
          refine Eng.sg (Eng.gf rfl rfl rfl rfl) rfl ?_
          refine Eng.sg (Eng.gf rfl rfl rfl rfl) rfl ?_
          refine Eng.sg (Eng.gf rfl rfl rfl rfl) rfl ?_
          refine Eng.sg (Eng.gf rfl rfl rfl rfl) rfl ?_
          refine Eng.sg (Eng.gf rfl rfl rfl rfl) rfl ?_
          refine Eng.sg (Eng.gf rfl rfl rfl rfl) rfl ?_
          refine Eng.sg (Eng.gf rfl rfl rfl rfl) rfl ?_
          refine Eng.sg (Eng.gf rfl rfl rfl rfl) rfl ?_
          refine Eng.sg (Eng.gf rfl rfl rfl rfl) rfl ?_
          refine Eng.sv rfl rfl (Eng.x_pick (v := (.bool true)) rfl rfl rfl rfl rfl) ?_
          refine Eng.nil ?_
          refine hK4 _ _ ?_
          refine Eng.cond_t rfl ?_
          refine Eng.seqk fun K8 hK8 => ?_
          refine Eng.reg ?_
          refine Eng.sv rfl rfl (Eng.x_as (v := (.bool true)) rfl rfl) ?_
          refine Eng.nil ?_
          refine hK8 _ _ ?_
          refine Eng.rt ?_
          refine Eng.tr ?_
          refine Eng.ret (Eng.res1 (v1 := (.bool true)) rfl (Eng.rdt rfl)) ?_
          exact ⟨rfl, hb2⟩
        · skip
          by_cases q4 : i < 0
          · skip
            refine Eng.reg ?_
            refine Eng.sv rfl rfl (Eng.x_mv (v := (.int .i64 h)) rfl rfl) ?_
            refine Eng.sv rfl rfl (Eng.x_lt (r := false) rfl rfl rfl (decide_eq_false (by omega))) ?_
            refine Eng.sv rfl rfl (Eng.x_mv (v := (.bool false)) rfl rfl) ?_
            refine Eng.sv (Eng.gt rfl rfl rfl rfl) rfl (Eng.x_mv (v := (.int .i64 h)) rfl rfl) ?_
            refine Eng.sv (Eng.gt rfl rfl rfl rfl) rfl (Eng.x_gt (r := false) rfl rfl rfl (decide_eq_false (by omega))) ?_
            refine Eng.sv rfl rfl (Eng.x_pick (v := (.bool false)) rfl rfl rfl rfl rfl) ?_
            refine Eng.sv rfl rfl (Eng.x_mv (v := (.bool false)) rfl rfl) ?_
            refine Eng.sv (Eng.gt rfl rfl rfl rfl) rfl (Eng.x_fa (v := (.pointer (some ⟨w.heap.size, 0, none⟩))) rfl rfl (by kernel_rfl)) ?_
            refine Eng.sv (Eng.gt rfl rfl rfl rfl) rfl (Eng.x_ld1 (v := (.int .i64 l)) rfl ag3_tsb rfl ((hk2).cell 0)) ?_
            refine Eng.sv (Eng.gt rfl rfl rfl rfl) rfl (Eng.x_lt (r := false) rfl rfl rfl (decide_eq_false (by omega))) ?_
            refine Eng.sv rfl rfl (Eng.x_pick (v := (.bool false)) rfl rfl rfl rfl rfl) ?_
            refine Eng.sv rfl rfl (Eng.x_mv (v := (.bool false)) rfl rfl) ?_
            refine Eng.sv (Eng.gt rfl rfl rfl rfl) rfl (Eng.x_fa (v := (.pointer (some ⟨w.heap.size, 0, none⟩))) rfl rfl (by kernel_rfl)) ?_
            refine Eng.sv (Eng.gt rfl rfl rfl rfl) rfl (Eng.x_ld1 (v := (.int .i64 l)) rfl ag3_tsb rfl ((hk2).cell 0)) ?_
            refine Eng.sv (Eng.gt rfl rfl rfl rfl) rfl (Eng.x_gt (r := false) rfl rfl rfl (decide_eq_false (by omega))) ?_
            refine Eng.sv rfl rfl (Eng.x_pick (v := (.bool false)) rfl rfl rfl rfl rfl) ?_
            refine Eng.sv rfl rfl (Eng.x_mv (v := (.bool false)) rfl rfl) ?_
            refine Eng.sv (Eng.gt rfl rfl rfl rfl) rfl (Eng.x_fa (v := (.pointer (some ⟨w.heap.size, 1, none⟩))) rfl rfl (by kernel_rfl)) ?_
            refine Eng.sv (Eng.gt rfl rfl rfl rfl) rfl (Eng.x_ld1 (v := (.int .i64 i)) rfl ag3_tsb rfl ((hk2).cell 1)) ?_
            refine Eng.sv (Eng.gt rfl rfl rfl rfl) rfl (Eng.x_lt (r := true) rfl rfl rfl (decide_eq_true (by omega))) ?_
            refine Eng.sv rfl rfl (Eng.x_pick (v := (.bool true)) rfl rfl rfl rfl rfl) ?_
            refine Eng.sv rfl rfl (Eng.x_mv (v := (.bool true)) rfl rfl) ?_
            refine Eng.sg (Eng.gf rfl rfl rfl rfl) rfl ?_
            refine Eng.sg (Eng.gf rfl rfl rfl rfl) rfl ?_
            refine Eng.sg (Eng.gf rfl rfl rfl rfl) rfl ?_
            refine Eng.sg (Eng.gf rfl rfl rfl rfl) rfl ?_
            refine Eng.sg (Eng.gf rfl rfl rfl rfl) rfl ?_
            refine Eng.sg (Eng.gf rfl rfl rfl rfl) rfl ?_
            refine Eng.sg (Eng.gf rfl rfl rfl rfl) rfl ?_
            refine Eng.sg (Eng.gf rfl rfl rfl rfl) rfl ?_
            refine Eng.sg (Eng.gf rfl rfl rfl rfl) rfl ?_
            refine Eng.sv rfl rfl (Eng.x_pick (v := (.bool true)) rfl rfl rfl rfl rfl) ?_
            refine Eng.nil ?_
            refine hK4 _ _ ?_
            refine Eng.cond_t rfl ?_
            refine Eng.seqk fun K9 hK9 => ?_
            refine Eng.reg ?_
            refine Eng.sv rfl rfl (Eng.x_as (v := (.bool true)) rfl rfl) ?_
            refine Eng.nil ?_
            refine hK9 _ _ ?_
            refine Eng.rt ?_
            refine Eng.tr ?_
            refine Eng.ret (Eng.res1 (v1 := (.bool true)) rfl (Eng.rdt rfl)) ?_
            exact ⟨rfl, hb2⟩
          · skip
            by_cases q5 : ((ds.length / 2 ^ l.toNat : Nat) : Int) ≤ i
            · skip
              refine Eng.reg ?_
              refine Eng.sv rfl rfl (Eng.x_mv (v := (.int .i64 h)) rfl rfl) ?_
              refine Eng.sv rfl rfl (Eng.x_lt (r := false) rfl rfl rfl (decide_eq_false (by omega))) ?_
              refine Eng.sv rfl rfl (Eng.x_mv (v := (.bool false)) rfl rfl) ?_
              refine Eng.sv (Eng.gt rfl rfl rfl rfl) rfl (Eng.x_mv (v := (.int .i64 h)) rfl rfl) ?_
              refine Eng.sv (Eng.gt rfl rfl rfl rfl) rfl (Eng.x_gt (r := false) rfl rfl rfl (decide_eq_false (by omega))) ?_
              refine Eng.sv rfl rfl (Eng.x_pick (v := (.bool false)) rfl rfl rfl rfl rfl) ?_
              refine Eng.sv rfl rfl (Eng.x_mv (v := (.bool false)) rfl rfl) ?_
              refine Eng.sv (Eng.gt rfl rfl rfl rfl) rfl (Eng.x_fa (v := (.pointer (some ⟨w.heap.size, 0, none⟩))) rfl rfl (by kernel_rfl)) ?_
              refine Eng.sv (Eng.gt rfl rfl rfl rfl) rfl (Eng.x_ld1 (v := (.int .i64 l)) rfl ag3_tsb rfl ((hk2).cell 0)) ?_
              refine Eng.sv (Eng.gt rfl rfl rfl rfl) rfl (Eng.x_lt (r := false) rfl rfl rfl (decide_eq_false (by omega))) ?_
              refine Eng.sv rfl rfl (Eng.x_pick (v := (.bool false)) rfl rfl rfl rfl rfl) ?_
              refine Eng.sv rfl rfl (Eng.x_mv (v := (.bool false)) rfl rfl) ?_
              refine Eng.sv (Eng.gt rfl rfl rfl rfl) rfl (Eng.x_fa (v := (.pointer (some ⟨w.heap.size, 0, none⟩))) rfl rfl (by kernel_rfl)) ?_
              refine Eng.sv (Eng.gt rfl rfl rfl rfl) rfl (Eng.x_ld1 (v := (.int .i64 l)) rfl ag3_tsb rfl ((hk2).cell 0)) ?_
              refine Eng.sv (Eng.gt rfl rfl rfl rfl) rfl (Eng.x_gt (r := false) rfl rfl rfl (decide_eq_false (by omega))) ?_
              refine Eng.sv rfl rfl (Eng.x_pick (v := (.bool false)) rfl rfl rfl rfl rfl) ?_
              refine Eng.sv rfl rfl (Eng.x_mv (v := (.bool false)) rfl rfl) ?_
              refine Eng.sv (Eng.gt rfl rfl rfl rfl) rfl (Eng.x_fa (v := (.pointer (some ⟨w.heap.size, 1, none⟩))) rfl rfl (by kernel_rfl)) ?_
              refine Eng.sv (Eng.gt rfl rfl rfl rfl) rfl (Eng.x_ld1 (v := (.int .i64 i)) rfl ag3_tsb rfl ((hk2).cell 1)) ?_
              refine Eng.sv (Eng.gt rfl rfl rfl rfl) rfl (Eng.x_lt (r := false) rfl rfl rfl (decide_eq_false (by omega))) ?_
              refine Eng.sv rfl rfl (Eng.x_pick (v := (.bool false)) rfl rfl rfl rfl rfl) ?_
              refine Eng.sv rfl rfl (Eng.x_mv (v := (.bool false)) rfl rfl) ?_
              refine Eng.sv (Eng.gt rfl rfl rfl rfl) rfl (Eng.x_fa (v := (.pointer (some ⟨w.heap.size, 1, none⟩))) rfl rfl (by kernel_rfl)) ?_
              refine Eng.sv (Eng.gt rfl rfl rfl rfl) rfl (Eng.x_ld1 (v := (.int .i64 i)) rfl ag3_tsb rfl ((hk2).cell 1)) ?_
              refine Eng.sv (Eng.gt rfl rfl rfl rfl) rfl (Eng.x_mv (v := v) rfl rfl) ?_
              have hr10 := (hD).below hb2
              refine Eng.sv (Eng.gt rfl rfl rfl rfl) rfl (Eng.x_len (v := v) (r := (ds.length : Int)) rfl Tryd.underlying36 rfl (hr10).1 rfl) ?_
              refine Eng.sv (Eng.gt rfl rfl rfl rfl) rfl (Eng.x_fa (v := (.pointer (some ⟨w.heap.size, 0, none⟩))) rfl rfl (by kernel_rfl)) ?_
              refine Eng.sv (Eng.gt rfl rfl rfl rfl) rfl (Eng.x_ld1 (v := (.int .i64 l)) rfl ag3_tsb rfl ((hk2).cell 0)) ?_
              refine Eng.sv (Eng.gt rfl rfl rfl rfl) rfl (Eng.x_conv rfl Tryd.underlying3 Tryd.underlying39 rfl (Eng.wu64 (r := l) (by omega))) ?_
              refine Eng.sv (Eng.gt rfl rfl rfl rfl) rfl (Eng.x_shr rfl rfl rfl (by omega) (r := ((ds.length / 2 ^ l.toNat : Nat) : Int)) (shr_eq (y := l.toNat) rfl (by omega) (by omega))) ?_
              refine Eng.sv (Eng.gt rfl rfl rfl rfl) rfl (Eng.x_ge (r := true) rfl rfl rfl (decide_eq_true (by omega))) ?_
              refine Eng.sv rfl rfl (Eng.x_pick (v := (.bool true)) rfl rfl rfl rfl rfl) ?_
              refine Eng.nil ?_
              refine hK4 _ _ ?_
              refine Eng.cond_t rfl ?_
              refine Eng.seqk fun K11 hK11 => ?_
              refine Eng.reg ?_
              refine Eng.sv rfl rfl (Eng.x_as (v := (.bool true)) rfl rfl) ?_
              refine Eng.nil ?_
              refine hK11 _ _ ?_
              refine Eng.rt ?_
              refine Eng.tr ?_
              refine Eng.ret (Eng.res1 (v1 := (.bool true)) rfl (Eng.rdt rfl)) ?_
              exact ⟨rfl, hb2⟩
            · skip
              obtain ⟨n, a, c, x, M, e1, e2, e3, hN, hM, h1, h8, ha, n1, n2, n3, n4, n5, n6, n7, n8, n9, n10, hof, hwid, hdig, hsub⟩ := tsb_all q0 q1 q2 q3 q4 q5 hD.2 hm w
              have hX32 : (rootS ((ds.drop (c * 2 ^ a)).take (2 ^ a))).length = 32 := rootS_len _ (all32_mid hD.2 _ _) (by rw [List.length_take, List.length_drop]; omega)
              have htl : (tbs ds (2 ^ (a / n * n)) ((oS n a c / 2 ^ n) * 2 ^ n) x).length = x * 32 := tbs_len hD.2 hm _ _ _
              have ha2 : 2 ^ a ≤ 1048576 := Nat.pow_le_pow_right (n := 2) (by omega) ha
              refine Eng.reg ?_
              refine Eng.sv rfl rfl (Eng.x_mv (v := (.int .i64 h)) rfl rfl) ?_
              refine Eng.sv rfl rfl (Eng.x_lt (r := false) rfl rfl rfl (decide_eq_false (by omega))) ?_
              refine Eng.sv rfl rfl (Eng.x_mv (v := (.bool false)) rfl rfl) ?_
              refine Eng.sv (Eng.gt rfl rfl rfl rfl) rfl (Eng.x_mv (v := (.int .i64 h)) rfl rfl) ?_
              refine Eng.sv (Eng.gt rfl rfl rfl rfl) rfl (Eng.x_gt (r := false) rfl rfl rfl (decide_eq_false (by omega))) ?_
              refine Eng.sv rfl rfl (Eng.x_pick (v := (.bool false)) rfl rfl rfl rfl rfl) ?_
              refine Eng.sv rfl rfl (Eng.x_mv (v := (.bool false)) rfl rfl) ?_
              refine Eng.sv (Eng.gt rfl rfl rfl rfl) rfl (Eng.x_fa (v := (.pointer (some ⟨w.heap.size, 0, none⟩))) rfl rfl (by kernel_rfl)) ?_
              refine Eng.sv (Eng.gt rfl rfl rfl rfl) rfl (Eng.x_ld1 (v := (.int .i64 l)) rfl ag3_tsb rfl ((hk2).cell 0)) ?_
              refine Eng.sv (Eng.gt rfl rfl rfl rfl) rfl (Eng.x_lt (r := false) rfl rfl rfl (decide_eq_false (by omega))) ?_
              refine Eng.sv rfl rfl (Eng.x_pick (v := (.bool false)) rfl rfl rfl rfl rfl) ?_
              refine Eng.sv rfl rfl (Eng.x_mv (v := (.bool false)) rfl rfl) ?_
              refine Eng.sv (Eng.gt rfl rfl rfl rfl) rfl (Eng.x_fa (v := (.pointer (some ⟨w.heap.size, 0, none⟩))) rfl rfl (by kernel_rfl)) ?_
              refine Eng.sv (Eng.gt rfl rfl rfl rfl) rfl (Eng.x_ld1 (v := (.int .i64 l)) rfl ag3_tsb rfl ((hk2).cell 0)) ?_
              refine Eng.sv (Eng.gt rfl rfl rfl rfl) rfl (Eng.x_gt (r := false) rfl rfl rfl (decide_eq_false (by omega))) ?_
              refine Eng.sv rfl rfl (Eng.x_pick (v := (.bool false)) rfl rfl rfl rfl rfl) ?_
              refine Eng.sv rfl rfl (Eng.x_mv (v := (.bool false)) rfl rfl) ?_
              refine Eng.sv (Eng.gt rfl rfl rfl rfl) rfl (Eng.x_fa (v := (.pointer (some ⟨w.heap.size, 1, none⟩))) rfl rfl (by kernel_rfl)) ?_
              refine Eng.sv (Eng.gt rfl rfl rfl rfl) rfl (Eng.x_ld1 (v := (.int .i64 i)) rfl ag3_tsb rfl ((hk2).cell 1)) ?_
              refine Eng.sv (Eng.gt rfl rfl rfl rfl) rfl (Eng.x_lt (r := false) rfl rfl rfl (decide_eq_false (by omega))) ?_
              refine Eng.sv rfl rfl (Eng.x_pick (v := (.bool false)) rfl rfl rfl rfl rfl) ?_
              refine Eng.sv rfl rfl (Eng.x_mv (v := (.bool false)) rfl rfl) ?_
              refine Eng.sv (Eng.gt rfl rfl rfl rfl) rfl (Eng.x_fa (v := (.pointer (some ⟨w.heap.size, 1, none⟩))) rfl rfl (by kernel_rfl)) ?_
              refine Eng.sv (Eng.gt rfl rfl rfl rfl) rfl (Eng.x_ld1 (v := (.int .i64 i)) rfl ag3_tsb rfl ((hk2).cell 1)) ?_
              refine Eng.sv (Eng.gt rfl rfl rfl rfl) rfl (Eng.x_mv (v := v) rfl rfl) ?_
              have hr12 := (hD).below hb2
              refine Eng.sv (Eng.gt rfl rfl rfl rfl) rfl (Eng.x_len (v := v) (r := (ds.length : Int)) rfl Tryd.underlying36 rfl (hr12).1 rfl) ?_
              refine Eng.sv (Eng.gt rfl rfl rfl rfl) rfl (Eng.x_fa (v := (.pointer (some ⟨w.heap.size, 0, none⟩))) rfl rfl (by kernel_rfl)) ?_
              refine Eng.sv (Eng.gt rfl rfl rfl rfl) rfl (Eng.x_ld1 (v := (.int .i64 l)) rfl ag3_tsb rfl ((hk2).cell 0)) ?_
              refine Eng.sv (Eng.gt rfl rfl rfl rfl) rfl (Eng.x_conv rfl Tryd.underlying3 Tryd.underlying39 rfl (Eng.wu64 (r := l) (by omega))) ?_
              refine Eng.sv (Eng.gt rfl rfl rfl rfl) rfl (Eng.x_shr rfl rfl rfl (by omega) (r := ((ds.length / 2 ^ l.toNat : Nat) : Int)) (shr_eq (y := l.toNat) rfl (by omega) (by omega))) ?_
              refine Eng.sv (Eng.gt rfl rfl rfl rfl) rfl (Eng.x_ge (r := false) rfl rfl rfl (decide_eq_false (by omega))) ?_
              refine Eng.sv rfl rfl (Eng.x_pick (v := (.bool false)) rfl rfl rfl rfl rfl) ?_
              refine Eng.nil ?_
              refine hK4 _ _ ?_
              refine Eng.cond_f rfl ?_
              refine Eng.skp ?_
              refine hK3 _ _ ?_
              refine Eng.seqk fun K13 hK13 => ?_
              refine Eng.reg ?_
              refine Eng.sv rfl rfl (Eng.x_mv (v := (.int .i64 h)) rfl rfl) ?_
              refine Eng.sv rfl rfl (Eng.x_ldB (v := (.agg #[(.int .i64 l), (.int .i64 i)])) rfl ag38_tsb sz38_tsb rfl hk2 rfl rfl) ?_
              refine Eng.sc rfl (Eng.xc (vl := [(.int .i64 h), (.agg #[(.int .i64 l), (.int .i64 i)])]) rfl rfl rfl en18_tsb) (hof _) ?_
              rintro _ w14 ⟨rfl, hb14⟩
              refine Eng.aft_v rfl ?_
              refine Eng.sv rfl rfl (Eng.x_mv (v := (.tuple #[(.agg #[(.int .i64 (n : Int)), (.int .i64 ((a / n : Nat) : Int)), (.int .i64 ((oS n a c / 2 ^ n : Nat) : Int)), (.int .i64 (oT n a c : Int))]), (.int .i64 (oF n a c : Int)), (.int .i64 (oT n a c : Int)), (.int .i64 0)])) rfl rfl) ?_
              refine Eng.sv rfl rfl (Eng.x_ext (v := (.agg #[(.int .i64 (n : Int)), (.int .i64 ((a / n : Nat) : Int)), (.int .i64 ((oS n a c / 2 ^ n : Nat) : Int)), (.int .i64 (oT n a c : Int))])) rfl rfl rfl) ?_
              refine Eng.sv rfl rfl (Eng.x_ext (v := (.int .i64 (oF n a c : Int))) rfl rfl rfl) ?_
              refine Eng.sv rfl rfl (Eng.x_ext (v := (.int .i64 (oT n a c : Int))) rfl rfl rfl) ?_
              refine Eng.sv rfl rfl (Eng.x_ext (v := (.int .i64 0)) rfl rfl rfl) ?_
              refine Eng.al rfl rfl rfl zr23_tsb (cs := [(.int .i64 0), (.int .i64 0), (.int .i64 0), (.int .i64 0)]) rfl ?_
              intro w15 hk15 hb15 hz15
              refine Eng.stB (v := (.agg #[(.int .i64 (n : Int)), (.int .i64 ((a / n : Nat) : Int)), (.int .i64 ((oS n a c / 2 ^ n : Nat) : Int)), (.int .i64 (oT n a c : Int))])) rfl rfl rfl sz23_tsb rfl hk15 rfl rfl (cs' := [(.int .i64 (n : Int)), (.int .i64 ((a / n : Nat) : Int)), (.int .i64 ((oS n a c / 2 ^ n : Nat) : Int)), (.int .i64 (oT n a c : Int))]) rfl rfl (Eng.one_cons rfl (Eng.one_cons rfl (Eng.one_cons rfl (Eng.one_cons rfl Eng.one_nil)))) ?_
              intro w16 hk16 hg16
              refine Eng.sv rfl rfl (Eng.x_as (v := (.int .i64 (oF n a c : Int))) rfl rfl) ?_
              refine Eng.sv rfl rfl (Eng.x_as (v := (.int .i64 (oT n a c : Int))) rfl rfl) ?_
              refine Eng.sv rfl rfl (Eng.x_as (v := (.int .i64 0)) rfl rfl) ?_
              refine Eng.nil ?_
              refine hK13 _ _ ?_
              refine Eng.seqk fun K17 hK17 => ?_
              refine Eng.seqk fun K18 hK18 => ?_
              refine Eng.reg ?_
              refine Eng.sv rfl rfl (Eng.x_mv (v := (.int .i64 0)) rfl rfl) ?_
              refine Eng.sv rfl rfl (Eng.x_ne (r := false) rfl rfl rfl (Eng.ne_f (rfl))) ?_
              refine Eng.sv rfl rfl (Eng.x_mv (v := (.bool false)) rfl rfl) ?_
              refine Eng.sv (Eng.gt rfl rfl rfl rfl) rfl (Eng.x_mv (v := (.int .i64 (oF n a c : Int))) rfl rfl) ?_
              refine Eng.sv (Eng.gt rfl rfl rfl rfl) rfl (Eng.x_mv (v := (.int .i64 (oT n a c : Int))) rfl rfl) ?_
              refine Eng.sv (Eng.gt rfl rfl rfl rfl) rfl (Eng.x_ge (r := false) rfl rfl rfl (decide_eq_false (by omega))) ?_
              refine Eng.sv rfl rfl (Eng.x_pick (v := (.bool false)) rfl rfl rfl rfl rfl) ?_
              refine Eng.sv rfl rfl (Eng.x_mv (v := (.bool false)) rfl rfl) ?_
              refine Eng.sv (Eng.gt rfl rfl rfl rfl) rfl (Eng.x_mv (v := (.int .i64 (oT n a c : Int))) rfl rfl) ?_
              refine Eng.sv (Eng.gt rfl rfl rfl rfl) rfl (Eng.x_mv (v := (.int .i64 h)) rfl rfl) ?_
              refine Eng.sv (Eng.gt rfl rfl rfl rfl) rfl (Eng.x_conv rfl Tryd.underlying3 Tryd.underlying39 rfl (Eng.wu64 (r := h) (by omega))) ?_
              refine Eng.sv (Eng.gt rfl rfl rfl rfl) rfl (Eng.x_shl rfl rfl rfl (by omega) (r := ((2 ^ n : Nat) : Int)) ((shl_eq (x := 1) rfl e1 (by omega) (by omega)).trans (by rw [Nat.one_mul]))) ?_
              refine Eng.sv (Eng.gt rfl rfl rfl rfl) rfl (Eng.x_gt (r := false) rfl rfl rfl (decide_eq_false (by omega))) ?_
              refine Eng.sv rfl rfl (Eng.x_pick (v := (.bool false)) rfl rfl rfl rfl rfl) ?_
              refine Eng.nil ?_
              refine hK18 _ _ ?_
              refine Eng.cond_f rfl ?_
              refine Eng.skp ?_
              refine hK17 _ _ ?_
              refine Eng.seqk fun K19 hK19 => ?_
              refine Eng.reg ?_
              refine Eng.sv rfl rfl (Eng.x_mv (v := (.int .i64 h)) rfl rfl) ?_
              refine Eng.sv rfl rfl (Eng.x_fa (v := (.pointer (some ⟨w14.heap.size, 1, none⟩))) rfl rfl (by kernel_rfl)) ?_
              refine Eng.sv rfl rfl (Eng.x_ld1 (v := (.int .i64 ((a / n : Nat) : Int))) rfl ag3_tsb rfl ((hk16).cell 1)) ?_
              refine Eng.sv rfl rfl (Eng.x_fa (v := (.pointer (some ⟨w14.heap.size, 2, none⟩))) rfl rfl (by kernel_rfl)) ?_
              refine Eng.sv rfl rfl (Eng.x_ld1 (v := (.int .i64 ((oS n a c / 2 ^ n : Nat) : Int))) rfl ag3_tsb rfl ((hk16).cell 2)) ?_
              refine Eng.sv rfl rfl (Eng.x_mv (v := v) rfl rfl) ?_
              have hB0_2 : Below w.heap.size w w14 := (hb2).trans (hb14.mono (hb2).size)
              have hB0_3 : Below w.heap.size w w15 := (hB0_2).trans (hb15.mono (hB0_2).size)
              have hB0_4 : Below w.heap.size w w16 := (hB0_3).grown hg16 (hB0_3).size (fun k e => by cases e; exact Nat.le_trans (hB0_2).size (Nat.le_refl _))
              have hr20 := (hD).below hB0_4
              refine Eng.sv rfl rfl (Eng.x_len (v := v) (r := (ds.length : Int)) rfl Tryd.underlying36 rfl (hr20).1 rfl) ?_
              refine Eng.sc rfl (Eng.xc (vl := [(.int .i64 h), (.int .i64 ((a / n : Nat) : Int)), (.int .i64 ((oS n a c / 2 ^ n : Nat) : Int)), (.int .i64 (ds.length : Int))]) rfl rfl rfl en19_tsb) (hwid _) ?_
              rintro _ w21 ⟨rfl, hb21⟩
              refine Eng.aft_v rfl ?_
              refine Eng.sv rfl rfl (Eng.x_mv (v := (.tuple #[(.int .i64 (x : Int)), (.int .i64 0)])) rfl rfl) ?_
              refine Eng.sv rfl rfl (Eng.x_ext (v := (.int .i64 (x : Int))) rfl rfl rfl) ?_
              refine Eng.sv rfl rfl (Eng.x_ext (v := (.int .i64 0)) rfl rfl rfl) ?_
              refine Eng.sv rfl rfl (Eng.x_as (v := (.int .i64 (x : Int))) rfl rfl) ?_
              refine Eng.sv rfl rfl (Eng.x_as (v := (.int .i64 0)) rfl rfl) ?_
              refine Eng.nil ?_
              refine hK19 _ _ ?_
              refine Eng.seqk fun K22 hK22 => ?_
              refine Eng.seqk fun K23 hK23 => ?_
              refine Eng.reg ?_
              refine Eng.sv rfl rfl (Eng.x_mv (v := (.int .i64 0)) rfl rfl) ?_
              refine Eng.sv rfl rfl (Eng.x_ne (r := false) rfl rfl rfl (Eng.ne_f (rfl))) ?_
              refine Eng.sv rfl rfl (Eng.x_mv (v := (.bool false)) rfl rfl) ?_
              refine Eng.sv (Eng.gt rfl rfl rfl rfl) rfl (Eng.x_mv (v := (.int .i64 (x : Int))) rfl rfl) ?_
              refine Eng.sv (Eng.gt rfl rfl rfl rfl) rfl (Eng.x_mv (v := (.int .i64 (oT n a c : Int))) rfl rfl) ?_
              refine Eng.sv (Eng.gt rfl rfl rfl rfl) rfl (Eng.x_lt (r := false) rfl rfl rfl (decide_eq_false (by omega))) ?_
              refine Eng.sv rfl rfl (Eng.x_pick (v := (.bool false)) rfl rfl rfl rfl rfl) ?_
              refine Eng.nil ?_
              refine hK23 _ _ ?_
              refine Eng.cond_f rfl ?_
              refine Eng.skp ?_
              refine hK22 _ _ ?_
              refine Eng.seqk fun K24 hK24 => ?_
              refine Eng.reg ?_
              refine Eng.sv rfl rfl (Eng.x_mv (v := (.int .i64 (x : Int))) rfl rfl) ?_
              refine Eng.sv rfl rfl (Eng.x_fa (v := (.pointer (some ⟨w14.heap.size, 3, none⟩))) rfl rfl (by kernel_rfl)) ?_
              have hk25 := (hk16).below hb21
              refine Eng.stC (v := (.int .i64 (x : Int))) rfl rfl rfl sz3_tsb rfl hk25 (Nat.le_of_ble_eq_true rfl) rfl rfl rfl (cs' := [(.int .i64 (n : Int)), (.int .i64 ((a / n : Nat) : Int)), (.int .i64 ((oS n a c / 2 ^ n : Nat) : Int)), (.int .i64 (x : Int))]) rfl ?_
              intro w26 hk26 hg26
              refine Eng.nil ?_
              refine hK24 _ _ ?_
              refine Eng.seqk fun K27 hK27 => ?_
              have hB0_5 : Below w.heap.size w w21 := (hB0_4).trans (hb21.mono (hB0_4).size)
              have hB0_6 : Below w.heap.size w w26 := (hB0_5).grown hg26 (hB0_5).size (fun k e => by cases e; exact Nat.le_trans (hB0_2).size (Nat.le_refl _))
              have hr29 := (hD).below hB0_6
              have hr30 := (hKn).below hB0_6
              have hk31 := (((((hk2).below hb14).below hb15).grown hg16 (fun e => absurd (Option.some.inj e) (Nat.ne_of_lt (Nat.lt_of_lt_of_le hz2 (Nat.le_trans (hb14).size (Nat.le_refl _)))))).below hb21).grown hg26 (fun e => absurd (Option.some.inj e) (Nat.ne_of_lt (Nat.lt_of_lt_of_le hz2 (Nat.le_trans (hb14).size (Nat.le_refl _)))))
              refine Eng.drawL 11 10 [8] [fun vQ _ => vQ = (.agg #[(.int .i64 (n : Int)), (.int .i64 ((a / n : Nat) : Int)), (.int .i64 ((oS n a c / 2 ^ n : Nat) : Int)), (.int .i64 (x : Int))]), fun vQ _ => vQ = v, fun vQ _ => vQ = (.agg #[(.int .i64 (n : Int)), (.int .i64 ((a / n : Nat) : Int)), (.int .i64 ((oS n a c / 2 ^ n : Nat) : Int)), (.int .i64 (x : Int))]), fun (v : Value) (W : World) => Oct.Own w26.heap.size W v (tbs ds (2 ^ (a / n * n)) ((oS n a c / 2 ^ n) * 2 ^ n) x), fun vQ _ => vQ = (.agg #[(.int .i64 l), (.int .i64 i)]), fun vQ _ => vQ = (.tuple #[(dg (rootS ((ds.drop (c * 2 ^ a)).take (2 ^ a)))), (.int .i64 0)]), fun vQ _ => vQ = (.tuple #[(dg (rootS ((ds.drop (c * 2 ^ a)).take (2 ^ a)))), (.int .i64 0)]), fun vQ _ => vQ = (dg (rootS ((ds.drop (c * 2 ^ a)).take (2 ^ a)))), fun vQ _ => vQ = (.int .i64 0), fun (v : Value) (W : World) => ∃ g, v = .pointer (some ⟨g, 0, none⟩) ∧ Blk W g 45 (bcs Oct.dz) ∧ w26.heap.size ≤ g, fun (_ : Value) (_ : World) => True] (fun (uP : Nat → Value) (V W : World) => ∃ g, uP 12 = .pointer (some ⟨g, 0, none⟩) ∧ V.grownBy W (some g) ∧ Blk W g 45 (bcs (rootS ((ds.drop (c * 2 ^ a)).take (2 ^ a)))) ∧ w26.heap.size ≤ g) (by kernel_rfl) (by kernel_rfl) (by kernel_rfl) (by kernel_rfl) (by kernel_rfl) (by kernel_rfl) rfl (by kernel_rfl) rfl rfl ?_ rfl ?_ ?_ ?_
              · exact ⟨fun _ _ _ _ h _ _ => h, fun _ _ _ _ h _ _ => h, fun _ _ _ _ h _ _ => h, fun _ v W W' h _ hb => (show ∀ (v : Value) (W W' : World), (Oct.Own w26.heap.size W v (tbs ds (2 ^ (a / n * n)) ((oS n a c / 2 ^ n) * 2 ^ n) x)) → Below W.heap.size W W' → (Oct.Own w26.heap.size W' v (tbs ds (2 ^ (a / n * n)) ((oS n a c / 2 ^ n) * 2 ^ n) x)) from fun _ _ _ h hb => h.below hb) v W W' h (Eng.GrL.nil_below hb), fun _ _ _ _ h _ _ => h, fun _ _ _ _ h _ _ => h, fun _ _ _ _ h _ _ => h, fun _ _ _ _ h _ _ => h, fun _ _ _ _ h _ _ => h, fun hE v W W' ⟨g, h1, h2, h3⟩ h0 hb => ⟨g, h1, Eng.blk_grL h2 hb (fun hm => Nat.lt_irrefl _ (Nat.lt_of_lt_of_le (hE _ hm) h3)), h3⟩, fun _ _ _ _ _ _ _ => trivial, trivial⟩
              · refine ⟨?_, ?_, ?_, ?_, ?_, ?_, ?_, ?_, ?_, ?_, ?_, trivial⟩
                · refine ⟨fun h_ => absurd h_ (by decide), fun _ => ?_⟩
                  intro u' W hbW hkp hdp hEd K hK
                  have hK := Eng.sdv rfl hK
                  refine Eng.dv rfl rfl ?_ (hK _ _ (Below.refl _ _) rfl)
                  exact (Eng.x_ldB (v := (.agg #[(.int .i64 (n : Int)), (.int .i64 ((a / n : Nat) : Int)), (.int .i64 ((oS n a c / 2 ^ n : Nat) : Int)), (.int .i64 (x : Int))])) rfl ag23_tsb sz23_tsb (show Eng.opv 128 u' (.tmp 7) = (.pointer (some ⟨w14.heap.size, 0, none⟩)) from hkp 7 rfl) (Eng.blk_grL (hk26) hbW Eng.nin_nil) rfl rfl)
                · refine ⟨fun h_ => absurd h_ (by decide), fun _ => ?_⟩
                  intro u' W hbW hkp hdp hEd K hK
                  have hK := Eng.sdv rfl hK
                  refine Eng.dv rfl rfl ?_ (hK _ _ (Below.refl _ _) rfl)
                  exact (Eng.x_mv (v := v) rfl (show Eng.opv 128 u' (.tmp 1) = v from hkp 1 rfl))
                · refine ⟨fun h_ => absurd h_ (by decide), fun _ => ?_⟩
                  intro u' W hbW hkp hdp hEd K hK
                  have hK := Eng.sdv rfl hK
                  refine Eng.dv rfl rfl ?_ (hK _ _ (Below.refl _ _) rfl)
                  exact (Eng.x_ldB (v := (.agg #[(.int .i64 (n : Int)), (.int .i64 ((a / n : Nat) : Int)), (.int .i64 ((oS n a c / 2 ^ n : Nat) : Int)), (.int .i64 (x : Int))])) rfl ag23_tsb sz23_tsb (show Eng.opv 128 u' (.tmp 7) = (.pointer (some ⟨w14.heap.size, 0, none⟩)) from hkp 7 rfl) (Eng.blk_grL (hk26) hbW Eng.nin_nil) rfl rfl)
                · refine ⟨fun h_ => absurd h_ (by decide), fun _ => ?_⟩
                  intro u' W hbW hkp hdp hEd K hK
                  have e1 : u' 91 = v := hdp.1
                  have e2 : u' 92 = (.agg #[(.int .i64 (n : Int)), (.int .i64 ((a / n : Nat) : Int)), (.int .i64 ((oS n a c / 2 ^ n : Nat) : Int)), (.int .i64 (x : Int))]) := hdp.2.1
                  have hK := Eng.sdv rfl hK
                  refine Eng.dc (vs := #[v, (.agg #[(.int .i64 (n : Int)), (.int .i64 ((a / n : Nat) : Int)), (.int .i64 ((oS n a c / 2 ^ n : Nat) : Int)), (.int .i64 (x : Int))])]) rfl ?_ (bytes_calls _ ds n (a / n) (oS n a c / 2 ^ n) x _ ((hD).below (Eng.bel_grL (hB0_6) hbW (hB0_6).size Eng.le_nil)) hm h8 n8 n4 (by rw [hN]; exact n9) n10 ((hKn).below (Eng.bel_grL (hB0_6) hbW (hB0_6).size Eng.le_nil))) ?_
                  · exact Eng.xc (xs := #[(Go.Operand.tmp 91), (Go.Operand.tmp 92)]) (vl := [v, (.agg #[(.int .i64 (n : Int)), (.int .i64 ((a / n : Nat) : Int)), (.int .i64 ((oS n a c / 2 ^ n : Nat) : Int)), (.int .i64 (x : Int))])]) rfl rfl (Eng.lc (show Eng.opv 128 u' (.tmp 91) = v from e1) (Eng.lc (show Eng.opv 128 u' (.tmp 92) = (.agg #[(.int .i64 (n : Int)), (.int .i64 ((a / n : Nat) : Int)), (.int .i64 ((oS n a c / 2 ^ n : Nat) : Int)), (.int .i64 (x : Int))]) from e2) rfl)) en21_tsb
                  rintro _ W2 ⟨v2, rfl, ho2, hb2⟩
                  exact Eng.aft_v rfl (hK _ _ hb2 (ho2.mono hbW.size))
                · refine ⟨fun h_ => absurd h_ (by decide), fun _ => ?_⟩
                  intro u' W hbW hkp hdp hEd K hK
                  have hK := Eng.sdv rfl hK
                  refine Eng.dv rfl rfl ?_ (hK _ _ (Below.refl _ _) rfl)
                  exact (Eng.x_ldB (v := (.agg #[(.int .i64 l), (.int .i64 i)])) rfl ag38_tsb sz38_tsb (show Eng.opv 128 u' (.tmp 5) = (.pointer (some ⟨w.heap.size, 0, none⟩)) from hkp 5 rfl) (Eng.blk_grL (hk31) hbW Eng.nin_nil) rfl rfl)
                · refine ⟨fun h_ => absurd h_ (by decide), fun _ => ?_⟩
                  intro u' W hbW hkp hdp hEd K hK
                  have e0 : u' 90 = (.agg #[(.int .i64 (n : Int)), (.int .i64 ((a / n : Nat) : Int)), (.int .i64 ((oS n a c / 2 ^ n : Nat) : Int)), (.int .i64 (x : Int))]) := hdp.1
                  have e3 : Oct.Own w26.heap.size W (u' 93) (tbs ds (2 ^ (a / n * n)) ((oS n a c / 2 ^ n) * 2 ^ n) x) := hdp.2.1
                  have e4 : u' 94 = (.agg #[(.int .i64 l), (.int .i64 i)]) := hdp.2.2.1
                  have hK := Eng.sdv rfl hK
                  refine Eng.dc (vs := #[(.agg #[(.int .i64 (n : Int)), (.int .i64 ((a / n : Nat) : Int)), (.int .i64 ((oS n a c / 2 ^ n : Nat) : Int)), (.int .i64 (x : Int))]), (u' 93), (.agg #[(.int .i64 l), (.int .i64 i)])]) rfl ?_ ((show Calls _ _ _ _ (fun e w' => e = .returned (.tuple #[dg (rootS ((ds.drop (c * 2 ^ a)).take (2 ^ a))), .int .i64 0]) ∧ Below W.heap.size W w') from by have q_ := digest_calls (n : Int) ((a / n : Nat) : Int) (((oS n a c / 2 ^ n) : Nat) : Int) (x : Int) l i _ (tbs ds (2 ^ (a / n * n)) ((oS n a c / 2 ^ n) * 2 ^ n) x) W ⟨(e3).rd, by rw [htl]; omega⟩ ((hKn).below (Eng.bel_grL (hB0_6) hbW (hB0_6).size Eng.le_nil)); rwa [hdig] at q_)) ?_
                  · exact Eng.xc (xs := #[(Go.Operand.tmp 90), (Go.Operand.tmp 93), (Go.Operand.tmp 94)]) (vl := [(.agg #[(.int .i64 (n : Int)), (.int .i64 ((a / n : Nat) : Int)), (.int .i64 ((oS n a c / 2 ^ n : Nat) : Int)), (.int .i64 (x : Int))]), (u' 93), (.agg #[(.int .i64 l), (.int .i64 i)])]) rfl rfl (Eng.lc (show Eng.opv 128 u' (.tmp 90) = (.agg #[(.int .i64 (n : Int)), (.int .i64 ((a / n : Nat) : Int)), (.int .i64 ((oS n a c / 2 ^ n : Nat) : Int)), (.int .i64 (x : Int))]) from e0) (Eng.lc (show Eng.opv 128 u' (.tmp 93) = u' 93 from rfl) (Eng.lc (show Eng.opv 128 u' (.tmp 94) = (.agg #[(.int .i64 l), (.int .i64 i)]) from e4) rfl))) en20_tsb
                  rintro _ W2 ⟨rfl, hb2⟩
                  exact Eng.aft_v rfl (hK _ _ hb2 rfl)
                · refine ⟨fun h_ => absurd h_ (by decide), fun _ => ?_⟩
                  intro u' W hbW hkp hdp hEd K hK
                  have e5 : u' 95 = (.tuple #[(dg (rootS ((ds.drop (c * 2 ^ a)).take (2 ^ a)))), (.int .i64 0)]) := hdp.1
                  have hK := Eng.sdv rfl hK
                  refine Eng.dv rfl rfl ?_ (hK _ _ (Below.refl _ _) rfl)
                  exact (Eng.x_mv (v := (.tuple #[(dg (rootS ((ds.drop (c * 2 ^ a)).take (2 ^ a)))), (.int .i64 0)])) rfl (show Eng.opv 128 u' (.tmp 95) = (.tuple #[(dg (rootS ((ds.drop (c * 2 ^ a)).take (2 ^ a)))), (.int .i64 0)]) from e5))
                · refine ⟨fun h_ => absurd h_ (by decide), fun _ => ?_⟩
                  intro u' W hbW hkp hdp hEd K hK
                  have e6 : u' 89 = (.tuple #[(dg (rootS ((ds.drop (c * 2 ^ a)).take (2 ^ a)))), (.int .i64 0)]) := hdp.1
                  have hK := Eng.sdv rfl hK
                  refine Eng.dv rfl rfl ?_ (hK _ _ (Below.refl _ _) rfl)
                  exact (Eng.x_ext (v := (dg (rootS ((ds.drop (c * 2 ^ a)).take (2 ^ a))))) rfl (show Eng.opv 128 u' (.tmp 89) = (.tuple #[(dg (rootS ((ds.drop (c * 2 ^ a)).take (2 ^ a)))), (.int .i64 0)]) from e6) rfl)
                · refine ⟨fun h_ => absurd h_ (by decide), fun _ => ?_⟩
                  intro u' W hbW hkp hdp hEd K hK
                  have e6 : u' 89 = (.tuple #[(dg (rootS ((ds.drop (c * 2 ^ a)).take (2 ^ a)))), (.int .i64 0)]) := hdp.1
                  have hK := Eng.sdv rfl hK
                  refine Eng.dv rfl rfl ?_ (hK _ _ (Below.refl _ _) rfl)
                  exact (Eng.x_ext (v := (.int .i64 0)) rfl (show Eng.opv 128 u' (.tmp 89) = (.tuple #[(dg (rootS ((ds.drop (c * 2 ^ a)).take (2 ^ a)))), (.int .i64 0)]) from e6) rfl)
                · refine ⟨fun h_ => absurd h_ (by decide), fun _ => ?_⟩
                  intro u' W hbW hkp hdp hEd K hK
                  have hK := Eng.sdv rfl hK
                  exact Eng.dv rfl rfl (Eng.x_al rfl zr45_tsb) (hK _ _ (Eng.below_al _ _) ⟨_, rfl, Eng.blk_al _ _ _ rfl, hbW.size⟩)
                · refine ⟨fun _ => ?_, fun h_ => absurd h_ (by decide)⟩
                  intro u' W hbV hkp hdp K hK
                  have hbW := Eng.GrL.of_below (E := []) (w := w26) hbV
                  obtain ⟨gd28_9, e9, hkx9, hlx9⟩ : (fun (v : Value) (W : World) => ∃ g, v = .pointer (some ⟨g, 0, none⟩) ∧ Blk W g 45 (bcs Oct.dz) ∧ w26.heap.size ≤ g) (u' 12) W := hdp.1
                  have e7 : u' 96 = (dg (rootS ((ds.drop (c * 2 ^ a)).take (2 ^ a)))) := hdp.2.1
                  refine Eng.sstB (FL := []) (BL := [⟨gd28_9, 45, (bcs Oct.dz), [(10, (bcs (rootS ((ds.drop (c * 2 ^ a)).take (2 ^ a)))))]⟩]) (i := 10) (v := (dg (rootS ((ds.drop (c * 2 ^ a)).take (2 ^ a))))) rfl rfl rfl sz45_tsb rfl rfl (show Eng.opv 128 u' (.tmp 12) = (.pointer (some ⟨gd28_9, 0, none⟩)) from e9) hkx9 rfl (show Eng.opv 128 u' (.tmp 96) = (dg (rootS ((ds.drop (c * 2 ^ a)).take (2 ^ a)))) from e7) rfl ((bcs_length _).trans hX32) (bcs_one _) ?_
                  exact Eng.outS_st rfl (fun W2 hgr hk2 => hK W2 ⟨gd28_9, e9, hgr, hk2, hlx9⟩)
              · refine ⟨?_, trivial⟩
                · refine ⟨fun uP v V W ⟨g, h1, h2⟩ => ⟨g, (Eng.upd_other uP 97 v 12 (by decide)).trans h1, h2⟩, fun o ho u' V W hdp K hK => ?_⟩
                  obtain rfl := Eng.someInj ho
                  have e6 : u' 89 = (.tuple #[(dg (rootS ((ds.drop (c * 2 ^ a)).take (2 ^ a)))), (.int .i64 0)]) := hdp.1
                  refine Eng.dv rfl rfl ?_ (hK _ rfl)
                  exact (Eng.x_ext (v := (.int .i64 0)) rfl (show Eng.opv 128 u' (.tmp 89) = (.tuple #[(dg (rootS ((ds.drop (c * 2 ^ a)).take (2 ^ a)))), (.int .i64 0)]) from e6) rfl)
              · intro ud28 w28 wB28 hb28 hkp28 ⟨f28_0, f28_1, f28_2, f28_3, f28_4, f28_5, f28_6, f28_7, f28_8, ⟨gd28_9, f28_9, hkd28_9, hld28_9⟩, _, _⟩ ⟨gP28, eP28, hgP28, hkP28, hlP28⟩
                obtain ⟨vd28_3, hv28_3⟩ : ∃ v, v = ud28 93 := ⟨_, rfl⟩
                have g28_3 : (fun (v : Value) (W : World) => Oct.Own w26.heap.size W v (tbs ds (2 ^ (a / n * n)) ((oS n a c / 2 ^ n) * 2 ^ n) x)) vd28_3 w28 := by rw [hv28_3]; exact f28_3
                obtain rfl := Eng.collectS (l := [(90, (.agg #[(.int .i64 (n : Int)), (.int .i64 ((a / n : Nat) : Int)), (.int .i64 ((oS n a c / 2 ^ n : Nat) : Int)), (.int .i64 (x : Int))])), (91, v), (92, (.agg #[(.int .i64 (n : Int)), (.int .i64 ((a / n : Nat) : Int)), (.int .i64 ((oS n a c / 2 ^ n : Nat) : Int)), (.int .i64 (x : Int))])), (93, vd28_3), (94, (.agg #[(.int .i64 l), (.int .i64 i)])), (95, (.tuple #[(dg (rootS ((ds.drop (c * 2 ^ a)).take (2 ^ a)))), (.int .i64 0)])), (89, (.tuple #[(dg (rootS ((ds.drop (c * 2 ^ a)).take (2 ^ a)))), (.int .i64 0)])), (96, (dg (rootS ((ds.drop (c * 2 ^ a)).take (2 ^ a))))), (97, (.int .i64 0)), (12, (.pointer (some ⟨gP28, 0, none⟩)))]) hkp28 ⟨f28_0, f28_1, f28_2, hv28_3.symm, f28_4, f28_5, f28_6, f28_7, f28_8, eP28, trivial⟩ rfl
                refine Eng.sv rfl rfl (Eng.x_as (v := (.int .i64 0)) rfl rfl) ?_
                refine Eng.nil ?_
                refine hK27 _ _ ?_
                refine Eng.seqk fun K32 hK32 => ?_
                refine Eng.reg ?_
                refine Eng.sv rfl rfl (Eng.x_mv (v := v) rfl rfl) ?_
                refine Eng.sv rfl rfl (Eng.x_fa (v := (.pointer (some ⟨w.heap.size, 1, none⟩))) rfl rfl (by kernel_rfl)) ?_
                have hB1_3 : Below w2.heap.size w2 w15 := (hb14).trans (hb15.mono (hb14).size)
                have hB1_4 : Below w2.heap.size w2 w16 := (hB1_3).grown hg16 (hB1_3).size (fun k e => by cases e; exact Nat.le_trans (hb14).size (Nat.le_refl _))
                have hB1_5 : Below w2.heap.size w2 w21 := (hB1_4).trans (hb21.mono (hB1_4).size)
                have hB1_6 : Below w2.heap.size w2 w26 := (hB1_5).grown hg26 (hB1_5).size (fun k e => by cases e; exact Nat.le_trans (hb14).size (Nat.le_refl _))
                have hk33 := ((hk31).below hb28).grown hgP28 (fun e => absurd (Option.some.inj e) (Nat.ne_of_lt (Nat.lt_of_lt_of_le hz2 (Nat.le_trans (hB1_6).size hlP28))))
                refine Eng.sv rfl rfl (Eng.x_ld1 (v := (.int .i64 i)) rfl ag3_tsb rfl ((hk33).cell 1)) ?_
                refine Eng.sv rfl rfl (Eng.x_fa (v := (.pointer (some ⟨w.heap.size, 0, none⟩))) rfl rfl (by kernel_rfl)) ?_
                refine Eng.sv rfl rfl (Eng.x_ld1 (v := (.int .i64 l)) rfl ag3_tsb rfl ((hk33).cell 0)) ?_
                refine Eng.sv rfl rfl (Eng.x_conv rfl Tryd.underlying3 Tryd.underlying39 rfl (Eng.wu64 (r := l) (by omega))) ?_
                refine Eng.sv rfl rfl (Eng.x_shl rfl rfl rfl (by omega) (r := ((c * 2 ^ a : Nat) : Int)) (shl_eq e3 e2 (by omega) (by omega))) ?_
                refine Eng.sv rfl rfl (Eng.x_fa (v := (.pointer (some ⟨w.heap.size, 1, none⟩))) rfl rfl (by kernel_rfl)) ?_
                refine Eng.sv rfl rfl (Eng.x_ld1 (v := (.int .i64 i)) rfl ag3_tsb rfl ((hk33).cell 1)) ?_
                refine Eng.sv rfl rfl (Eng.x_add rfl rfl rfl (Eng.w64 (r := ((c + 1 : Nat) : Int)) (by have q_ : c * 1 ≤ c * 2 ^ a := Nat.mul_le_mul_left _ Nat.one_le_two_pow; omega))) ?_
                refine Eng.sv rfl rfl (Eng.x_fa (v := (.pointer (some ⟨w.heap.size, 0, none⟩))) rfl rfl (by kernel_rfl)) ?_
                refine Eng.sv rfl rfl (Eng.x_ld1 (v := (.int .i64 l)) rfl ag3_tsb rfl ((hk33).cell 0)) ?_
                refine Eng.sv rfl rfl (Eng.x_conv rfl Tryd.underlying3 Tryd.underlying39 rfl (Eng.wu64 (r := l) (by omega))) ?_
                refine Eng.sv rfl rfl (Eng.x_shl rfl rfl rfl (by omega) (r := (((c + 1) * 2 ^ a : Nat) : Int)) (shl_eq rfl e2 (by omega) (by omega))) ?_
                refine Eng.sv rfl rfl (Eng.x_build (ps := [(0, (.int .i64 ((c * 2 ^ a : Nat) : Int))), (1, (.int .i64 (((c + 1) * 2 ^ a : Nat) : Int)))]) (v := (.agg #[(.int .i64 ((c * 2 ^ a : Nat) : Int)), (.int .i64 (((c + 1) * 2 ^ a : Nat) : Int))])) rfl rfl (by kernel_rfl)) ?_
                have hB0_7 : Below w.heap.size w w28 := (hB0_6).trans (hb28.mono (hB0_6).size)
                have hB0_8 : Below w.heap.size w wB28 := (hB0_7).grown hgP28 (hB0_7).size (fun k e => by cases e; exact Nat.le_trans (hB0_6).size hlP28)
                have hr34 := (hD).below hB0_8
                have hr35 := (hKn).below hB0_8
                refine Eng.sc rfl (Eng.xc (vl := [v, (.agg #[(.int .i64 ((c * 2 ^ a : Nat) : Int)), (.int .i64 (((c + 1) * 2 ^ a : Nat) : Int))])]) rfl rfl rfl en22_tsb) ((show Calls _ _ _ _ (fun e w' => e = .returned (.tuple #[dg (rootS ((ds.drop (c * 2 ^ a)).take (2 ^ a))), .int .i64 0]) ∧ Below wB28.heap.size wB28 w') from by have q_ := sub_calls v ds ((c * 2 ^ a : Nat) : Int) (((c + 1) * 2 ^ a : Nat) : Int) wB28 hr34 hm hr35; rwa [hsub] at q_)) ?_
                rintro _ w36 ⟨rfl, hb36⟩
                refine Eng.aft_v rfl ?_
                refine Eng.sv rfl rfl (Eng.x_mv (v := (.tuple #[(dg (rootS ((ds.drop (c * 2 ^ a)).take (2 ^ a)))), (.int .i64 0)])) rfl rfl) ?_
                refine Eng.sv rfl rfl (Eng.x_ext (v := (dg (rootS ((ds.drop (c * 2 ^ a)).take (2 ^ a))))) rfl rfl rfl) ?_
                refine Eng.sv rfl rfl (Eng.x_ext (v := (.int .i64 0)) rfl rfl rfl) ?_
                refine Eng.al rfl rfl rfl zr45_tsb (cs := (bcs Oct.dz)) rfl ?_
                intro w37 hk37 hb37 hz37
                refine Eng.stB (v := (dg (rootS ((ds.drop (c * 2 ^ a)).take (2 ^ a))))) rfl rfl rfl sz45_tsb rfl hk37 rfl rfl (cs' := (bcs (rootS ((ds.drop (c * 2 ^ a)).take (2 ^ a))))) rfl ((bcs_length _).trans hX32) (bcs_one _) ?_
                intro w38 hk38 hg38
                refine Eng.sv rfl rfl (Eng.x_as (v := (.int .i64 0)) rfl rfl) ?_
                refine Eng.nil ?_
                refine hK32 _ _ ?_
                refine Eng.seqk fun K39 hK39 => ?_
                refine Eng.reg ?_
                refine Eng.sv rfl rfl (Eng.x_mv (v := (.int .i64 0)) rfl rfl) ?_
                refine Eng.sv rfl rfl (Eng.x_eq (r := true) rfl rfl rfl (Eng.eq_t (rfl))) ?_
                refine Eng.sv rfl rfl (Eng.x_mv (v := (.bool true)) rfl rfl) ?_
                refine Eng.sv (Eng.gt rfl rfl rfl rfl) rfl (Eng.x_mv (v := (.int .i64 0)) rfl rfl) ?_
                refine Eng.sv (Eng.gt rfl rfl rfl rfl) rfl (Eng.x_eq (r := true) rfl rfl rfl (Eng.eq_t (rfl))) ?_
                refine Eng.sv rfl rfl (Eng.x_pick (v := (.bool true)) rfl rfl rfl rfl rfl) ?_
                refine Eng.sv rfl rfl (Eng.x_mv (v := (.bool true)) rfl rfl) ?_
                have hk40 := (((hkP28).below hb36).below hb37).grown hg38 (fun e => absurd (Option.some.inj e) (Nat.ne_of_lt (Nat.lt_of_lt_of_le (hkP28).lt (Nat.le_trans (hb36).size (Nat.le_refl _)))))
                refine Eng.sv (Eng.gt rfl rfl rfl rfl) rfl (Eng.x_ldB (v := (dg (rootS ((ds.drop (c * 2 ^ a)).take (2 ^ a))))) rfl ag45_tsb sz45_tsb rfl hk40 ((bcs_length _).trans hX32) rfl) ?_
                refine Eng.sv (Eng.gt rfl rfl rfl rfl) rfl (Eng.x_ldB (v := (dg (rootS ((ds.drop (c * 2 ^ a)).take (2 ^ a))))) rfl ag45_tsb sz45_tsb rfl hk38 ((bcs_length _).trans hX32) rfl) ?_
                refine Eng.sv (Eng.gt rfl rfl rfl rfl) rfl (Eng.x_eqA (p := (rootS ((ds.drop (c * 2 ^ a)).take (2 ^ a)))) (q := (rootS ((ds.drop (c * 2 ^ a)).take (2 ^ a)))) (r := true) rfl Tryd.underlying45 Tryd.underlying5 sz5_tsb (by kernel_rfl) rfl rfl hX32 hX32 (by simp)) ?_
                refine Eng.sv rfl rfl (Eng.x_pick (v := (.bool true)) rfl rfl rfl rfl rfl) ?_
                refine Eng.sv rfl rfl (Eng.x_as (v := (.bool true)) rfl rfl) ?_
                refine Eng.nil ?_
                refine hK39 _ _ ?_
                refine Eng.rt ?_
                refine Eng.ret (Eng.res1 (v1 := (.bool true)) rfl (Eng.rdt rfl)) ?_
                have hB0_9 : Below w.heap.size w w36 := (hB0_8).trans (hb36.mono (hB0_8).size)
                have hB0_10 : Below w.heap.size w w37 := (hB0_9).trans (hb37.mono (hB0_9).size)
                have hB0_11 : Below w.heap.size w w38 := (hB0_10).grown hg38 (hB0_10).size (fun k e => by cases e; exact Nat.le_trans (hB0_9).size (Nat.le_refl _))
                exact ⟨rfl, hB0_11⟩
end Go.Proofs.YtnecgoahdkfbeaaDoor.Tid
end

section
namespace Go.Proofs.YtnecgoahdkfbeaaDoor.Opn
open Go Go.RowKit Go.Proofs.YtnecgoahdkfbeaaDoor.Cop Go.ChangeShapes Go.WideShapes Go.ChangeAt
open Go.ChangeMaps (open_string shut_string)
set_option linter.unusedVariables false
set_option linter.unusedSimpArgs false

theorem own : ownKnob Tryd.prog.godebug = none := by kernel_rfl
theorem laidOut : laidOutB Tryd.prog = true := by kernel_rfl

section
variable {H : Type} {enc : TypeId × Value → H} {W : World}

theorem wf_int {k : IntKind} {n : Int} (h : (Lit.int k n).wf = true) : k.min ≤ n ∧ n ≤ k.max := by
  simpa [Lit.wf] using h
theorem wf_i64 {n : Int} (h : (Lit.int .i64 n).wf = true) : -9223372036854775808 ≤ n ∧ n ≤ 9223372036854775807 := by
  have := wf_int h; simpa [IntKind.min, IntKind.max, IntKind.signed, IntKind.bits] using this
theorem wf_u64 {n : Int} (h : (Lit.int .u64 n).wf = true) : ∃ x : Nat, n = (x : Int) ∧ x < 18446744073709551616 := by
  have := wf_int h
  simp only [IntKind.min, IntKind.max, IntKind.signed, IntKind.bits] at this
  simp at this
  obtain ⟨x, rfl⟩ := Int.eq_ofNat_of_zero_le this.1
  exact ⟨x, rfl, by omega⟩
theorem wf_u32 {n : Int} (h : (Lit.int .u32 n).wf = true) : ∃ x : Nat, n = (x : Int) ∧ x < 4294967296 := by
  have := wf_int h
  simp only [IntKind.min, IntKind.max, IntKind.signed, IntKind.bits] at this
  simp at this
  obtain ⟨x, rfl⟩ := Int.eq_ofNat_of_zero_le this.1
  exact ⟨x, rfl, by omega⟩
theorem wf_u8 {n : Int} (h : (Lit.int .u8 n).wf = true) : ∃ x : UInt8, n = (x.toNat : Int) := by
  have := wf_int h
  simp only [IntKind.min, IntKind.max, IntKind.signed, IntKind.bits] at this
  simp at this
  obtain ⟨x, rfl⟩ := Int.eq_ofNat_of_zero_le this.1
  refine ⟨UInt8.ofNat x, ?_⟩
  rw [UInt8.toNat_ofNat']
  omega

/-- Numbers that are bytes. -/
theorem bytes_of (zs : List Int) (h : ∀ n ∈ zs, (Lit.int .u8 n).wf = true) : ∃ bs : List UInt8, zs.map (Value.int .u8) = bcs bs ∧ bs.length = zs.length := by
  induction zs with
  | nil => exact ⟨[], rfl, rfl⟩
  | cons z zs ih =>
    obtain ⟨bs, h1, h2⟩ := ih (fun n hn => h n (by simp [hn]))
    obtain ⟨b, rfl⟩ := wf_u8 (h z (by simp))
    exact ⟨b :: bs, by simp [bcs] at h1 ⊢; exact h1, by simp [h2]⟩

theorem cells8 : Tryd.prog.cellsOf 5 = 1 := by kernel_rfl
theorem bytes8 : Tryd.prog.bytesOf 5 = 1 := by kernel_rfl

set_option maxRecDepth 100000 in
/-- An argument that is a slice of bytes. -/
theorem open_bytes {base : Nat} {v : Value} {d : DataW H} {p : List MemPlace} (hval : Value.okWide Tryd.prog W .any base 48 v) (h : DataW.Trod enc Tryd.prog W 0 (fun _ => true) true 48 v d p)
    (hsz : ∀ elems spare, d = .slice elems spare → (elems.length + spare.length) * Tryd.prog.bytesOf 5 ≤ reachBytes) : ∃ bs : List UInt8, Oct.Rd W v bs ∧ bs.length ≤ 140737488351232 := by
  obtain ⟨a0, len, cap, rfl⟩ := okWide_slice Tryd.underlying48 hval
  obtain ⟨fuel, hf⟩ := h
  rcases open_ints Tryd.underlying48 Tryd.underlying5 cells8 hf with ⟨hcs, _⟩ | ⟨x, l, c, zs, hcs, _, hl, hm, hz, hx, hcell, hwz⟩
  · simp [Value.cells] at hcs
    obtain ⟨rfl, rfl, rfl⟩ := hcs
    exact ⟨[], Row.nil W, Nat.zero_le _⟩
  · simp [Value.cells] at hcs
    obtain ⟨rfl, rfl, rfl⟩ := hcs
    simp only [if_true] at hz
    simp only [Prod.mk.injEq] at hx
    have hs := hsz _ _ hx.1
    rw [bytes8] at hs
    simp only [lits, List.length_map, List.length_take, List.length_drop, reachBytes] at hs
    obtain ⟨bs, h1, h2⟩ := bytes_of (zs.take len) (fun n hn => hwz n (List.mem_of_mem_take hn))
    have h3 : bs.length = len := by rw [h2, List.length_take]; omega
    refine ⟨bs, ⟨some x, cap, by rw [h3], by rw [h3]; exact hl, hm, (fun h => by cases h), (fun ad had j u hu => ?_)⟩, by omega⟩
    cases had
    rw [← h1] at hu
    have hj : j < len := by
      have := (List.getElem?_eq_some_iff.1 hu).1
      simp at this; omega
    rw [hcell j (by omega)]
    rw [← hu]
    simp [hj, List.getElem?_eq_getElem (show j < zs.length by omega)]

/-- The cells of an array of bytes. -/
theorem bytes_of_array {t e : TypeId} {n fuel : Nat} {cs : List Value} {x : DataW H × List MemPlace} {w : World} {base : Nat} {spare : Nat → Bool} {held : Bool} (ht : Tryd.prog.underlying t = some (.array n e)) (he : Tryd.prog.underlying e = some (.int .u8)) (h1 : Tryd.prog.cellsOf e = 1) (hn : Tryd.prog.cellsOf t = n)
    (h : DataW.trod enc Tryd.prog w base spare held fuel t cs = some x) : ∃ d : List UInt8, cs = bcs d ∧ d.length = n := by
  obtain ⟨xs, m, rfl, _, hl, hxl, hel⟩ := DataW.trod_array ht h
  rw [hn] at hl
  have each : ∀ i, i < n → ∃ b : UInt8, cs[i]? = some (u8c b) := by
    intro i hi
    have hq := hel i hi
    rw [h1, Nat.mul_one, List.getElem?_eq_getElem (by omega)] at hq
    obtain ⟨z, hz, _, hw⟩ := DataW.trod_int he hq
    obtain ⟨b, rfl⟩ := wf_u8 hw
    refine ⟨b, ?_⟩
    have : ((cs.drop i).take 1)[0]? = some (u8c b) := by rw [hz]; rfl
    simpa using this
  obtain ⟨f, hf⟩ := Deep.choose_lt each
  refine ⟨(List.range n).map f, ?_, by simp⟩
  apply List.ext_getElem?
  intro i
  by_cases hi : i < n
  · rw [hf i hi]; simp [bcs, hi]
  · rw [List.getElem?_eq_none (by omega), List.getElem?_eq_none (by simp [bcs]; omega)]

theorem cellsD : Tryd.prog.cellsOf 45 = 32 := by kernel_rfl
set_option maxRecDepth 100000 in
/-- An argument that is a digest. -/
theorem open_digest {base : Nat} {v : Value} {d : DataW H} {p : List MemPlace} (hval : Value.okWide Tryd.prog W .any base 45 v) (h : DataW.Trod enc Tryd.prog W 0 (fun _ => true) true 45 v d p) :
    ∃ ds : List UInt8, v = dg ds ∧ ds.length = 32 := by
  simp only [Value.okWide, Tryd.underlying45] at hval
  obtain ⟨cs, rfl, hsz, _⟩ := hval
  obtain ⟨fuel, hf⟩ := h
  obtain ⟨ds, h1, h2⟩ := bytes_of_array Tryd.underlying45 Tryd.underlying5 cells8 cellsD hf
  refine ⟨ds, ?_, h2⟩
  have e : cs = (bcs ds).toArray := by rw [← h1]; simp [Value.cells]
  rw [e]
end
end Go.Proofs.YtnecgoahdkfbeaaDoor.Opn
end

section
namespace Go.Proofs.YtnecgoahdkfbeaaDoor.Opn
open Go Go.RowKit Go.Proofs.YtnecgoahdkfbeaaDoor.Cop Go.ChangeShapes Go.WideShapes Go.ChangeAt Go.Joins Go.Deep
set_option linter.unusedVariables false
set_option linter.unusedSimpArgs false
theorem bytesD : Tryd.prog.bytesOf 45 = 32 := by kernel_rfl
set_option maxRecDepth 100000 in
theorem open_ds {H : Type} {enc : TypeId × Value → H} {W : World} {base fuel : Nat} {spare : Nat → Bool} {held : Bool} {v : Value} {x : DataW H × List MemPlace} (h : DataW.trod enc Tryd.prog W base spare held fuel 36 [v] = some x) :
    ∃ ds : List (List UInt8), Dsl.Ds W v ds ∧ (x.1 = .nil ∧ ds = [] ∨ ∃ elems sp, x.1 = .slice elems sp ∧ ds.length = elems.length) := by
  rcases open_slice Tryd.underlying36 h with ⟨hcs, hx⟩ | ⟨a, len, cap, m, n', D, Pl, hcs, _, hl, hcm, hm, hx, hi⟩
  · injection hcs with hcs _
    subst hcs
    exact ⟨[], ⟨Row.nil W, fun d hd => by cases hd⟩, .inl ⟨by rw [hx], rfl⟩⟩
  · injection hcs with hcs _
    subst hcs
    have hml : len ≤ m := by rw [hm]; split <;> omega
    have each : ∀ i, i < len → ∃ d : List UInt8, d.length = 32 ∧ ∀ j u, (bcs d)[j]? = some u → W.cell? ((a.add (i * 32)).add j) = some u := by
      intro i hil
      obtain ⟨cs', hc, ht⟩ := hi i (by omega)
      obtain ⟨d, rfl, hd⟩ := bytes_of_array Tryd.underlying45 Tryd.underlying5 cells8 cellsD ht
      obtain ⟨_, hcl, hat⟩ := World.cells?_some hc
      refine ⟨d, hd, fun j u hu => ?_⟩
      have hj : j < (bcs d).length := (List.getElem?_eq_some_iff.1 hu).1
      have := hat j (by rw [cellsD, ← hd, ← bcs_length]; exact hj)
      rw [cellsD] at this
      rw [this, hu]
    obtain ⟨f, hf⟩ := Deep.choose_lt each
    refine ⟨(List.range len).map f, ⟨⟨some a, cap, by simp, by simpa using hl, hcm, (fun e => by cases e), ?_⟩, ?_⟩, .inr ⟨_, _, by rw [hx], by simp⟩⟩
    · intro ad had j u hu
      cases had
      have h32 : Dsl.All32 ((List.range len).map f) := by
        intro d hd
        obtain ⟨i, hi', rfl⟩ := List.mem_map.1 hd
        exact (hf i (List.mem_range.1 hi')).1
      have hlen := Dsl.dcs_len _ h32
      have hj : j < (Dsl.dcs ((List.range len).map f)).length := (List.getElem?_eq_some_iff.1 hu).1
      rw [hlen] at hj
      simp only [List.length_map, List.length_range] at hj
      have hq : j / 32 < len := by omega
      have hat := Dsl.dcs_at ((List.range len).map f) (j / 32) (by simpa using hq) h32
      have e1 : (bcs (f (j / 32)))[j % 32]? = some u := by
        have e2 : ((List.range len).map f)[j / 32]'(by simpa using hq) = f (j / 32) := by simp
        rw [← e2, ← hat, List.getElem?_take, if_pos (by omega), List.getElem?_drop, show j / 32 * 32 + j % 32 = j by omega]
        exact hu
      have := (hf (j / 32) hq).2 _ _ e1
      rwa [show (a.add (j / 32 * 32)).add (j % 32) = a.add j from by
        rw [show a.add j = a.add (j / 32 * 32 + j % 32) by rw [show j / 32 * 32 + j % 32 = j by omega]]
        unfold Addr.add; by_cases ha : j / 32 * 32 = 0 <;> by_cases hb : j % 32 = 0 <;> simp [ha, hb, Nat.add_assoc]] at this
    · intro d hd
      obtain ⟨i, hi', rfl⟩ := List.mem_map.1 hd
      exact (hf i (List.mem_range.1 hi')).1
theorem weights_head {H : Type} {P : Program} {t : TypeId} {ts : List TypeId} {d : DataW H} {r : List (DataW H)} {q : Nat → Bool} (h : (DataW.weightsEach P (t :: ts) (d :: r)).all q = true) : (d.weights P t).all q = true := by
  simp only [DataW.weightsEach, List.all_append, Bool.and_eq_true] at h
  exact h.1
set_option maxRecDepth 100000 in
theorem open_dsl {H : Type} {enc : TypeId × Value → H} {W : World} {base : Nat} {v : Value} {d : DataW H} {p : List MemPlace} (hval : Value.okWide Tryd.prog W .any base 36 v) (h : DataW.Trod enc Tryd.prog W 0 (fun _ => true) true 36 v d p)
    (hsz : ∀ elems spare, d = .slice elems spare → (elems.length + spare.length) * Tryd.prog.bytesOf 45 ≤ reachBytes) : ∃ ds : List (List UInt8), Dsl.Ds W v ds ∧ ds.length ≤ 4398046511104 := by
  obtain ⟨a0, len, cap, rfl⟩ := okWide_slice Tryd.underlying36 hval
  obtain ⟨fuel, hf⟩ := h
  obtain ⟨ds, hds, hx⟩ := open_ds hf
  refine ⟨ds, hds, ?_⟩
  rcases hx with ⟨_, rfl⟩ | ⟨elems, sp, hx, hlx⟩
  · simp
  · have := hsz elems sp hx
    rw [bytesD] at this
    unfold reachBytes at this
    omega
end Go.Proofs.YtnecgoahdkfbeaaDoor.Opn
end
