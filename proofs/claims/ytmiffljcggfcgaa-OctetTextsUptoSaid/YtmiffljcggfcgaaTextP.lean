/- What is told to the base 16 or 64 is read again, and what is read is told again: plain laws, no program in sight. -/
import Derived.Test.YtmiffljcggfcgaaB64E
import Derived.Test.YtmiffljcggfcgaaHexW
import Derived.Test.YtmiffljcggfcgaaHexV
namespace Go.Proofs.Ytmiffljcggfcgaa.Txt
open Go Go.RowKit Go.Proofs.Ytmiffljcggfcgaa.Cop Go.Proofs.Ytmiffljcggfcgaa.Oct Go.Proofs.Ytmiffljcggfcgaa.Hex Go.Proofs.Ytmiffljcggfcgaa.B64
set_option linter.unusedVariables false
set_option linter.unusedSimpArgs false

/-! ### What is told is read again, and the other way about -/
theorem ix_get (al : List UInt8) (c : UInt8) (h : 0 ≤ ix al c) : al.getD (ix al c).toNat 0 = c := by
  induction al with
  | nil => simp [ix_nil] at h
  | cons b l ih =>
    rw [ix_cons] at h ⊢
    by_cases e : b = c
    · rw [if_pos e]; simpa using e
    · rw [if_neg e] at h ⊢
      by_cases e2 : ix l c = -1
      · rw [if_pos e2] at h; omega
      · rw [if_neg e2] at h ⊢
        have h0 : 0 ≤ ix l c := by have := ix_ge l c; omega
        have e3 : (ix l c + 1).toNat = (ix l c).toNat + 1 := by omega
        rw [e3]
        simpa using ih h0
theorem good_all (al : List UInt8) : ∀ l : List UInt8, (∀ c ∈ l, 0 ≤ ix al c) → good al l = l.length
  | [], _ => rfl
  | c :: l, h => by
    rw [good_cons, if_pos (h c (by simp)), good_all al l (fun x hx => h x (by simp [hx]))]; rfl
theorem all_good (al : List UInt8) : ∀ l : List UInt8, good al l = l.length → ∀ c ∈ l, 0 ≤ ix al c
  | [], _, c, hc => by simp at hc
  | x :: l, h, c, hc => by
    rw [good_cons] at h
    by_cases e : 0 ≤ ix al x
    · rw [if_pos e] at h
      rcases List.mem_cons.1 hc with rfl | hc
      · exact e
      · exact all_good al l (by simpa using h) c hc
    · rw [if_neg e] at h; simp at h
theorem hv_HX : ∀ k : Fin 16, hv (HX.getD k.val 0) = (k.val : Int) := by decide
theorem hv_at (k : Nat) (h : k < 16) : hv (HX.getD k 0) = (k : Int) := hv_HX ⟨k, h⟩
theorem hpair_tail (x y : UInt8) (r : List UInt8) (i : Nat) : hpair (x :: y :: r) (i + 1) = hpair r i := by
  unfold hpair
  have e1 : 2 * (i + 1) = 2 * i + 1 + 1 := by omega
  rw [e1]; simp
theorem pairs_cons (x y : UInt8) (r : List UInt8) (n : Nat) : pairs (x :: y :: r) (n + 1) = hpair [x, y] 0 :: pairs r n := by
  unfold pairs
  rw [List.range_succ_eq_map, List.map_cons, List.map_map]
  have e : List.map (hpair (x :: y :: r) ∘ Nat.succ) (List.range n) = List.map (hpair r) (List.range n) := List.map_congr_left (fun i _ => hpair_tail x y r i)
  rw [e]
  rfl
theorem hpair_told (b : UInt8) : hpair [h1 b, h2 b] 0 = b := by
  have hb := b.toNat_lt
  unfold hpair h1 h2
  simp only [Nat.mul_zero, Nat.zero_add, List.getD_cons_zero, List.getD_cons_succ]
  rw [hv_at _ (by omega), hv_at _ (by omega)]
  rw [Int.toNat_natCast, Int.toNat_natCast]
  have : b.toNat / 16 * 16 + b.toNat % 16 = b.toNat := by omega
  rw [this]
  exact UInt8.ofNat_toNat
theorem hex_good (l : List UInt8) : ∀ c ∈ hexOf l, 0 ≤ ix HX c := by
  induction l with
  | nil => intro c hc; simp [hexOf] at hc
  | cons b l ih =>
    have hb := b.toNat_lt
    intro c hc
    rcases List.mem_cons.1 hc with rfl | hc
    · have := hv_at (b.toNat / 16) (by omega); unfold hv at this; unfold h1; omega
    · rcases List.mem_cons.1 hc with rfl | hc
      · have := hv_at (b.toNat % 16) (by omega); unfold hv at this; unfold h2; omega
      · exact ih c hc
theorem hex_pairs (l : List UInt8) : pairs (hexOf l) l.length = l := by
  induction l with
  | nil => rfl
  | cons b l ih => rw [hexOf, List.length_cons, pairs_cons, ih, hpair_told]
theorem hex_back (l : List UInt8) : hErr (hexOf l) = 0 ∧ hBytes (hexOf l) = l := by
  have hok : hOk (hexOf l) = true := by
    unfold hOk
    simp only [Bool.and_eq_true, decide_eq_true_eq]
    exact ⟨good_all _ _ (hex_good l), by rw [hexOf_length]; omega⟩
  unfold hErr hBytes
  rw [if_pos hok, if_pos hok, hexOf_length, Nat.mul_div_cancel_left _ (by decide), hex_pairs]
  exact ⟨rfl, rfl⟩
theorem pair_text (x y : UInt8) (hx : 0 ≤ ix HX x) (hy : 0 ≤ ix HX y) : h1 (hpair [x, y] 0) = x ∧ h2 (hpair [x, y] 0) = y := by
  have a := ix_lt HX x
  have b := ix_lt HX y
  have l16 : HX.length = 16 := rfl
  have e : (hpair [x, y] 0).toNat = (ix HX x).toNat * 16 + (ix HX y).toNat := by
    unfold hpair hv
    simp only [Nat.mul_zero, Nat.zero_add, List.getD_cons_zero, List.getD_cons_succ]
    rw [UInt8.toNat_ofNat']
    omega
  unfold h1 h2
  rw [e]
  have e1 : ((ix HX x).toNat * 16 + (ix HX y).toNat) / 16 = (ix HX x).toNat := by omega
  have e2 : ((ix HX x).toNat * 16 + (ix HX y).toNat) % 16 = (ix HX y).toNat := by omega
  rw [e1, e2]
  exact ⟨ix_get HX x hx, ix_get HX y hy⟩
theorem pairs_text : ∀ (n : Nat) (s : List UInt8), s.length = 2 * n → (∀ c ∈ s, 0 ≤ ix HX c) → hexOf (pairs s n) = s
  | 0, s, h, _ => by
    have : s = [] := List.eq_nil_of_length_eq_zero (by omega)
    subst this; rfl
  | n + 1, s, h, hg => by
    match s, h, hg with
    | [], h, _ => simp at h
    | [x], h, _ => simp at h; omega
    | x :: y :: r, h, hg =>
      rw [pairs_cons, hexOf, pairs_text n r (by simp at h; omega) (fun c hc => hg c (by simp [hc]))]
      obtain ⟨e1, e2⟩ := pair_text x y (hg x (by simp)) (hg y (by simp))
      rw [e1, e2]
theorem hex_text (s : List UInt8) (h : hErr s = 0) : hexOf (hBytes s) = s := by
  unfold hErr at h
  have hok : hOk s = true := by
    by_cases e : hOk s = true
    · exact e
    · rw [if_neg e] at h; omega
  unfold hBytes
  rw [if_pos hok]
  unfold hOk at hok
  simp only [Bool.and_eq_true, decide_eq_true_eq] at hok
  exact pairs_text _ s (by omega) (all_good HX s hok.1)

/-- The letters read on from a state. -/
def R (st : Nat × Nat × List UInt8) (l : List UInt8) : Nat × Nat × List UInt8 := l.foldl (fun st c => step6 st (sv c).toNat) st
theorem R_append (st : Nat × Nat × List UInt8) (a b : List UInt8) : R st (a ++ b) = R (R st a) b := List.foldl_append
theorem R_out (q : List UInt8) : ∀ (x y : Nat) (o : List UInt8), R (x, y, o) q = ((R (x, y, []) q).1, (R (x, y, []) q).2.1, o ++ (R (x, y, []) q).2.2) := by
  induction q with
  | nil => intro x y o; simp [R]
  | cons c q ih =>
    intro x y o
    show R (step6 (x, y, o) (sv c).toNat) q = _
    have e : R (x, y, []) (c :: q) = R (step6 (x, y, []) (sv c).toNat) q := rfl
    rw [e]
    unfold step6
    by_cases h : 8 ≤ y + 6
    · simp only [h, if_true, List.nil_append]
      rw [ih _ _ (o ++ _), ih _ _ [_]]
      simp
    · simp only [h, if_false]
      rw [ih]
def q0 (a b : Nat) : UInt8 := UInt8.ofNat ((a * 64 + b) / 16)
def q1 (a b c : Nat) : UInt8 := UInt8.ofNat (((a * 64 + b) % 16 * 64 + c) / 4)
def q2 (a b c d : Nat) : UInt8 := UInt8.ofNat ((((a * 64 + b) % 16 * 64 + c) % 4 * 64 + d) / 1)
def vl (c : UInt8) : Nat := (sv c).toNat
theorem R2 (a b : UInt8) (o : List UInt8) : R (0, 0, o) [a, b] = ((vl a * 64 + vl b) % 16, 4, o ++ [q0 (vl a) (vl b)]) := by simp [R, step6, vl, q0]
theorem R3 (a b c : UInt8) (o : List UInt8) : R (0, 0, o) [a, b, c] = (((vl a * 64 + vl b) % 16 * 64 + vl c) % 4, 2, o ++ [q0 (vl a) (vl b), q1 (vl a) (vl b) (vl c)]) := by simp [R, step6, vl, q0, q1]
theorem R4 (a b c d : UInt8) (o : List UInt8) : R (0, 0, o) [a, b, c, d] = (0, 0, o ++ [q0 (vl a) (vl b), q1 (vl a) (vl b) (vl c), q2 (vl a) (vl b) (vl c) (vl d)]) := by simp [R, step6, vl, q0, q1, q2, Nat.mod_one]
theorem sv_SX : ∀ k : Fin 64, sv (SX.getD k.val 0) = (k.val : Int) := by decide +kernel
theorem sv_at (k : Nat) (h : k < 64) : sv (SX.getD k 0) = (k : Int) := sv_SX ⟨k, h⟩
theorem vl_at (k : Nat) (h : k < 64) : vl (SX.getD k 0) = k := by unfold vl; rw [sv_at k h]; rfl
theorem let4_good (m : List UInt8) (k : Nat) : 0 ≤ ix SX (let4 m k) := by
  have := sv_at (num3 m 3 / 64 ^ (3 - k) % 64) (Nat.mod_lt _ (by decide))
  unfold sv at this
  unfold let4
  omega
theorem vl_let4 (m : List UInt8) (k : Nat) : vl (let4 m k) = num3 m 3 / 64 ^ (3 - k) % 64 := vl_at _ (Nat.mod_lt _ (by decide))
theorem good_ne (c : UInt8) (h : 0 ≤ ix SX c) : c ≠ 61 := by
  rintro rfl
  exact absurd h (by decide +kernel)
theorem num3_1 (a : UInt8) : num3 [a] 3 = a.toNat * 65536 := by simp [num3]; omega
theorem num3_2 (a b : UInt8) : num3 [a, b] 3 = a.toNat * 65536 + b.toNat * 256 := by simp [num3]; omega
theorem num3_3 (a b c : UInt8) : num3 [a, b, c] 3 = a.toNat * 65536 + b.toNat * 256 + c.toNat := by simp [num3]; omega
theorem q0_told (m : List UInt8) (a : UInt8) (h : num3 m 3 / 65536 = a.toNat) : q0 (vl (let4 m 0)) (vl (let4 m 1)) = a := by
  rw [vl_let4, vl_let4]
  unfold q0
  have := a.toNat_lt
  have e : (num3 m 3 / 64 ^ (3 - 0) % 64 * 64 + num3 m 3 / 64 ^ (3 - 1) % 64) / 16 = a.toNat := by simp only [Nat.reducePow, Nat.reduceSub] at *; omega
  rw [e]; exact UInt8.ofNat_toNat
theorem q1_told (m : List UInt8) (b : UInt8) (h : num3 m 3 / 256 % 256 = b.toNat) : q1 (vl (let4 m 0)) (vl (let4 m 1)) (vl (let4 m 2)) = b := by
  rw [vl_let4, vl_let4, vl_let4]
  unfold q1
  have e : ((num3 m 3 / 64 ^ (3 - 0) % 64 * 64 + num3 m 3 / 64 ^ (3 - 1) % 64) % 16 * 64 + num3 m 3 / 64 ^ (3 - 2) % 64) / 4 = b.toNat := by simp only [Nat.reducePow, Nat.reduceSub] at *; omega
  rw [e]; exact UInt8.ofNat_toNat
theorem q2_told (m : List UInt8) (c : UInt8) (h : num3 m 3 % 256 = c.toNat) : q2 (vl (let4 m 0)) (vl (let4 m 1)) (vl (let4 m 2)) (vl (let4 m 3)) = c := by
  rw [vl_let4, vl_let4, vl_let4, vl_let4]
  unfold q2
  have e : (((num3 m 3 / 64 ^ (3 - 0) % 64 * 64 + num3 m 3 / 64 ^ (3 - 1) % 64) % 16 * 64 + num3 m 3 / 64 ^ (3 - 2) % 64) % 4 * 64 + num3 m 3 / 64 ^ (3 - 3) % 64) / 1 = c.toNat := by simp only [Nat.reducePow, Nat.reduceSub] at *; omega
  rw [e]; exact UInt8.ofNat_toNat
/-- The letters of some bytes without the '='. -/
def raw : List UInt8 → List UInt8
  | [] => []
  | [a] => [let4 [a] 0, let4 [a] 1]
  | [a, b] => [let4 [a, b] 0, let4 [a, b] 1, let4 [a, b] 2]
  | a :: b :: c :: r => [let4 [a, b, c] 0, let4 [a, b, c] 1, let4 [a, b, c] 2, let4 [a, b, c] 3] ++ raw r
def pad : List UInt8 → Nat
  | [] => 0
  | [_] => 2
  | [_, _] => 1
  | _ :: _ :: _ :: r => pad r
theorem b64_raw : ∀ l : List UInt8, b64 l = raw l ++ List.replicate (pad l) 61 ∧ pad l ≤ 2 ∧ (b64 l).length % 4 = 0
  | [] => ⟨rfl, by decide, rfl⟩
  | [a] => ⟨by simp [b64, enc, four, raw, pad, List.replicate], by simp [pad], by simp [b64, enc]⟩
  | [a, b] => ⟨by simp [b64, enc, four, raw, pad, List.replicate], by simp [pad], by simp [b64, enc]⟩
  | a :: b :: c :: r => by
    obtain ⟨h1, h2, h3⟩ := b64_raw r
    refine ⟨?_, h2, ?_⟩
    · simp [b64, raw, pad, h1, enc, four]
    · simp [b64, enc]; omega
theorem raw_good : ∀ l : List UInt8, ∀ c ∈ raw l, 0 ≤ ix SX c
  | [], c, h => by simp [raw] at h
  | [a], c, h => by
    simp only [raw, List.mem_cons, List.not_mem_nil, or_false] at h
    rcases h with rfl | rfl <;> exact let4_good _ _
  | [a, b], c, h => by
    simp only [raw, List.mem_cons, List.not_mem_nil, or_false] at h
    rcases h with rfl | rfl | rfl <;> exact let4_good _ _
  | a :: b :: d :: r, c, h => by
    simp only [raw, List.mem_append, List.mem_cons, List.not_mem_nil, or_false] at h
    rcases h with (rfl | rfl | rfl | rfl) | h
    · exact let4_good _ _
    · exact let4_good _ _
    · exact let4_good _ _
    · exact let4_good _ _
    · exact raw_good r c h
theorem raw_read : ∀ l : List UInt8, (R (0, 0, []) (raw l)).1 = 0 ∧ (R (0, 0, []) (raw l)).2.2 = l
  | [] => ⟨rfl, rfl⟩
  | [a] => by
    have ha := a.toNat_lt
    have e := num3_1 a
    rw [raw, R2]
    refine ⟨?_, ?_⟩
    · show (vl (let4 [a] 0) * 64 + vl (let4 [a] 1)) % 16 = 0
      rw [vl_let4, vl_let4, e]; simp only [Nat.reducePow, Nat.reduceSub]; omega
    · show [] ++ [q0 _ _] = [a]
      rw [q0_told [a] a (by omega)]; rfl
  | [a, b] => by
    have ha := a.toNat_lt
    have hb := b.toNat_lt
    have e := num3_2 a b
    rw [raw, R3]
    refine ⟨?_, ?_⟩
    · show ((vl (let4 [a, b] 0) * 64 + vl (let4 [a, b] 1)) % 16 * 64 + vl (let4 [a, b] 2)) % 4 = 0
      rw [vl_let4, vl_let4, vl_let4, e]; simp only [Nat.reducePow, Nat.reduceSub]; omega
    · show [] ++ [q0 _ _, q1 _ _ _] = [a, b]
      rw [q0_told [a, b] a (by omega), q1_told [a, b] b (by omega)]; rfl
  | a :: b :: c :: r => by
    have ha := a.toNat_lt
    have hb := b.toNat_lt
    have hc := c.toNat_lt
    have e := num3_3 a b c
    obtain ⟨h1, h2⟩ := raw_read r
    rw [raw, R_append, R4, R_out, q0_told [a, b, c] a (by omega), q1_told [a, b, c] b (by omega), q2_told [a, b, c] c (by omega)]
    refine ⟨h1, ?_⟩
    show ([] ++ [a, b, c]) ++ _ = _
    rw [h2]; rfl
theorem t1_pad (q : List UInt8) (k j : Nat) (h : j ≤ k) : t1 (q ++ List.replicate k 61) (q.length + (j + 1)) = if j + 1 ≤ k then q.length + j else q.length + (j + 1) := by
  unfold t1
  by_cases hj : j + 1 ≤ k
  · have e : (q ++ List.replicate k 61).getD (q.length + (j + 1) - 1) 0 = 61 := by
      rw [List.getD, List.getElem?_append_right (by omega), List.getElem?_replicate, if_pos (by omega)]; rfl
    rw [if_pos ⟨by omega, e⟩, if_pos hj]; omega
  · have e : (q ++ List.replicate k 61).getD (q.length + (j + 1) - 1) 0 = 0 := by
      rw [List.getD, List.getElem?_append_right (by omega), List.getElem?_replicate, if_neg (by omega)]; rfl
    rw [if_neg (by rw [e]; rintro ⟨_, h⟩; exact absurd h (by decide)), if_neg hj]
theorem t1_end (q : List UInt8) (k : Nat) (hq : ∀ c ∈ q, c ≠ 61) : t1 (q ++ List.replicate k 61) q.length = q.length := by
  unfold t1
  by_cases h : 0 < q.length
  · have e : (q ++ List.replicate k 61).getD (q.length - 1) 0 = q[q.length - 1] := by
      rw [List.getD, List.getElem?_append_left (by omega), List.getElem?_eq_getElem (by omega)]; rfl
    rw [if_neg]
    rintro ⟨_, h2⟩
    exact hq _ (List.getElem_mem (by omega)) (e.symm.trans h2)
  · rw [if_neg (fun h2 => h h2.1)]
theorem tn_pad (q : List UInt8) (k : Nat) (hk : k ≤ 2) (hq : ∀ c ∈ q, c ≠ 61) : tn (q ++ List.replicate k 61) = q.length := by
  unfold tn
  have hl : (q ++ List.replicate k 61).length = q.length + k := by simp
  rw [hl]
  have he := t1_end q k hq
  match k, hk with
  | 0, _ => simpa using (by rw [show t1 (q ++ List.replicate 0 61) (q.length + 0) = q.length from he, he] : t1 (q ++ List.replicate 0 61) (t1 (q ++ List.replicate 0 61) (q.length + 0)) = q.length)
  | 1, _ => rw [t1_pad q 1 0 (by omega), if_pos (by omega), Nat.add_zero, he]
  | 2, _ => rw [t1_pad q 2 1 (by omega), if_pos (by omega), t1_pad q 2 0 (by omega), if_pos (by omega), Nat.add_zero]
theorem six_back (l : List UInt8) : sErr (b64 l) = 0 ∧ sBytes (b64 l) = l := by
  obtain ⟨h1, h2, h3⟩ := b64_raw l
  have hne : ∀ c ∈ raw l, c ≠ 61 := fun c h => good_ne c (raw_good l c h)
  have htn : tn (b64 l) = (raw l).length := by rw [h1]; exact tn_pad _ _ h2 hne
  have hbd : body (b64 l) = raw l := by
    unfold body; rw [htn, h1, List.take_left']; rfl
  obtain ⟨r1, r2⟩ := raw_read l
  have hok : sOk (b64 l) = true := by
    unfold sOk
    simp only [Bool.and_eq_true, decide_eq_true_eq]
    rw [hbd, htn]
    exact ⟨⟨good_all _ _ (raw_good l), h3⟩, r1⟩
  unfold sErr sBytes
  rw [if_pos hok, if_pos hok, hbd]
  exact ⟨rfl, r2⟩
theorem tn_split (s : List UInt8) : ∃ k, k ≤ 2 ∧ s = body s ++ List.replicate k 61 := by
  have step : ∀ n k, n + k = s.length → s = s.take n ++ List.replicate k 61 → t1 s n = n ∨ (t1 s n + (k + 1) = s.length ∧ s = s.take (t1 s n) ++ List.replicate (k + 1) 61) := by
    intro n k hn hs
    unfold t1
    by_cases h : 0 < n ∧ s.getD (n - 1) 0 = 61
    · rw [if_pos h]
      refine .inr ⟨by omega, ?_⟩
      have hlt : n - 1 < s.length := by omega
      have e : s.take n = s.take (n - 1) ++ [61] := by
        have e1 : n = n - 1 + 1 := by omega
        rw [e1, List.take_succ_eq_append_getElem hlt, Nat.add_sub_cancel]
        have : s[n - 1] = 61 := by
          have := h.2
          rw [List.getD, List.getElem?_eq_getElem hlt] at this
          exact this
        rw [this]
      rw [e, List.append_assoc] at hs
      exact hs
    · rw [if_neg h]; exact .inl rfl
  unfold body tn
  rcases step s.length 0 (by omega) (by simp) with h | ⟨h1, h2⟩
  · rw [h, h]; exact ⟨0, by omega, by simp⟩
  · rcases step _ 1 h1 h2 with h | ⟨h3, h4⟩
    · rw [h]; exact ⟨1, by omega, h2⟩
    · exact ⟨2, by omega, h4⟩
theorem ofNat_lt (n : Nat) (h : n < 256) : (UInt8.ofNat n).toNat = n := by rw [UInt8.toNat_ofNat']; omega
theorem vl_get (c : UInt8) (h : 0 ≤ ix SX c) : SX.getD (vl c) 0 = c ∧ vl c < 64 := by
  refine ⟨ix_get SX c h, ?_⟩
  have := sv_lt c
  have e : sv c = ix SX c := rfl
  unfold vl; omega
theorem let_of (m : List UInt8) (k : Nat) (c : UInt8) (h : 0 ≤ ix SX c) (e : num3 m 3 / 64 ^ (3 - k) % 64 = vl c) : let4 m k = c := by
  unfold let4; rw [e]; exact (vl_get c h).1
theorem text_read : ∀ (n : Nat) (q : List UInt8) (k : Nat), q.length ≤ n → (∀ c ∈ q, 0 ≤ ix SX c) → k ≤ 2 → (q.length + k) % 4 = 0 → (R (0, 0, []) q).1 = 0 → b64 (R (0, 0, []) q).2.2 = q ++ List.replicate k 61
  | n, [], k, _, _, hk, h4, _ => by
    have : k = 0 := by simp at h4; omega
    subst this; rfl
  | n, [a], k, _, _, hk, h4, _ => by simp at h4; omega
  | n, [a, b], k, _, hg, hk, h4, h0 => by
    have : k = 2 := by simp at h4; omega
    subst this
    have ga := vl_get a (hg a (by simp))
    have gb := vl_get b (hg b (by simp))
    rw [R2] at h0 ⊢
    have h0' : (vl a * 64 + vl b) % 16 = 0 := h0
    show b64 [q0 (vl a) (vl b)] = _
    have e0 : (q0 (vl a) (vl b)).toNat = (vl a * 64 + vl b) / 16 := ofNat_lt _ (by omega)
    have e := num3_1 (q0 (vl a) (vl b))
    have l0 := let_of [q0 (vl a) (vl b)] 0 a (hg a (by simp)) (by rw [e, e0]; simp only [Nat.reducePow, Nat.reduceSub]; omega)
    have l1 := let_of [q0 (vl a) (vl b)] 1 b (hg b (by simp)) (by rw [e, e0]; simp only [Nat.reducePow, Nat.reduceSub]; omega)
    simp [b64, enc, four, l0, l1, List.replicate]
  | n, [a, b, c], k, _, hg, hk, h4, h0 => by
    have : k = 1 := by simp at h4; omega
    subst this
    have ga := vl_get a (hg a (by simp))
    have gb := vl_get b (hg b (by simp))
    have gc := vl_get c (hg c (by simp))
    rw [R3] at h0 ⊢
    have h0' : ((vl a * 64 + vl b) % 16 * 64 + vl c) % 4 = 0 := h0
    show b64 [q0 (vl a) (vl b), q1 (vl a) (vl b) (vl c)] = _
    have e0 : (q0 (vl a) (vl b)).toNat = (vl a * 64 + vl b) / 16 := ofNat_lt _ (by omega)
    have e1 : (q1 (vl a) (vl b) (vl c)).toNat = ((vl a * 64 + vl b) % 16 * 64 + vl c) / 4 := ofNat_lt _ (by omega)
    have e := num3_2 (q0 (vl a) (vl b)) (q1 (vl a) (vl b) (vl c))
    have l0 := let_of [q0 (vl a) (vl b), q1 (vl a) (vl b) (vl c)] 0 a (hg a (by simp)) (by rw [e, e0, e1]; simp only [Nat.reducePow, Nat.reduceSub]; omega)
    have l1 := let_of [q0 (vl a) (vl b), q1 (vl a) (vl b) (vl c)] 1 b (hg b (by simp)) (by rw [e, e0, e1]; simp only [Nat.reducePow, Nat.reduceSub]; omega)
    have l2 := let_of [q0 (vl a) (vl b), q1 (vl a) (vl b) (vl c)] 2 c (hg c (by simp)) (by rw [e, e0, e1]; simp only [Nat.reducePow, Nat.reduceSub]; omega)
    simp [b64, enc, four, l0, l1, l2, List.replicate]
  | 0, a :: b :: c :: d :: r, k, hn, _, _, _, _ => by simp at hn
  | n + 1, a :: b :: c :: d :: r, k, hn, hg, hk, h4, h0 => by
    have ga := vl_get a (hg a (by simp))
    have gb := vl_get b (hg b (by simp))
    have gc := vl_get c (hg c (by simp))
    have gd := vl_get d (hg d (by simp))
    have er : R (0, 0, []) (a :: b :: c :: d :: r) = R (R (0, 0, []) [a, b, c, d]) r := rfl
    rw [er, R4, R_out] at h0 ⊢
    have ih := text_read n r k (by simp at hn; omega) (fun x hx => hg x (by simp [hx])) hk (by simp at h4; omega) h0
    show b64 ([q0 (vl a) (vl b), q1 (vl a) (vl b) (vl c), q2 (vl a) (vl b) (vl c) (vl d)] ++ _) = _
    have e0 : (q0 (vl a) (vl b)).toNat = (vl a * 64 + vl b) / 16 := ofNat_lt _ (by omega)
    have e1 : (q1 (vl a) (vl b) (vl c)).toNat = ((vl a * 64 + vl b) % 16 * 64 + vl c) / 4 := ofNat_lt _ (by omega)
    have e2 : (q2 (vl a) (vl b) (vl c) (vl d)).toNat = (((vl a * 64 + vl b) % 16 * 64 + vl c) % 4 * 64 + vl d) / 1 := ofNat_lt _ (by omega)
    rw [b64_append _ _ (by simp), ih]
    have e := num3_3 (q0 (vl a) (vl b)) (q1 (vl a) (vl b) (vl c)) (q2 (vl a) (vl b) (vl c) (vl d))
    have l0 := let_of [q0 (vl a) (vl b), q1 (vl a) (vl b) (vl c), q2 (vl a) (vl b) (vl c) (vl d)] 0 a (hg a (by simp)) (by rw [e, e0, e1, e2]; simp only [Nat.reducePow, Nat.reduceSub]; omega)
    have l1 := let_of [q0 (vl a) (vl b), q1 (vl a) (vl b) (vl c), q2 (vl a) (vl b) (vl c) (vl d)] 1 b (hg b (by simp)) (by rw [e, e0, e1, e2]; simp only [Nat.reducePow, Nat.reduceSub]; omega)
    have l2 := let_of [q0 (vl a) (vl b), q1 (vl a) (vl b) (vl c), q2 (vl a) (vl b) (vl c) (vl d)] 2 c (hg c (by simp)) (by rw [e, e0, e1, e2]; simp only [Nat.reducePow, Nat.reduceSub]; omega)
    have l3 := let_of [q0 (vl a) (vl b), q1 (vl a) (vl b) (vl c), q2 (vl a) (vl b) (vl c) (vl d)] 3 d (hg d (by simp)) (by rw [e, e0, e1, e2]; simp only [Nat.reducePow, Nat.reduceSub]; omega)
    simp [b64, enc, four, l0, l1, l2, l3]
theorem six_text (s : List UInt8) (h : sErr s = 0) : b64 (sBytes s) = s := by
  unfold sErr at h
  have hok : sOk s = true := by
    by_cases e : sOk s = true
    · exact e
    · rw [if_neg e] at h; omega
  unfold sBytes
  rw [if_pos hok]
  unfold sOk at hok
  simp only [Bool.and_eq_true, decide_eq_true_eq] at hok
  obtain ⟨⟨g, h4⟩, h0⟩ := hok
  obtain ⟨k, hk, hs⟩ := tn_split s
  have hl := body_length s
  have := text_read (body s).length (body s) k (Nat.le_refl _) (all_good SX _ (by omega)) hk (by
    have := congrArg List.length hs
    rw [List.length_append, List.length_replicate] at this
    omega) h0
  exact this.trans hs.symm
end Go.Proofs.Ytmiffljcggfcgaa.Txt
