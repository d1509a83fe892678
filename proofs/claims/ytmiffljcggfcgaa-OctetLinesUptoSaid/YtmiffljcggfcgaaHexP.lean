/- Letters of an alphabet, and bytes told by them: plain laws, no program in sight; and the contracts of the functions that look a letter up. -/
import Derived.Test.YtmiffljcggfcgaaByt
import Derived.Test.YtmiffljcggfcgaaShelf
namespace Go.Proofs.Ytmiffljcggfcgaa.Hex
open Go Go.RowKit Go.Proofs.Ytmiffljcggfcgaa.Cop Go.Proofs.Ytmiffljcggfcgaa.Oct
set_option linter.unusedVariables false
set_option linter.unusedSimpArgs false

/-- The place of a letter; -1: it has none. -/
def ix (al : List UInt8) (c : UInt8) : Int := Lib.indexByte al c
theorem ix_nil (c : UInt8) : ix [] c = -1 := rfl
theorem ix_cons (b : UInt8) (l : List UInt8) (c : UInt8) : ix (b :: l) c = if b = c then 0 else if ix l c = -1 then -1 else ix l c + 1 := by
  unfold ix
  rw [Lib.indexByte]
  by_cases h : b = c <;> by_cases h' : Lib.indexByte l c = -1 <;> simp [h, h']
theorem ix_ge (al : List UInt8) (c : UInt8) : -1 ≤ ix al c := Lib.indexByte_ge al c
theorem ix_lt (al : List UInt8) (c : UInt8) : ix al c < al.length := by
  induction al with
  | nil => simp [ix_nil]
  | cons b l ih =>
    rw [ix_cons, List.length_cons]
    repeat' split
    all_goals omega
theorem ix_first (al : List UInt8) (c : UInt8) (k : Nat) (hk : k < al.length) (he : al[k] = c) (hn : ∀ j (h : j < k), al[j]'(by omega) ≠ c) : ix al c = k := by
  induction al generalizing k with
  | nil => simp at hk
  | cons b l ih =>
    rw [ix_cons]
    cases k with
    | zero => simp at he; rw [if_pos he]; rfl
    | succ k =>
      have h0 := hn 0 (by omega)
      simp at h0
      rw [if_neg h0]
      have := ih k (by simpa using hk) (by simpa using he) (fun j h => by have := hn (j + 1) (by omega); simpa using this)
      rw [this, if_neg (by omega)]
      omega
theorem ix_none (al : List UInt8) (c : UInt8) (hn : ∀ j (h : j < al.length), al[j] ≠ c) : ix al c = -1 := by
  induction al with
  | nil => rfl
  | cons b l ih =>
    have h0 := hn 0 (by simp)
    simp at h0
    rw [ix_cons, if_neg h0, if_pos (ih fun j h => by have := hn (j + 1) (by simpa using h); simpa using this)]

/-- How many letters at a text's beginning are of the alphabet. -/
def good (al l : List UInt8) : Nat := (l.takeWhile fun c => decide (0 ≤ ix al c)).length
theorem good_le (al l : List UInt8) : good al l ≤ l.length := (List.takeWhile_sublist _).length_le
theorem good_cons (al : List UInt8) (c : UInt8) (l : List UInt8) : good al (c :: l) = if 0 ≤ ix al c then good al l + 1 else 0 := by
  unfold good
  rw [List.takeWhile_cons]
  by_cases h : 0 ≤ ix al c <;> simp [h]
theorem good_yes (al : List UInt8) : ∀ (l : List UInt8) (i : Nat) (h : i < good al l), 0 ≤ ix al (l[i]'(Nat.lt_of_lt_of_le h (good_le al l)))
  | [], i, h => by simp [good] at h
  | c :: l, i, h => by
    have h' := h
    rw [good_cons] at h'
    split at h'
    · rename_i hc
      cases i with
      | zero => simpa using hc
      | succ i => simpa using good_yes al l i (by omega)
    · omega
theorem good_no (al : List UInt8) : ∀ (l : List UInt8) (h : good al l < l.length), ix al (l[good al l]) < 0
  | [], h => by simp at h
  | c :: l, h => by
    by_cases hc : 0 ≤ ix al c
    · have e : good al (c :: l) = good al l + 1 := by rw [good_cons, if_pos hc]
      simp only [e]
      simpa using good_no al l (by rw [e] at h; simpa using h)
    · have e : good al (c :: l) = 0 := by rw [good_cons, if_neg hc]
      simp only [e]
      simpa using hc
def odd (al l : List UInt8) : Int := if good al l < l.length then (good al l : Int) else -1

theorem bget (s : ByteArray) (k : Nat) (h : k < s.size) : s[k] = s.data.toList[k]'(by simpa using h) := by
  rw [Array.getElem_toList]; rfl

theorem ixb (s : ByteArray) (c : UInt8) (w : World) : Calls Try.prog 63 #[.string s, u8c c] w fun e w' => e = .returned (.int .i64 (ix s.data.toList c)) ∧ w = w' := by
  refine (Try.strings_IndexByte s (c.toNat : Int) w).mono ?_
  rintro e w' ⟨rfl, rfl⟩
  exact ⟨by simp [ix], rfl⟩

theorem place_calls (al : ByteArray) (c : UInt8) (w : World) (hm : al.size ≤ 9223372036854775807) : Calls Try.prog 64 #[.string al, u8c c] w fun e w' => e = .returned (.int .i64 (ix al.data.toList c)) ∧ w = w' := by
  obtain ⟨l, hl⟩ : ∃ l, l = al.data.toList := ⟨_, rfl⟩
  have hs : l.length = al.size := by rw [hl]; rfl
  rw [← hl]
  obtain ⟨r, hr⟩ : ∃ r, r = ix l c := ⟨_, rfl⟩
  rw [← hr]
  have HR := Lib.hid hr
  have HL := Lib.hid hl
  clear hr hl
  go_enter Try.func64, Try.ntmps64
  go_wp2_with fail
  go_loop [5] (fun i => ∃ k : Nat, k ≤ l.length ∧ i = .int .i64 (k : Int) ∧ Hid (∀ j (h : j < k) (h' : j < l.length), l[j] ≠ c)) (fun i => l.length - (intOf i).toNat)
  case atStart => exact ⟨0, Nat.zero_le _, rfl, Lib.hid fun j h => absurd h (Nat.not_lt_zero j)⟩
  case round =>
    obtain ⟨k, hk, rfl, HI⟩ := hrel
    by_cases hlt : k < l.length
    · have d1 : decide ((k : Int) < (al.size : Int)) = true := decide_eq_true (by omega)
      have hk2 : k < al.size := by omega
      have hg : al[k] = l[k] := by
        have e := HL.out
        subst e
        exact bget al k hk2
      by_cases he : l[k] = c
      · have d2 : ((al[k].toNat : Int) == (c.toNat : Int)) = true := by rw [hg, he]; simp
        have hfin : r = (k : Int) := by rw [HR.out]; exact ix_first l c k hlt he (fun j h => HI.out j h (by omega))
        have HF := Lib.hid hfin
        clear he hg hfin HR
        go_wp2
        go_ret
        exact ⟨by rw [HF.out]; rfl, rfl⟩
      · have hne : ¬ ((al[k].toNat : Int) = (c.toNat : Int)) := by
          rw [hg]
          intro h
          exact he (UInt8.toNat_inj.1 (by omega))
        have d2 : ((al[k].toNat : Int) == (c.toNat : Int)) = false := by simpa using hne
        have HE := Lib.hid he
        clear hg hne he
        go_wp2
        go_round
        case rel =>
          refine ⟨k + 1, by omega, by go_num, Lib.hid fun j h h' => ?_⟩
          rcases Nat.lt_or_ge j k with hj | hj
          · exact HI.out j hj h'
          · have : j = k := by omega
            subst this
            exact HE.out
        case measure => simp [intOf]; omega
    · have hkl : k = l.length := by omega
      have d1 : decide ((k : Int) < (al.size : Int)) = false := decide_eq_false (by omega)
      have hfin : r = -1 := by rw [HR.out]; exact ix_none l c (fun j h => HI.out j (by omega) h)
      have HF := Lib.hid hfin
      clear hkl hfin HR
      go_wp2
      go_ret
      exact ⟨by rw [HF.out]; rfl, rfl⟩

theorem odd1_calls (g : Nat) (al : ByteArray) (c : UInt8) (w : World) (hc : w.cell? ⟨g, 0, none⟩ = some (.string al)) :
    Calls Try.prog 72 #[u8c c, .pointer (some ⟨g, 0, none⟩)] w fun e w' => e = .returned (.bool (decide (ix al.data.toList c < 0))) ∧ w = w' := by
  go_enter Try.func72, Try.ntmps72
  go_wp2_with (go_at_call 63; refine (ixb al c w).mono ?_; rintro e w' ⟨rfl, rfl⟩)
  go_ret
  exact ⟨rfl, rfl⟩

theorem ixf_calls (g : Nat) (al : ByteArray) (v : Value) (l : List UInt8) (w : World) (hv : Rd w v l) (hc : w.cell? ⟨g, 0, none⟩ = some (.string al)) :
    Calls Try.prog 71 #[v, .func (.func 72) #[] #[.pointer (some ⟨g, 0, none⟩)]] w fun e w' => e = .returned (.int .i64 (odd al.data.toList l)) ∧ w = w' := by
  have hsm := hv.small
  obtain ⟨r, hr⟩ : ∃ r, r = odd al.data.toList l := ⟨_, rfl⟩
  obtain ⟨q, hq⟩ : ∃ q, q = good al.data.toList l := ⟨_, rfl⟩
  have hqle := good_le al.data.toList l
  have hyes := good_yes al.data.toList l
  have hno := good_no al.data.toList l
  unfold odd at hr
  rw [← hq] at hqle hr
  rw [show odd al.data.toList l = r from by unfold odd; rw [← hq, hr]]
  have HQ := Lib.hid hq
  have HR := Lib.hid hr
  have HY := Lib.hid hyes
  have HN := Lib.hid hno
  clear hq hr hyes hno
  have hoc := fun c w hc => odd1_calls g al c w hc
  obtain ⟨neg, hneg⟩ : ∃ neg : UInt8 → Bool, ∀ c, decide (ix al.data.toList c < 0) = neg c := ⟨_, fun _ => rfl⟩
  simp only [hneg] at hoc
  have HNEG := Lib.hid hneg
  have HO := Lib.hid hoc
  clear hneg hoc
  go_enter Try.func71, Try.ntmps71
  go_wp2_with ((with_reducible refine gate_dst (N := 7) rfl ?_); go_loud (refine wp_lenB rfl _ rfl hv rfl ?_))
  go_loop [8] (fun i => ∃ k : Nat, k ≤ q ∧ i = .int .i64 (k : Int)) (fun i => l.length - (intOf i).toNat)
  case atStart => exact ⟨0, Nat.zero_le _, rfl⟩
  case round =>
    obtain ⟨k, hk, rfl⟩ := hrel
    by_cases hlt : k < l.length
    · have d1 : decide ((k : Int) < (l.length : Int)) = true := decide_eq_true (by omega)
      by_cases hkq : k < q
      · have d2 : neg l[k] = false := by
          rw [← HNEG.out]
          exact decide_eq_false (by have := HY.out k (by rw [← HQ.out]; exact hkq); omega)
        have D2 := Lib.hid d2
        clear d2
        go_wp2_with (first | ((with_reducible refine gate_dst (N := 14) rfl ?_); go_loud (refine wp_getB rfl (fun _ => rfl) _ _ 14 rfl rfl rfl hv rfl rfl (fun _ => rfl) (k) (by rfl) (by exact hlt) ?_); intro _) | (go_at_call 72; go_loud (refine (HO.out l[k] w hc).mono ?_); rintro e w' ⟨rfl, rfl⟩; rw [D2.out]))
        go_round
        case rel => exact ⟨k + 1, by omega, by go_num⟩
        case measure => simp [intOf]; omega
      · have hke : k = q := by omega
        have d2 : neg l[k] = true := by
          rw [← HNEG.out]
          have e : k = good al.data.toList l := by rw [hke]; exact HQ.out
          subst e
          exact decide_eq_true (HN.out hlt)
        have hfin : r = (k : Int) := by rw [HR.out, if_pos (by omega), hke]
        have HF := Lib.hid hfin
        have D2 := Lib.hid d2
        clear d2 hke hfin
        go_wp2_with (first | ((with_reducible refine gate_dst (N := 14) rfl ?_); go_loud (refine wp_getB rfl (fun _ => rfl) _ _ 14 rfl rfl rfl hv rfl rfl (fun _ => rfl) (k) (by rfl) (by exact hlt) ?_); intro _) | (go_at_call 72; go_loud (refine (HO.out l[k] w hc).mono ?_); rintro e w' ⟨rfl, rfl⟩; rw [D2.out]))
        go_ret
        exact ⟨by rw [HF.out]; rfl, rfl⟩
    · have d1 : decide ((k : Int) < (l.length : Int)) = false := decide_eq_false (by omega)
      have hfin : r = -1 := by rw [HR.out, if_neg (by omega)]
      have HF := Lib.hid hfin
      clear hfin
      go_wp2
      go_ret
      exact ⟨by rw [HF.out]; rfl, rfl⟩

section
variable {ops : Array Oper} {Q : Exit → Act → World → Prop} {rest : List Oper} {o : Oper} {a : Act} {w : World}
/-- A text's bytes, in memory of their own. -/
theorem wp_ofStr (hg : Region.wanted o (yielded ops a.tmps) = true) (x : Operand) (ho : o.op = .convert 9 52 x) {s : ByteArray} (hx : a.eval x = .string s) (hm : s.size ≤ maxLen)
    (h : ∀ v w', Rd w' v s.data.toList → Below w.heap.size w w' → w.heap.size < w'.heap.size → wpList Try.prog ops Q rest (a.put o.dst v) w') : wpList Try.prog ops Q (o :: rest) a w := by
  refine wp_run hg (v := .slice (some ⟨w.heap.size, 0, none⟩) s.size (grownCap w s.size 0 5)) (w' := Lib.bytesWorld w 5 s) ?_ ?_
  · unfold execOp
    simp [ho, hx, Lib.run_convert_string_bytes w 9 52 5 s Try.underlying9 Try.underlying52 Try.underlying5, Result.andThen]
  · refine h _ _ ?_ ⟨rfl, rfl, rfl, by rw [Lib.bytesWorld_size]; omega, fun k hk => Lib.bytesWorld_at_old w _ s k hk⟩ (by rw [Lib.bytesWorld_size]; omega)
    have hl : s.data.toList.length = s.size := rfl
    refine ⟨_, _, by rw [hl], grownCap_ge _ _ _ _, grownCap_le_maxLen _ _ _ _ hm, (fun h => by cases h), ?_⟩
    rintro ad had j u hu
    cases had
    have hj : j < s.data.toList.length := by
      rcases Nat.lt_or_ge j s.data.toList.length with h1 | h1
      · exact h1
      · rw [List.getElem?_eq_none (by rw [bcs_length]; exact h1)] at hu; cases hu
    have := Lib.bytesWorld_cell w 5 s j hj
    rw [bcs_at _ j hj] at hu
    injection hu with hu
    subst hu
    have ea : (⟨w.heap.size, 0, none⟩ : Addr).add j = ⟨w.heap.size, j, none⟩ := by cases j <;> simp [Addr.add]
    have eg : s.data.toList.getD j 0 = s.data.toList[j] := by rw [List.getD, List.getElem?_eq_getElem hj]; rfl
    rw [ea, this, eg]
end

theorem odd_calls (s al : ByteArray) (w : World) (hs : s.size ≤ maxLen) :
    Calls Try.prog 62 #[.string s, .string al] w fun e w' => e = .returned (.int .i64 (odd al.data.toList s.data.toList)) ∧ Below w.heap.size w w' := by
  go_enter Try.func62, Try.ntmps62
  go_wp2_with (first | (((with_reducible refine gate_dst (N := 3) rfl ?_); go_loud (refine wp_box rfl _ _ rfl (v := .string al) rfl ?_); intro w1 hk1 hb1 hz1); have hc1 : w1.cell? ⟨w.heap.size, 0, none⟩ = some (.string al) := hk1.cell 0) | ((with_reducible refine gate_dst (N := 6) rfl ?_); go_loud (refine wp_ofStr rfl _ rfl rfl hs ?_); intro v2 w2 hr2 hb2 hz2; have hc2 := (hb2.cell (p := ⟨w.heap.size, 0, none⟩) hz1).trans hc1) | (go_at_call 71; go_loud (refine (ixf_calls w.heap.size al v2 s.data.toList w2 hr2 hc2).mono ?_); rintro e w' ⟨rfl, rfl⟩))
  go_ret
  exact ⟨rfl, hb1.trans (hb2.mono hb1.size)⟩
end Go.Proofs.Ytmiffljcggfcgaa.Hex
