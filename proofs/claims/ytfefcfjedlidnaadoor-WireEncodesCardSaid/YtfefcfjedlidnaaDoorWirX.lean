/- The reference's Text of a proof. -/
import Derived.Test.YtfefcfjedlidnaaDoorWirR
import Derived.Test.YtfefcfjedlidnaaDoorIto
import Derived.Test.YtfefcfjedlidnaaDoorB64C
namespace Go.Proofs.YtfefcfjedlidnaaDoor.Wir
open Go Go.RowKit Go.Proofs.YtfefcfjedlidnaaDoor.Cop Go.Proofs.YtfefcfjedlidnaaDoor.Ver Go.Proofs.YtfefcfjedlidnaaDoor.Oct Go.Proofs.YtfefcfjedlidnaaDoor.Dsl Go.Proofs.YtfefcfjedlidnaaDoor.Ito Go.Proofs.YtfefcfjedlidnaaDoor.B64
set_option linter.unusedVariables false
set_option linter.unusedSimpArgs false
def wordL (k : Nat) : List UInt8 := if k = 1 then [105, 110, 99, 108, 117, 115, 105, 111, 110] else [99, 111, 110, 115, 105, 115, 116, 101, 110, 99, 121]
theorem wordL_len (k : Nat) : (wordL k).length ≤ 11 := by unfold wordL; split <;> simp
def hdL (k f s : Nat) : List UInt8 := ((((wordL k ++ [32]) ++ Lib.decDigits f) ++ [32]) ++ Lib.decDigits s) ++ [10]
def txL (ds : List (List UInt8)) : List UInt8 := ds.flatMap fun d => b64 d ++ [10]
/-- A proof's text. -/
def txtB (k f s : Nat) (ds : List (List UInt8)) : List UInt8 := hdL k f s ++ txL ds
theorem hdL_len (k f s : Nat) (hf : f ≤ 9223372036854775807) (hs : s ≤ 9223372036854775807) : (hdL k f s).length ≤ 56 := by
  have h1 := wordL_len k
  have h2 := dig_len f hf
  have h3 := dig_len s hs
  simp [hdL]
  omega
theorem txL_len (ds : List (List UInt8)) (h : All32 ds) : (txL ds).length ≤ ds.length * 45 := by
  induction ds with
  | nil => exact Nat.le_refl _
  | cons d ds ih =>
    have h1 := h d (by simp)
    have h2 := b64_length d
    rw [h1] at h2
    have h3 := ih (fun x hx => h x (by simp [hx]))
    simp only [txL, List.flatMap_cons, List.length_append, List.length_cons, List.length_nil] at h3 ⊢
    omega
theorem txL_step (L : List UInt8) (ds : List (List UInt8)) (j : Nat) (h : j < ds.length) : (L ++ txL (ds.take j)) ++ (b64 ds[j] ++ [10]) = L ++ txL (ds.take (j + 1)) := by
  rw [List.take_succ_eq_append_getElem h, txL, txL, List.flatMap_append]
  simp
theorem word_calls (k : Nat) (hk : k = 1 ∨ k = 2) (w : World) : Calls Tryd.prog 97 #[.int .i64 (k : Int)] w fun e w' => e = .returned (.string (str (wordL k))) ∧ w = w' := by
  rcases hk with rfl | rfl
  · go_enter Tryd.func97, Tryd.ntmps97
    go_wp2
    go_ret
    exact ⟨rfl, rfl⟩
  · go_enter Tryd.func97, Tryd.ntmps97
    go_wp2
    go_ret
    exact ⟨rfl, rfl⟩
def frX (g : Nat) (L : List Value) (u : Nat → Value) : Array Value := #[.agg L.toArray, .pointer (some ⟨g, 0, none⟩), .string ⟨#[]⟩, .int .i64 0, u 4, undef, undef, .agg L.toArray, .bool true, .bool false, u 10, u 11, u 12, u 13, u 14, u 15, u 16, u 17, u 18, u 19, u 20, u 21, u 22, u 23, undef, undef, undef, undef, undef, undef, undef, undef, undef, undef, undef, undef, undef, undef, undef, undef, undef, undef]
def valX (g k f s : Nat) : Nat → Value
  | 0 => .pointer (some ⟨g, 0, none⟩)
  | 1 => .int .i64 (k : Int)
  | 2 => .string (str (wordL k))
  | 3 => .string (str (wordL k ++ [32]))
  | 4 => .pointer (some ⟨g, 1, none⟩)
  | 5 => .int .i64 (f : Int)
  | 6 => .string (str (Lib.decDigits f))
  | 7 => .string (str ((wordL k ++ [32]) ++ Lib.decDigits f))
  | 8 => .string (str (((wordL k ++ [32]) ++ Lib.decDigits f) ++ [32]))
  | 9 => .pointer (some ⟨g, 2, none⟩)
  | 10 => .int .i64 (s : Int)
  | 11 => .string (str (Lib.decDigits s))
  | 12 => .string (str ((((wordL k ++ [32]) ++ Lib.decDigits f) ++ [32]) ++ Lib.decDigits s))
  | _ => .string (str (hdL k f s))
theorem c15x {i : Nat} (h : i < 15) : i = 0 ∨ i = 1 ∨ i = 2 ∨ i = 3 ∨ i = 4 ∨ i = 5 ∨ i = 6 ∨ i = 7 ∨ i = 8 ∨ i = 9 ∨ i = 10 ∨ i = 11 ∨ i = 12 ∨ i = 13 ∨ i = 14 := by omega
set_option maxRecDepth 100000 in
set_option maxHeartbeats 2000000 in
theorem rtext_calls (k f s : Int) (vp : Value) (ds : List (List UInt8)) (w : World) (hp : Ds w vp ds) : Calls Tryd.prog 50 #[prV k f s vp] w fun e w' => e = .returned (if valB k f s ds.length then .tuple #[.string (str (txtB k.toNat f.toNat s.toNat ds)), .int .i64 0] else .tuple #[.string ⟨#[]⟩, .int .i64 2]) ∧ Below w.heap.size w w' := by
  obtain ⟨pa, pc, rfl⟩ := hp.open
  have hv := fun w => rvalid_calls k f s pa ds.length pc hp.small w
  cases hb : valB k f s ds.length with
  | false =>
    rw [hb] at hv
    have HV := Lib.hid hv
    clear hv hb hp
    simp only [Bool.false_eq_true, if_false]
    go_enter Tryd.func50, Tryd.ntmps50
    go_wp2_with (first | (((with_reducible refine gate_dst (N := 1) rfl ?_); go_loud (refine wp_box rfl _ _ rfl (v := prV k f s (.slice pa ds.length pc)) rfl ?_); intro w1 hk1 hb1 hz1); rw [pr_cells] at hk1) | (((with_reducible refine gate_dst (N := 7) rfl ?_); go_loud (refine wp_load_blk rfl 76 _ rfl aggPr sizePr rfl hk1 (rfl) ?_))) | (go_at_call 52; go_loud (refine (HV.out _).mono ?_); rintro e w2 ⟨rfl, hb2⟩))
    go_ret2
    exact ⟨rfl, hb1.trans (hb2.mono hb1.size)⟩
  | true =>
    rw [hb] at hv
    obtain ⟨v1, v2, v3, v4, v5, v6⟩ := valid_parts hb
    obtain ⟨f, rfl⟩ := Int.eq_ofNat_of_zero_le v2
    obtain ⟨s, rfl⟩ := Int.eq_ofNat_of_zero_le v4
    obtain ⟨k, rfl⟩ := Int.eq_ofNat_of_zero_le (show 0 ≤ k by omega)
    simp only [Int.toNat_natCast, if_true]
    have HV := Lib.hid hv
    have HP := Lib.hid hp
    obtain ⟨fin, hfin⟩ : ∃ l, txtB k f s ds = l := ⟨_, rfl⟩
    rw [hfin]
    have HFIN := Lib.hid hfin
    have hk12 : k = 1 ∨ k = 2 := by omega
    have hn50 : ds.length ≤ 50 := v6
    have hf48 : f ≤ 281474976710656 := by omega
    have hs48 : s ≤ 281474976710656 := by omega
    clear hv hb hp v1 v2 v3 v4 v5 v6 hfin
    go_enter Tryd.func50, Tryd.ntmps50
    go_wp2_with (first | (((with_reducible refine gate_dst (N := 1) rfl ?_); go_loud (refine wp_box rfl _ _ rfl (v := prV k f s (.slice pa ds.length pc)) rfl ?_); intro w1 hk1 hb1 hz1); rw [pr_cells] at hk1) | (((with_reducible refine gate_dst (N := 7) rfl ?_); go_loud (refine wp_load_blk rfl 76 _ rfl aggPr sizePr rfl hk1 (rfl) ?_))) | (go_at_call 52; go_loud (refine (HV.out _).mono ?_); rintro e w2 ⟨rfl, hb2⟩))
    have hk2 := hk1.below hb2
    have hb02 : Below w.heap.size w w2 := hb1.trans (hb2.mono hb1.size)
    have HK1 := Lib.hid hk1
    have hl1 := wordL_len k
    have hl2 := dig_len f (by omega)
    have hl3 := dig_len s (by omega)
    clear hk1
    refine wp_region_pure (frX w.heap.size (prL k f s (.slice pa ds.length pc))) (fun _ => undef) (valX w.heap.size k f s) (by kernel_rfl) (by kernel_rfl) (by kernel_rfl) ?_ ?_ ?_
    · intro i hi u v
      have h15 : i < 15 := hi
      rcases c15x h15 with rfl | rfl | rfl | rfl | rfl | rfl | rfl | rfl | rfl | rfl | rfl | rfl | rfl | rfl | rfl <;> rfl
    · intro i o ho u W hb hdep K hK
      have h15 : i < 15 := (Array.getElem?_eq_some_iff.1 ho).1
      have hkW : Blk W w.heap.size 76 (prL k f s (.slice pa ds.length pc)) := hk2.below hb
      have K0 := hK W (Below.refl _ _)
      rcases c15x h15 with rfl | rfl | rfl | rfl | rfl | rfl | rfl | rfl | rfl | rfl | rfl | rfl | rfl | rfl | rfl <;> obtain rfl := Option.some.inj ho
      · refine st_run rfl (v := valX w.heap.size k f s 0) (w' := W) ?_ K0
        unfold frX valX; go_simp
      · have hu : u 10 = .pointer (some ⟨w.heap.size, 0, none⟩) := hdep ⟨0, .data⟩ (by simp) rfl
        exact st_load1 (by rfl) 3 (.tmp 10) (by rfl) int_s2 int_s1 (by exact hu) (hkW.cell 0) K0
      · have hu : u 11 = .int .i64 (k : Int) := hdep ⟨1, .data⟩ (by simp) rfl
        have hc : Calls Tryd.prog 97 #[.int .i64 (k : Int)] W fun e w' => e = .returned (.string (str (wordL k))) ∧ W = w' := word_calls k hk12 W
        rw [← hu] at hc
        have HC := Lib.hid hc
        clear hc hu hdep K0 ho
        refine st_want (a := { tmps := frX w.heap.size (prL k f s (.slice pa ds.length pc)) u, defers := [] }) rfl ?_
        unfold frX
        go_simp
        refine HC.out.mono ?_
        rintro e w' ⟨rfl, rfl⟩
        exact hK _ (Below.refl _ _)
      · have hu : u 12 = valX w.heap.size k f s 2 := hdep ⟨2, .data⟩ (by simp) rfl
        exact st_addS (by rfl) 9 9 (.tmp 12) _ (by rfl) (by exact hu) (by rfl) (by rfl) (q := [32]) (by rfl) (by simp; omega) K0
      · refine st_run rfl (v := valX w.heap.size k f s 4) (w' := W) ?_ K0
        unfold frX valX; go_simp
      · have hu : u 14 = .pointer (some ⟨w.heap.size, 1, none⟩) := hdep ⟨4, .data⟩ (by simp) rfl
        exact st_load1 (by rfl) 3 (.tmp 14) (by rfl) int_s2 int_s1 (by exact hu) (hkW.cell 1) K0
      · have hu : u 15 = .int .i64 (f : Int) := hdep ⟨5, .data⟩ (by simp) rfl
        have hc : Calls Tryd.prog 76 #[.int .i64 (f : Int)] W fun e w' => e = .returned (.string (str (Lib.decDigits f))) ∧ W = w' := digits_calls f (by omega) W
        rw [← hu] at hc
        have HC := Lib.hid hc
        clear hc hu hdep K0 ho
        refine st_want (a := { tmps := frX w.heap.size (prL k f s (.slice pa ds.length pc)) u, defers := [] }) rfl ?_
        unfold frX
        go_simp
        refine HC.out.mono ?_
        rintro e w' ⟨rfl, rfl⟩
        exact hK _ (Below.refl _ _)
      · have hu : u 13 = valX w.heap.size k f s 3 := hdep ⟨3, .data⟩ (by simp) rfl
        have hu2 : u 16 = valX w.heap.size k f s 6 := hdep ⟨6, .data⟩ (by simp) rfl
        exact st_addS (by rfl) 9 9 (.tmp 13) (.tmp 16) (by rfl) (by exact hu) (by exact hu2) (by rfl) (q := _) (by rfl) (by simp; omega) K0
      · have hu : u 17 = valX w.heap.size k f s 7 := hdep ⟨7, .data⟩ (by simp) rfl
        exact st_addS (by rfl) 9 9 (.tmp 17) _ (by rfl) (by exact hu) (by rfl) (by rfl) (q := [32]) (by rfl) (by simp; omega) K0
      · refine st_run rfl (v := valX w.heap.size k f s 9) (w' := W) ?_ K0
        unfold frX valX; go_simp
      · have hu : u 19 = .pointer (some ⟨w.heap.size, 2, none⟩) := hdep ⟨9, .data⟩ (by simp) rfl
        exact st_load1 (by rfl) 3 (.tmp 19) (by rfl) int_s2 int_s1 (by exact hu) (hkW.cell 2) K0
      · have hu : u 20 = .int .i64 (s : Int) := hdep ⟨10, .data⟩ (by simp) rfl
        have hc : Calls Tryd.prog 76 #[.int .i64 (s : Int)] W fun e w' => e = .returned (.string (str (Lib.decDigits s))) ∧ W = w' := digits_calls s (by omega) W
        rw [← hu] at hc
        have HC := Lib.hid hc
        clear hc hu hdep K0 ho
        refine st_want (a := { tmps := frX w.heap.size (prL k f s (.slice pa ds.length pc)) u, defers := [] }) rfl ?_
        unfold frX
        go_simp
        refine HC.out.mono ?_
        rintro e w' ⟨rfl, rfl⟩
        exact hK _ (Below.refl _ _)
      · have hu : u 18 = valX w.heap.size k f s 8 := hdep ⟨8, .data⟩ (by simp) rfl
        have hu2 : u 21 = valX w.heap.size k f s 11 := hdep ⟨11, .data⟩ (by simp) rfl
        exact st_addS (by rfl) 9 9 (.tmp 18) (.tmp 21) (by rfl) (by exact hu) (by exact hu2) (by rfl) (q := _) (by rfl) (by simp; omega) K0
      · have hu : u 22 = valX w.heap.size k f s 12 := hdep ⟨12, .data⟩ (by simp) rfl
        exact st_addS (by rfl) 9 9 (.tmp 22) _ (by rfl) (by exact hu) (by rfl) (by rfl) (q := [10]) (by rfl) (by simp; omega) K0
      · have hu : u 23 = .string (str (hdL k f s)) := hdep ⟨13, .data⟩ (by simp) rfl
        refine st_run rfl (v := .string (str (hdL k f s))) (w' := W) ?_ K0
        clear hdep K0 hK ho
        unfold frX; go_simp
    · intro u W hb hV
      have e4 : u 4 = .string (str (hdL k f s)) := hV 14 (by decide)
      have hb1W : Below w1.heap.size w1 W := hb2.trans (hb.mono hb2.size)
      have hfin2 : hdL k f s ++ txL ds = fin := HFIN.out
      have hl4 : (hdL k f s).length ≤ 56 := hdL_len k f s (by omega) (by omega)
      obtain ⟨L, hL⟩ : ∃ l, hdL k f s = l := ⟨_, rfl⟩
      rw [hL] at e4 hfin2 hl4
      have HF2 := Lib.hid hfin2
      have HL4 := Lib.hid hl4
      have HPW := Lib.hid (show Ds W (.slice pa ds.length pc) ds from HP.out.below (hb1.trans (hb1W.mono hb1.size)))
      unfold frX
      rw [e4]
      clear hV hb hb02 hk2 hL hfin2 hl4 hl1 hl2 hl3 e4
      go_wp2_with fail
      go_loopw [4, 5, 6] (fun v x _ wr => ∃ j : Nat, x = .int .i64 (j : Int) ∧ j ≤ ds.length ∧ v = .string (str (L ++ txL (ds.take j))) ∧ Below w1.heap.size w1 wr ∧ Hid (Ds wr (.slice pa ds.length pc) ds)) (fun _ x _ _ => ds.length - (intOf x).toNat)
      case atStart => exact ⟨0, rfl, by omega, by simp [txL], hb1W, HPW⟩
      case round =>
        obtain ⟨j, rfl, hj, rfl, hb, HPr⟩ := hrel
        have hbr : Below w.heap.size w wr := hb1.trans (hb.mono hb1.size)
        have hzr := hb.size
        have c3 : wr.cell? ⟨w.heap.size, 3, none⟩ = some (.slice pa ds.length pc) := (HK1.out.below hb).cell 3
        by_cases hlt : j < ds.length
        · have h32 : (ds[j]).length = 32 := HPr.out.2 _ (List.getElem_mem hlt)
          have hst := txL_step L ds j hlt
          have htl := txL_len (ds.take j) (take32 HPr.out.2 j)
          rw [List.length_take, Nat.min_eq_left hj] at htl
          have hlen : (L ++ txL (ds.take j)).length ≤ 5000 := by have := HL4.out; rw [List.length_append]; omega
          obtain ⟨dj, hdj⟩ : ∃ d, ds[j] = d := ⟨_, rfl⟩
          rw [hdj] at h32 hst
          have h44 := b64_length dj
          rw [h32] at h44
          have HST := Lib.hid hst
          have H32 := Lib.hid h32
          have HDJ := Lib.hid hdj
          obtain ⟨acc, hacc⟩ : ∃ l, L ++ txL (ds.take j) = l := ⟨_, rfl⟩
          rw [hacc] at HST hlen
          try rw [hacc]
          clear hst h32 hdj hacc htl
          go_wp2_with (first | ((with_reducible refine gate_dst (N := 34) rfl ?_); go_loud (refine wp_getD rfl (fun _ => rfl) _ _ 34 rfl rfl rfl HPr.out j rfl rfl (fun _ => rfl) hlt ?_); intro p; rw [HDJ.out]) | (((with_reducible refine gate_dst (N := 6) rfl ?_); go_loud (refine wp_alloc rfl _ rfl zeroD ?_); intro w6 hk6 hb6 hz6)) | (((with_reducible refine gate_store (t := 28) (p := 6) rfl ?_); go_loud (refine wp_store_blk rfl 28 _ _ rfl rfl sizeD rfl hk6 (dz_cells) (v := dg dj) rfl (dg_size H32.out) (dg_one _) ?_); intro w7 hk7 hg7); go_loud (have hk7' : Blk w7 wr.heap.size 28 (bcs dj) := by simpa [Value.cells] using hk7); go_loud (have hrd7 : Rd w7 (.slice (some ⟨wr.heap.size, 0, none⟩) 32 32) dj := Rd.of_blk hk7' 32 H32.out (by unfold maxLen; omega)); go_loud (have hz7 := hg7.size); go_loud (have hz6' := hb6.size)) | (go_at_call 77; go_loud (refine (Go.Proofs.YtfefcfjedlidnaaDoor.B64.rb64_calls _ dj _ hrd7 (by rw [H32.out]; omega)).mono ?_); rintro e w8 ⟨rfl, hb8⟩) | (((with_reducible refine gate_dst (N := 39) rfl ?_); go_loud (refine wp_add_str rfl _ _ _ _ rfl (p := acc) (q := b64 dj) rfl rfl (rfl) (rfl) (by omega) ?_))) | (((with_reducible refine gate_dst (N := 40) rfl ?_); go_loud (refine wp_add_str rfl _ _ _ _ rfl (p := acc ++ b64 dj) (q := [10]) rfl rfl (rfl) (rfl) (by (simp; omega)) ?_))))
          have hb7 : Below w1.heap.size w1 w7 := (hb.trans (hb6.mono hb.size)).grown hg7 (by omega) (fun r e => by injection e with e; omega)
          have hb9 : Below w1.heap.size w1 w8 := hb7.trans (hb8.mono (by omega))
          have hp8 : Hid (Ds w8 (.slice pa ds.length pc) ds) := HP.out.below (hb1.trans (hb9.mono hb1.size))
          rw [HST.out]
          go_roundw
          case rel => exact ⟨j + 1, by go_num, by omega, rfl, hb9, hp8⟩
          case measure => simp [intOf]; omega
        · obtain rfl : j = ds.length := by omega
          rw [List.take_length, HF2.out]
          go_wp2_with fail
          go_ret2
          exact ⟨rfl, hbr⟩
end Go.Proofs.YtfefcfjedlidnaaDoor.Wir
