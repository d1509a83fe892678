/- The walk of the reference's Need: its contract. -/
import Derived.Test.YtmiffljcggfcgaaNeedW
namespace Go.Proofs.Ytmiffljcggfcgaa.Til
open Go Go.RowKit Go.Proofs.Ytmiffljcggfcgaa.Cop
set_option linter.unusedVariables false
set_option linter.unusedSimpArgs false
theorem rof_calls (h : Int) (n : Int × Int) : (ofN h n = none ∧ ∀ w, Calls Try.prog 15 #[.int .i64 h, .agg #[.int .i64 n.1, .int .i64 n.2]] w fun e w' => e = .returned (.tuple #[.agg #[.int .i64 0, .int .i64 0, .int .i64 0, .int .i64 0], .int .i64 0, .int .i64 0, .int .i64 2]) ∧ Below w.heap.size w w') ∨
    ∃ a b c x y, ofN h n = some (a, b, c) ∧ ∀ w, Calls Try.prog 15 #[.int .i64 h, .agg #[.int .i64 n.1, .int .i64 n.2]] w fun e w' => e = .returned (.tuple #[.agg #[.int .i64 h, .int .i64 a, .int .i64 b, .int .i64 c], .int .i64 x, .int .i64 y, .int .i64 0]) ∧ Below w.heap.size w w' := by
  have he := (PTileOf.of_same 0 h n.1 n.2).1
  rcases of_two h n with ⟨h1, h2⟩ | ⟨a, b, c, x, y, h1, h2⟩
  · exact .inl ⟨h1, fun w => PTileOf.coppiceref10_Of.calls 1 _ _ _ _ _ _ _ _ _ _ w (he.trans h2)⟩
  · exact .inr ⟨a, b, c, x, y, h1, fun w => PTileOf.coppiceref10_Of.calls 1 _ _ _ _ _ _ _ _ _ _ w (he.trans h2)⟩
theorem rneed_bad (h : Int) (v : Value) (w : World) (hh : ht h = false) : Calls Try.prog 18 #[.int .i64 h, v] w fun e w' => e = .returned (.tuple #[.slice none 0 0, .int .i64 2]) ∧ Below w.heap.size w w' := by
  have HH := Lib.hid hh
  clear hh
  go_enter Try.func18, Try.ntmps18
  go_wp2_with fail
  refine (rheight_calls h w).mono ?_
  rintro e w' ⟨rfl, rfl⟩
  rw [HH.out]
  go_wp2
  go_ret2
  exact ⟨rfl, Below.refl _ _⟩
/-- The tile's variable is laid: what was there is as it was. -/
theorem rstep4 {B : Nat} {w w0 w2 w3 w4 : World} {h : Int} {u : Value} {s : List Tl} (hbel : Below B w w0) (hBs : B ≤ w0.heap.size) (hown : OwnS B w0 h u s)
    (hb2 : Below w0.heap.size w0 w2) (hb3 : Below w2.heap.size w2 w3) (hz : w2.heap.size < w3.heap.size) (hg4 : w3.grownBy w4 (some w2.heap.size)) :
    OwnS B w4 h u s ∧ Below B w w4 ∧ B ≤ w2.heap.size ∧ w2.heap.size < w4.heap.size ∧ ∀ g, u.ownBlock = some g → g ≠ w2.heap.size := by
  have s2 := hb2.size
  have s4 := hg4.size
  have hown2 : OwnS B w2 h u s := own_below hown hb2
  have hown3 : OwnS B w3 h u s := own_below hown2 hb3
  have hne : ∀ g, u.ownBlock = some g → g ≠ w2.heap.size := fun g hv e => by
    have := (World.ownsRow.lt hown2 g hv).2
    omega
  refine ⟨World.ownsRow.kept hown3 hg4 ?_, ?_, by omega, by omega, hne⟩
  · cases hv : u.ownBlock with
    | none => exact .inl rfl
    | some g =>
      right
      intro e
      injection e with e
      exact hne g hv e
  · have b2 : Below B w w2 := hbel.trans (hb2.mono (by omega))
    have b3 : Below B w w3 := b2.trans (hb3.mono (by omega))
    exact b3.grown hg4 (by omega) (fun r e => by injection e with e; omega)
theorem set_same {s : List Tl} {k : Nat} {t : Tl} (h : s[k]? = some t) : s.set k t = s := by
  obtain ⟨hk, rfl⟩ := List.getElem?_eq_some_iff.1 h
  exact List.set_getElem_self hk
def RRel (B : Nat) (h : Int) (L : List (Int × Int)) (w : World) (k : Nat) (s : List Tl) (v : Value) (wr : World) : Prop :=
  OwnS B wr h v s ∧ Hid (needs h L [] = needs h (L.drop k) s) ∧ s.length ≤ k ∧ Below B w wr ∧ B ≤ wr.heap.size
theorem bdrew {B : Nat} {w W : World} (h : Below B w W) (n : Nat) : Below B w (W.drewN n) := ⟨h.1, h.2, h.3, h.4, h.5⟩
theorem rstep7 {B k kk g cap : Nat} {h a b c0 c' : Int} {L : List (Int × Int)} {s : List Tl} {w w4 : World} (hc : s[kk]? = some (a, b, c0))
    (hown : OwnS B w4 h (.slice (some ⟨g, 0, none⟩) s.length cap) s) (hbel : Below B w w4) (hN : needs h L [] = needs h (L.drop (k + 1)) (s.set kk (a, b, c'))) (hsk : s.length ≤ k) (hgB : B ≤ g) (n : Nat) :
    RRel B h L w (k + 1) (s.set kk (a, b, c')) (.slice (some ⟨g, 0, none⟩) s.length cap) ((w4.drewN n).setCell ⟨g, kk * 4 + 3, none⟩ (.int .i64 c')) := by
  have hlt : g < w4.heap.size := (World.ownsRow.lt hown g rfl).2
  obtain ⟨h1, h2⟩ := World.ownsRow.stored (w := w4.drewN n) hown (kk * 4 + 3) (.int .i64 c')
  refine ⟨?_, Lib.hid hN, by simp; omega, (bdrew hbel n).grown h2 (by show B ≤ w4.heap.size; omega) (fun r e => by injection e with e; omega), by have := h2.size; have e : (w4.drewN n).heap.size = w4.heap.size := rfl; omega⟩
  unfold OwnS
  rw [List.length_set, tcl_set h s kk a b c0 c' hc]
  exact h1
theorem rstep6 {B n k : Nat} {w w5 w6 : World} {h a b c : Int} {u v' : Value} {s : List Tl} {L : List (Int × Int)} {o' : Obj} (hown5 : OwnS B w5 h u s) (hbel5 : Below B w w5)
    (hown6 : w6.ownsRow B 25 4 v' (s.length + 1) (s.flatMap (tcl h) ++ [.int .i64 h, .int .i64 a, .int .i64 b, .int .i64 c])) (hgrow6 : ((w5.drewN n).alloc o').grownBy w6 u.ownBlock)
    (HN : Hid (needs h L [] = needs h (L.drop (k + 1)) (s ++ [(a, b, c)]))) (hsk : s.length ≤ k) (hB : B ≤ w5.heap.size) :
    RRel B h L w (k + 1) (s ++ [(a, b, c)]) v' w6 := by
  have hs := hgrow6.size
  simp at hs
  have e : (w5.drewN n).heap.size = w5.heap.size := rfl
  refine ⟨?_, HN, by simp; omega, ?_, by omega⟩
  · unfold OwnS
    rw [List.length_append, List.flatMap_append]
    exact hown6
  · exact ((bdrew hbel5 n).alloc (by omega) o').grown hgrow6 (by simp; omega) (fun r e => (World.ownsRow.lt hown5 r e).1)
/-- Within the search. -/
def SRel (B G : Nat) (h : Int) (s : List Tl) (a b c : Int) (w : World) (u : Value) (j : Nat) (wr : World) : Prop :=
  Hid (sfind a b s = (sfind a b (s.drop j)).map (· + j)) ∧ j ≤ s.length ∧ OwnS B wr h u s ∧ Blk wr G 25 [.int .i64 h, .int .i64 a, .int .i64 b, .int .i64 c] ∧ Below B w wr ∧ B ≤ G
set_option maxHeartbeats 8000000 in
set_option maxRecDepth 100000 in
theorem rneed_yes (h : Int) (v : Value) (L : List (Int × Int)) (w : World) (hh : ht h = true) (hr : Row w v L.length (L.flatMap ncl)) (hL : L.length ≤ 1048576) :
    Calls Try.prog 18 #[.int .i64 h, v] w (NeedRet h L w) := by
  have HH := Lib.hid hh
  clear hh
  obtain ⟨B, hB⟩ : ∃ B, w.heap.size = B := ⟨_, rfl⟩
  have HB := Lib.hid hB
  have hlen := hr.small
  obtain ⟨va, vc, rfl, hro⟩ := Row.open hr
  clear hB hr
  go_enter Try.func18, Try.ntmps18
  go_wp2_with fail
  refine (rheight_calls h w).mono ?_
  rintro e w' ⟨rfl, rfl⟩
  rw [HH.out]
  go_wp2_with fail
  go_loopw [6, 7] (fun u i wr => ∃ (k : Nat) (s : List Tl), k ≤ L.length ∧ i = .int .i64 (k : Int) ∧ RRel B h L w k s u wr) (fun _ i _ => L.length - (intOf i).toNat)
  case atStart =>
    exact ⟨0, [], Nat.zero_le _, rfl, OwnS.nil _ _ _, Lib.hid rfl, Nat.zero_le _, Below.refl _ _, by rw [HB.out]; exact Nat.le_refl _⟩
  case round =>
    obtain ⟨k, s, hk, rfl, hown, HND, hsk, hbel, hBs⟩ := hrel
    obtain ⟨w0, hw0⟩ : ∃ w0 : World, w0 = wr := ⟨_, rfl⟩
    subst hw0
    have hrow : Row w0 (.slice va L.length vc) L.length (L.flatMap ncl) := hro.below (by rw [HB.out]; exact hbel)
    by_cases hlt : k < L.length
    · have d1 : decide ((k : Int) < (L.length : Int)) = true := decide_eq_true (by omega)
      have hne := ncl_at L k hlt
      have hdr := List.drop_eq_getElem_cons hlt
      obtain ⟨⟨n1, n2⟩, hn⟩ : ∃ n, L[k] = n := ⟨_, rfl⟩
      rw [hn] at hne hdr
      have hnd := HND.out
      rw [hdr] at hnd
      have HNE := Lib.hid hne
      rcases rof_calls h (n1, n2) with ⟨ho, hc⟩ | ⟨a, b, c, x, y, ho, hc⟩
      · rw [needs, ho] at hnd
        have HN := Lib.hid hnd
        have HC := Lib.hid hc
        clear hne hdr hn hnd ho hc
        go_wp2_with (first | ((with_reducible refine gate_dst (N := 18) rfl ?_); go_loud (refine wp_len rfl _ 33 23 rfl Try.underlying33 rfl hrow ?_)) | ((with_reducible refine gate_dst (N := 26) rfl ?_); go_loud (refine wp_index_load_agg rfl (fun _ => rfl) 33 23 _ _ 26 rfl rfl rfl Try.underlying33 sizeNd (by decide) aggNd rfl rfl hrow (ncl_len L) (fun _ => rfl) (us := [.int .i64 n1, .int .i64 n2]) (by omega) (by omega) HNE.out ?_); intro _) | (go_at_call 15; go_loud (refine (HC.out _).mono ?_); rintro e w2 ⟨rfl, hb2⟩))
        go_ret2
        refine ⟨?_, ?_⟩
        · rw [HB.out]
          exact (hbel.trans (hb2.mono (by omega))).alloc (by have := hb2.size; omega) _
        · rw [HN.out]
          rfl
      · rw [needs, ho] at hnd
        have HN := Lib.hid hnd
        have HC := Lib.hid hc
        clear hne hdr hn hnd ho hc
        go_wp2_with (first | ((with_reducible refine gate_dst (N := 18) rfl ?_); go_loud (refine wp_len rfl _ 33 23 rfl Try.underlying33 rfl hrow ?_)) | ((with_reducible refine gate_dst (N := 26) rfl ?_); go_loud (refine wp_index_load_agg rfl (fun _ => rfl) 33 23 _ _ 26 rfl rfl rfl Try.underlying33 sizeNd (by decide) aggNd rfl rfl hrow (ncl_len L) (fun _ => rfl) (us := [.int .i64 n1, .int .i64 n2]) (by omega) (by omega) HNE.out ?_); intro _) | (go_at_call 15; go_loud (refine (HC.out _).mono ?_); rintro e w2 ⟨rfl, hb2⟩) | ((with_reducible refine gate_dst (N := 8) rfl ?_); go_loud (refine wp_alloc rfl _ rfl zeroS ?_); intro w3 hk3 hb3 hz3) | (((with_reducible refine gate_store (t := 25) (p := 8) rfl ?_); go_loud (refine wp_store_blk rfl 25 _ _ rfl rfl sizeS rfl hk3 (rfl) (v := .agg #[.int .i64 h, .int .i64 a, .int .i64 b, .int .i64 c]) rfl (rfl) ((four_one h a b c)) ?_); intro w4 hk4 hg4); obtain ⟨hown4, hbel4, hB2, hz4, hne4⟩ := rstep4 hbel hBs hown hb2 hb3 hz3 hg4))
        obtain ⟨G, hG⟩ : ∃ G, w2.heap.size = G := ⟨_, rfl⟩
        simp only [hG] at hk4 hB2 hz4 hne4 ⊢
        clear hG
        go_loopw [12] (fun i wr => ∃ j : Nat, i = .int .i64 (j : Int) ∧ SRel B G h s a b c w u6 j wr) (fun i _ => s.length - (intOf i).toNat)
        case atStart => exact ⟨0, rfl, Lib.hid (sfind_zero s).symm, Nat.zero_le _, hown4, hk4, hbel4, hB2⟩
        case round =>
          obtain ⟨j, rfl, HS, hj, hownj, hkj, hbelj, hBG⟩ := hrel
          by_cases hjl : j < s.length
          · obtain ⟨⟨x', y', c0⟩, hs⟩ : ∃ q, s[j]? = some q := ⟨_, List.getElem?_eq_getElem hjl⟩
            obtain ⟨g, cap, rfl, hgB, hgw, hcl, hfr⟩ := OwnS.at hownj hs
            have cl1 := hcl 1 _ (by omega) rfl
            have cl2 := hcl 2 _ (by omega) rfl
            have cl3 := hcl 3 _ (by omega) rfl
            have cf3 := hfr (j * 4 + 3)
            have cB := hkj.cell 1
            have cC := hkj.cell 2
            have cD := hkj.cell 3
            simp only [List.getElem?_cons_zero, List.getElem?_cons_succ] at cB cC cD
            have d2 : decide ((j : Int) < (s.length : Int)) = true := decide_eq_true (by omega)
            have d3 : ((j : Int) == (s.length : Int)) = false := by simp; omega
            have i1 : (j : Int) < (s.length : Int) := by omega
            have hgG : g ≠ G := fun e => by
              have := (World.ownsRow.lt hown4 g rfl).2
              exact hne4 g rfl e
            have HHS := Lib.hid hs
            clear hcl hfr hs
            by_cases hx : x' = a
            · have d4 : (x' != a) = false := by simp [hx]
              by_cases hy : y' = b
              · have d5 : (y' != b) = false := by simp [hy]
                have hfnd : sfind a b s = some j := by rw [HS.out]; exact sfind_here HHS.out (by simp [hx, hy])
                have hsj : s[j]? = some (a, b, c0) := by rw [HHS.out, hx, hy]
                have HF := Lib.hid hfnd
                have HSJ := Lib.hid hsj
                clear hfnd hsj hx hy HHS
                by_cases hmx : c0 < c
                · have d6 : decide (c0 < c) = true := decide_eq_true hmx
                  go_wp2_with fail
                  go_quiet (fail)
                  go_wp2_with fail
                  go_quiet (fail)
                  go_wp2_with fail
                  go_roundw
                  case rel => exact ⟨k + 1, s.set j (a, b, c), by omega, by first | rfl | go_num, rstep7 HSJ.out hownj hbelj (by rw [HN.out, upd_at HF.out HSJ.out, Int.max_eq_right (by omega)]) hsk hgB _⟩
                  case measure => simp [intOf]; omega
                · have d6 : decide (c0 < c) = false := decide_eq_false hmx
                  have hn2 : needs h L [] = needs h (L.drop (k + 1)) s := by rw [HN.out, upd_at HF.out HSJ.out, Int.max_eq_left (by omega), set_same HSJ.out]
                  have HN2 := Lib.hid hn2
                  clear hn2
                  go_wp2_with fail
                  go_quiet (fail)
                  go_wp2_with fail
                  go_quiet (fail)
                  go_wp2_with fail
                  go_roundw
                  case rel => exact ⟨k + 1, s, by omega, by first | rfl | go_num, hownj, HN2, by omega, bdrew hbelj _, by have := hkj.lt; show B ≤ wr.heap.size; omega⟩
                  case measure => simp [intOf]; omega
              · have d5 : (y' != b) = true := by simp [hy]
                have hst : sfind a b s = (sfind a b (s.drop (j + 1))).map (· + (j + 1)) := by rw [HS.out]; exact sfind_step HHS.out (by simp [Ne.symm hy])
                have HST := Lib.hid hst
                clear hst hx hy
                go_wp2_with fail
                go_quiet (fail)
                go_wp2_with fail
                go_roundw
                case rel => exact ⟨j + 1, by first | rfl | go_num, HST, by omega, hownj, hkj, bdrew hbelj _, hBG⟩
                case measure => simp [intOf]; omega
            · have d4 : (x' != a) = true := by simp [hx]
              have hst : sfind a b s = (sfind a b (s.drop (j + 1))).map (· + (j + 1)) := by rw [HS.out]; exact sfind_step HHS.out (by simp [Ne.symm hx])
              have HST := Lib.hid hst
              clear hst hx
              go_wp2_with fail
              go_quiet (fail)
              go_wp2_with fail
              go_roundw
              case rel => exact ⟨j + 1, by first | rfl | go_num, HST, by omega, hownj, hkj, bdrew hbelj _, hBG⟩
              case measure => simp [intOf]; omega
          · have hjs : j = s.length := by omega
            have hno : sfind a b s = none := by rw [HS.out, hjs]; exact sfind_end s
            have d2 : decide ((j : Int) < (s.length : Int)) = false := decide_eq_false (by omega)
            have d3 : ((j : Int) == (s.length : Int)) = true := by simp; omega
            have hn2 : needs h L [] = needs h (L.drop (k + 1)) (s ++ [(a, b, c)]) := by rw [HN.out]; unfold upd; rw [hno]
            have HN2 := Lib.hid hn2
            clear hn2 hno
            obtain ⟨va2, vc2, rfl, hro2⟩ := Row.open (Row.of_own hownj)
            go_wp2_with fail
            go_quiet (fail)
            go_wp2_with (first | ((with_reducible refine gate_dst (N := 66) rfl ?_); go_loud (refine wp_load_blk rfl 25 _ rfl aggS sizeS rfl hkj (rfl) ?_)) | ((with_reducible refine gate_dst (N := 68) rfl ?_); (refine wp_append rfl (.tmp 65) (.tmp 67) 34 25 rfl Try.underlying34 infoS rfl (by decide) (base := B) (n := s.length) (xs := s.flatMap (tcl h)) rfl (World.ownsRow.alloc hownj _) (m := 1) (cs := [.int .i64 h, .int .i64 a, .int .i64 b, .int .i64 c]) rfl (Row.lit _ [.int .i64 h, .int .i64 a, .int .i64 b, .int .i64 c] _ 1 (by unfold maxLen; omega)) rfl (by intro u hu; simp only [List.mem_cons, List.not_mem_nil, or_false] at hu; rcases hu with rfl | rfl | rfl | rfl <;> rfl) (by unfold maxLen; omega) (by omega) (by have := hkj.lt; simp; omega) ?_); intro v' w6 hown6 hgrow6))
            have h6 := rstep6 (c := c) hownj hbelj hown6 (by exact hgrow6) HN2 hsk (by have := hkj.lt; omega)
            go_roundw
            case rel => exact ⟨k + 1, _, by omega, by first | rfl | go_num, h6⟩
            case measure => simp [intOf]; omega
    · have hke : k = L.length := by omega
      have hnd := HND.out
      rw [hke, List.drop_length, needs] at hnd
      have HN := Lib.hid hnd
      clear hnd hke
      have d1 : decide ((k : Int) < (L.length : Int)) = false := decide_eq_false (by omega)
      go_wp2_with ((with_reducible refine gate_dst (N := 18) rfl ?_); go_loud (refine wp_len rfl _ 33 23 rfl Try.underlying33 rfl hrow ?_))
      go_ret2
      refine ⟨by rw [HB.out]; exact hbel, ?_⟩
      rw [HN.out]
      exact ⟨_, rfl, by rw [HB.out]; exact hown⟩
end Go.Proofs.Ytmiffljcggfcgaa.Til
