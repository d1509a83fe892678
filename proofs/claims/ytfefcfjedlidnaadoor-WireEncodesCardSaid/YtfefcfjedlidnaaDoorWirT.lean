/- wire.Text. -/
import Derived.Test.YtfefcfjedlidnaaDoorWirX
import Derived.Test.YtfefcfjedlidnaaDoorBldS
namespace Go.Proofs.YtfefcfjedlidnaaDoor.Wir
open Go Go.RowKit Go.Proofs.YtfefcfjedlidnaaDoor.Cop Go.Proofs.YtfefcfjedlidnaaDoor.Ver Go.Proofs.YtfefcfjedlidnaaDoor.Oct Go.Proofs.YtfefcfjedlidnaaDoor.Dsl Go.Proofs.YtfefcfjedlidnaaDoor.Ito Go.Proofs.YtfefcfjedlidnaaDoor.B64
set_option linter.unusedVariables false
set_option linter.unusedSimpArgs false
def kn (k : Nat) : List UInt8 := if k = 0 then [] else wordL k
/-- The package's variable of words lies as its text lays it. -/
def Kinds (w : World) : Prop := ∀ k, k < 3 → w.cell? ⟨0, k, none⟩ = some (.string (str (kn k)))
theorem cell_below {w w' : World} {g o : Nat} {x : Value} (h : w.cell? ⟨g, o, none⟩ = some x) {B : Nat} (hb : Below B w w') (hB : w.heap.size ≤ B) : w'.cell? ⟨g, o, none⟩ = some x := by
  have hlt : g < w.heap.size := by
    rcases Nat.lt_or_ge g w.heap.size with h' | h'
    · exact h'
    · simp [World.cell?, Array.getElem?_eq_none h'] at h
  unfold World.cell? at h ⊢
  rw [hb.block g (by omega)]
  exact h
theorem Kinds.below {w w' : World} (h : Kinds w) (hb : Below w.heap.size w w') : Kinds w' := fun k hk => cell_below (h k hk) hb (Nat.le_refl _)
theorem strS : (Tryd.prog.info? 9).map (fun i => i.size) = some 1 := by kernel_rfl
theorem strA (w : World) : (isAgg 9).run Tryd.prog w = .ok false w := by kernel_rfl
theorem zeroB (w : World) : (zeroValue 128).run Tryd.prog w = .ok (.agg #[.pointer none, .slice none 0 0]) w := by kernel_rfl
theorem isB_below {T e : TypeId} {B b : Nat} {bs : List Value} {w w' : World} (h : Lib.IsBuilder T e B b bs w) (hb : Below w.heap.size w w') : Lib.IsBuilder T e B b bs w' := by
  rcases h with h | h
  · have hlt := h.lt
    obtain ⟨hB, v, hk, ho, hn⟩ := h
    exact .inl ⟨hB, v, by rw [hb.block b hlt]; exact hk, own_below ho hb, hn⟩
  · have hlt := h.lt
    obtain ⟨hB, v, hk, ho, hn⟩ := h
    exact .inr ⟨hB, v, by rw [hb.block b hlt]; exact hk, own_below ho hb, hn⟩
def frT (g b : Nat) (L : List Value) (u : Nat → Value) : Array Value := #[.agg L.toArray, .pointer (some ⟨g, 0, none⟩), .string ⟨#[]⟩, .int .i64 0, .pointer (some ⟨b, 0, none⟩), undef, undef, .agg L.toArray, .bool true, .bool false, u 10, u 11, u 12, u 13, u 14, u 15, u 16, u 17, u 18, u 19, u 20, u 21, u 22, u 23, u 24, u 25, undef, undef, undef, undef, undef, undef, undef, undef, undef, undef, undef, undef, undef]
def valT (g k f s : Nat) : Nat → Value
  | 0 => .pointer (some ⟨g, 0, none⟩)
  | 1 => .int .i64 (k : Int)
  | 2 => .pointer (some ⟨0, k, none⟩)
  | 3 => .string (str (wordL k))
  | 4 => .string (str (wordL k ++ [32]))
  | 5 => .pointer (some ⟨g, 1, none⟩)
  | 6 => .int .i64 (f : Int)
  | 7 => .string (str (Lib.decDigits f))
  | 8 => .string (str ((wordL k ++ [32]) ++ Lib.decDigits f))
  | 9 => .string (str (((wordL k ++ [32]) ++ Lib.decDigits f) ++ [32]))
  | 10 => .pointer (some ⟨g, 2, none⟩)
  | 11 => .int .i64 (s : Int)
  | 12 => .string (str (Lib.decDigits s))
  | 13 => .string (str ((((wordL k ++ [32]) ++ Lib.decDigits f) ++ [32]) ++ Lib.decDigits s))
  | _ => .string (str (hdL k f s))
theorem c16t {i : Nat} (h : i < 16) : i = 0 ∨ i = 1 ∨ i = 2 ∨ i = 3 ∨ i = 4 ∨ i = 5 ∨ i = 6 ∨ i = 7 ∨ i = 8 ∨ i = 9 ∨ i = 10 ∨ i = 11 ∨ i = 12 ∨ i = 13 ∨ i = 14 ∨ i = 15 := by omega
theorem frT_put (g b : Nat) (L : List Value) (u : Nat → Value) (i : Nat) (h : i < 16) (v : Value) : (Act.mk (frT g b L u) []).put (some (10 + i)) v = Act.mk (frT g b L fun k => if k = 10 + i then v else u k) [] := by
  rcases c16t h with rfl | rfl | rfl | rfl | rfl | rfl | rfl | rfl | rfl | rfl | rfl | rfl | rfl | rfl | rfl | rfl <;> rfl
set_option maxRecDepth 100000 in
set_option maxHeartbeats 2000000 in
theorem text_calls (k f s : Int) (vp : Value) (ds : List (List UInt8)) (w : World) (hp : Ds w vp ds) (hP : Pows w) (hKi : Kinds w) : Calls Tryd.prog 49 #[prV k f s vp] w fun e w' => e = .returned (if valB k f s ds.length then .tuple #[.string (str (txtB k.toNat f.toNat s.toNat ds)), .int .i64 0] else .tuple #[.string ⟨#[]⟩, .int .i64 2]) ∧ Below w.heap.size w w' := by
  obtain ⟨pa, pc, rfl⟩ := hp.open
  have hv := fun w => valid_calls k f s pa ds.length pc hp.small w
  cases hb : valB k f s ds.length with
  | false =>
    rw [hb] at hv
    have HV := Lib.hid hv
    clear hv hb hp
    simp only [Bool.false_eq_true, if_false]
    go_enter Tryd.func49, Tryd.ntmps49
    go_wp2_with (first | (((with_reducible refine gate_dst (N := 1) rfl ?_); go_loud (refine wp_box rfl _ _ rfl (v := prV k f s (.slice pa ds.length pc)) rfl ?_); intro w1 hk1 hb1 hz1); rw [pr_cells] at hk1) | (((with_reducible refine gate_dst (N := 7) rfl ?_); go_loud (refine wp_load_blk rfl 76 _ rfl aggPr sizePr rfl hk1 (rfl) ?_))) | (go_at_call 51; go_loud (refine (HV.out _).mono ?_); rintro e w2 ⟨rfl, hb2⟩))
    go_ret2
    exact ⟨rfl, hb1.trans (hb2.mono hb1.size)⟩
  | true =>
    rw [hb] at hv
    obtain ⟨v1, v2, v3, v4, v5, v6⟩ := valid_parts hb
    obtain ⟨f, rfl⟩ := Int.eq_ofNat_of_zero_le v2
    obtain ⟨s, rfl⟩ := Int.eq_ofNat_of_zero_le v4
    obtain ⟨k, rfl⟩ := Int.eq_ofNat_of_zero_le (show 0 ≤ k by omega)
    simp only [Int.toNat_natCast, if_true]
    have HV := Lib.hid hv
    have HP := Lib.hid hp
    have HPO := Lib.hid hP
    have HKI := Lib.hid hKi
    obtain ⟨fin, hfin⟩ : ∃ l, txtB k f s ds = l := ⟨_, rfl⟩
    rw [hfin]
    have HFIN := Lib.hid hfin
    have hk12 : k = 1 ∨ k = 2 := by omega
    have hn50 : ds.length ≤ 50 := v6
    have hf48 : f ≤ 281474976710656 := by omega
    have hs48 : s ≤ 281474976710656 := by omega
    clear hv hb hp v1 v2 v3 v4 v5 v6 hfin hP hKi
    go_enter Tryd.func49, Tryd.ntmps49
    go_wp2_with (first | (((with_reducible refine gate_dst (N := 1) rfl ?_); go_loud (refine wp_box rfl _ _ rfl (v := prV k f s (.slice pa ds.length pc)) rfl ?_); intro w1 hk1 hb1 hz1); rw [pr_cells] at hk1) | (((with_reducible refine gate_dst (N := 7) rfl ?_); go_loud (refine wp_load_blk rfl 76 _ rfl aggPr sizePr rfl hk1 (rfl) ?_))) | (go_at_call 51; go_loud (refine (HV.out _).mono ?_); rintro e w2 ⟨rfl, hb2⟩) | (((with_reducible refine gate_dst (N := 4) rfl ?_); go_loud (refine wp_alloc rfl _ rfl zeroB ?_); intro w3 hk3 hb3 hz3)))
    have hb02 : Below w.heap.size w w2 := hb1.trans (hb2.mono hb1.size)
    have hz12 := hb2.size
    have HK2 := Lib.hid (hk1.below hb2)
    have hl1 := wordL_len k
    have hl2 := dig_len f (by omega)
    have hl3 := dig_len s (by omega)
    have hB3 : Lib.IsBuilder 128 5 w2.heap.size w2.heap.size (bcs []) w3 := .inl ⟨Nat.le_refl _, .slice none 0 0, hk3, World.ownsRow_nil _ _ _ _, by simp [Value.ownBlock]⟩
    clear hk1 hk3
    refine wp_region_inv (fun D a W => ∃ u : Nat → Value, a = { tmps := frT w.heap.size w2.heap.size (prL k f s (.slice pa ds.length pc)) u, defers := [] } ∧ Below w2.heap.size w2 W ∧ Lib.IsBuilder 128 5 w2.heap.size w2.heap.size (bcs (if D 15 = true then hdL k f s else [])) W ∧ ∀ j, j < 15 → D j = true → u (10 + j) = valT w.heap.size k f s j) (by kernel_rfl) (by kernel_rfl) ⟨fun _ => undef, rfl, hb3.drew, hB3, fun _ _ h => by cases h⟩ ?_ ?_
    · intro i o ho D a W hdi hdep hcl hI K hK
      obtain ⟨u, rfl, hb, hIB, hV⟩ := hI
      have h16 : i < 16 := (Array.getElem?_eq_some_iff.1 ho).1
      have hkW : Blk W w.heap.size 76 (prL k f s (.slice pa ds.length pc)) := HK2.out.below hb
      have hbW : Below w.heap.size w W := hb02.trans (hb.mono (by omega))
      have K1 : i < 15 → ∀ W', Below W.heap.size W W' → K ((Act.mk (frT w.heap.size w2.heap.size (prL k f s (.slice pa ds.length pc)) u) []).put (some (10 + i)) (valT w.heap.size k f s i)) W' := by
        intro hi W' hb'
        rw [frT_put _ _ _ _ i h16]
        refine hK _ _ ⟨_, rfl, hb.trans (hb'.mono hb.size), ?_, fun j hj hD => ?_⟩
        · rw [upd_other D i 15 (by omega)]
          exact isB_below hIB hb'
        · by_cases hji : j = i
          · subst hji; simp
          · rw [upd_other D i j hji] at hD
            simp only [if_neg (show ¬ 10 + j = 10 + i by omega)]
            exact hV j hj hD
      have K0 := fun (h : i < 15) => K1 h W (Below.refl _ _)
      rcases c16t h16 with rfl | rfl | rfl | rfl | rfl | rfl | rfl | rfl | rfl | rfl | rfl | rfl | rfl | rfl | rfl | rfl <;> obtain rfl := Option.some.inj ho <;> first | replace K0 := K0 (by omega) | skip
      · refine st_run rfl (v := valT w.heap.size k f s 0) (w' := W) ?_ K0
        unfold frT valT; go_simp
      · have hu : u 10 = .pointer (some ⟨w.heap.size, 0, none⟩) := hV 0 (by omega) (hdep ⟨0, .data⟩ (by simp) rfl)
        exact st_load1 (by rfl) 3 (.tmp 10) (by rfl) int_s2 int_s1 (by exact hu) (hkW.cell 0) K0
      · have hu : u 11 = .int .i64 (k : Int) := hV 1 (by omega) (hdep ⟨1, .data⟩ (by simp) rfl)
        refine st_run rfl (v := valT w.heap.size k f s 2) (w' := W) ?_ K0
        clear hdep K0 K1 hK ho hV
        unfold frT valT
        rcases hk12 with rfl | rfl
        · first | (go_simp; done) | (go_simp; rfl)
        · first | (go_simp; done) | (go_simp; rfl)
      · have hu : u 12 = .pointer (some ⟨0, k, none⟩) := hV 2 (by omega) (hdep ⟨2, .data⟩ (by simp) rfl)
        have hck : W.cell? ⟨0, k, none⟩ = some (.string (str (wordL k))) := by
          have := (HKI.out.below hbW) k (by omega)
          rwa [kn, if_neg (by omega)] at this
        exact st_load1 (by rfl) 9 (.tmp 12) (by rfl) strA strS (by exact hu) hck K0
      · have hu : u 13 = valT w.heap.size k f s 3 := hV 3 (by omega) (hdep ⟨3, .data⟩ (by simp) rfl)
        exact st_addS (by rfl) 9 9 (.tmp 13) _ (by rfl) (by exact hu) (by rfl) (by rfl) (q := [32]) (by rfl) (by simp; omega) K0
      · refine st_run rfl (v := valT w.heap.size k f s 5) (w' := W) ?_ K0
        unfold frT valT; go_simp
      · have hu : u 15 = .pointer (some ⟨w.heap.size, 1, none⟩) := hV 5 (by omega) (hdep ⟨5, .data⟩ (by simp) rfl)
        exact st_load1 (by rfl) 3 (.tmp 15) (by rfl) int_s2 int_s1 (by exact hu) (hkW.cell 1) K0
      · have hu : u 16 = .int .i64 (f : Int) := hV 6 (by omega) (hdep ⟨6, .data⟩ (by simp) rfl)
        have hc : Calls Tryd.prog 74 #[.int .i64 (f : Int)] W fun e w' => e = .returned (.string (str (Lib.decDigits f))) ∧ Below W.heap.size W w' := by have := itoa_calls (f : Int) (by omega) (by omega) W (HPO.out.below hbW); rwa [itoa_nat] at this
        rw [← hu] at hc
        have HC := Lib.hid hc
        clear hc hu hdep K0 ho hV
        refine st_want (a := { tmps := frT w.heap.size w2.heap.size (prL k f s (.slice pa ds.length pc)) u, defers := [] }) rfl ?_
        unfold frT
        go_simp
        refine HC.out.mono ?_
        rintro e w' ⟨rfl, hb'⟩
        exact K1 (by omega) w' hb'
      · have hu : u 14 = valT w.heap.size k f s 4 := hV 4 (by omega) (hdep ⟨4, .data⟩ (by simp) rfl)
        have hu2 : u 17 = valT w.heap.size k f s 7 := hV 7 (by omega) (hdep ⟨7, .data⟩ (by simp) rfl)
        exact st_addS (by rfl) 9 9 (.tmp 14) (.tmp 17) (by rfl) (by exact hu) (by exact hu2) (by rfl) (q := _) (by rfl) (by simp; omega) K0
      · have hu : u 18 = valT w.heap.size k f s 8 := hV 8 (by omega) (hdep ⟨8, .data⟩ (by simp) rfl)
        exact st_addS (by rfl) 9 9 (.tmp 18) _ (by rfl) (by exact hu) (by rfl) (by rfl) (q := [32]) (by rfl) (by simp; omega) K0
      · refine st_run rfl (v := valT w.heap.size k f s 10) (w' := W) ?_ K0
        unfold frT valT; go_simp
      · have hu : u 20 = .pointer (some ⟨w.heap.size, 2, none⟩) := hV 10 (by omega) (hdep ⟨10, .data⟩ (by simp) rfl)
        exact st_load1 (by rfl) 3 (.tmp 20) (by rfl) int_s2 int_s1 (by exact hu) (hkW.cell 2) K0
      · have hu : u 21 = .int .i64 (s : Int) := hV 11 (by omega) (hdep ⟨11, .data⟩ (by simp) rfl)
        have hc : Calls Tryd.prog 74 #[.int .i64 (s : Int)] W fun e w' => e = .returned (.string (str (Lib.decDigits s))) ∧ Below W.heap.size W w' := by have := itoa_calls (s : Int) (by omega) (by omega) W (HPO.out.below hbW); rwa [itoa_nat] at this
        rw [← hu] at hc
        have HC := Lib.hid hc
        clear hc hu hdep K0 ho hV
        refine st_want (a := { tmps := frT w.heap.size w2.heap.size (prL k f s (.slice pa ds.length pc)) u, defers := [] }) rfl ?_
        unfold frT
        go_simp
        refine HC.out.mono ?_
        rintro e w' ⟨rfl, hb'⟩
        exact K1 (by omega) w' hb'
      · have hu : u 19 = valT w.heap.size k f s 9 := hV 9 (by omega) (hdep ⟨9, .data⟩ (by simp) rfl)
        have hu2 : u 22 = valT w.heap.size k f s 12 := hV 12 (by omega) (hdep ⟨12, .data⟩ (by simp) rfl)
        exact st_addS (by rfl) 9 9 (.tmp 19) (.tmp 22) (by rfl) (by exact hu) (by exact hu2) (by rfl) (q := _) (by rfl) (by simp; omega) K0
      · have hu : u 23 = valT w.heap.size k f s 13 := hV 13 (by omega) (hdep ⟨13, .data⟩ (by simp) rfl)
        exact st_addS (by rfl) 9 9 (.tmp 23) _ (by rfl) (by exact hu) (by rfl) (by rfl) (q := [10]) (by rfl) (by simp; omega) K0
      · have hu : u 24 = .string (str (hdL k f s)) := hV 14 (by omega) (hdep ⟨14, .data⟩ (by simp) rfl)
        have hB0 : Lib.IsBuilder 128 5 w2.heap.size w2.heap.size (bcs []) W := by
          rw [hdi] at hIB
          exact hIB
        have hc := Go.Proofs.YtfefcfjedlidnaaDoor.Bld.wstr_k w2.heap.size w2.heap.size [] (str (hdL k f s)) W hB0 (by rw [show ∀ l : List UInt8, (str l).size = l.length from fun l => by simp [str, ByteArray.size]]; simp [hdL]; omega) (by rw [show ∀ l : List UInt8, (str l).size = l.length from fun l => by simp [str, ByteArray.size]]; have := hdL_len k f s (by omega) (by omega); simp; omega) hb.size
        rw [← hu] at hc
        have HC := Lib.hid hc
        clear hc hu hdep ho
        refine st_want (a := { tmps := frT w.heap.size w2.heap.size (prL k f s (.slice pa ds.length pc)) u, defers := [] }) rfl ?_
        unfold frT
        go_simp
        refine HC.out.mono ?_
        rintro e w' ⟨rfl, ⟨hB1, hbb⟩, _⟩
        have e15 := frT_put w.heap.size w2.heap.size (prL k f s (.slice pa ds.length pc)) u 15 (by omega) (.tuple #[.int .i64 ((str (hdL k f s)).size : Int), .nilIface])
        refine (congrArg (fun a => K a w') e15).mpr (hK _ _ ⟨_, rfl, hb.trans hbb, ?_, fun j hj hD => ?_⟩)
        · rw [show upd D 15 15 = true from by simp [upd]]
          exact .inr (by simpa [str] using hB1)
        · rw [upd_other D 15 j (by omega)] at hD
          simp only [if_neg (show ¬ 10 + j = 10 + 15 by omega)]
          exact hV j hj hD
    · rintro D a W hall ⟨u, rfl, hb, hIB, hV⟩
      rw [hall 15 (by decide), if_pos rfl] at hIB
      have hfin2 : hdL k f s ++ txL ds = fin := HFIN.out
      have hl4 : (hdL k f s).length ≤ 56 := hdL_len k f s (by omega) (by omega)
      obtain ⟨L, hL⟩ : ∃ l, hdL k f s = l := ⟨_, rfl⟩
      rw [hL] at hIB hfin2 hl4
      have HF2 := Lib.hid hfin2
      have HL4 := Lib.hid hl4
      have HB4 := Lib.hid hIB
      have HPW := Lib.hid (show Ds W (.slice pa ds.length pc) ds from HP.out.below (hb02.trans (hb.mono (by omega))))
      have c3 : W.cell? ⟨w.heap.size, 3, none⟩ = some (.slice pa ds.length pc) := (HK2.out.below hb).cell 3
      unfold frT
      clear hV hL hfin2 hl4 hl1 hl2 hl3 hIB hB3
      go_wp2_with fail
      go_loopw [6, 29] (fun _ x wr => ∃ j : Nat, x = .int .i64 (j : Int) ∧ j ≤ ds.length ∧ Hid (Lib.IsBuilder 128 5 w2.heap.size w2.heap.size (bcs (L ++ txL (ds.take j))) wr) ∧ Below w2.heap.size w2 wr ∧ Hid (Ds wr (.slice pa ds.length pc) ds)) (fun _ x _ => ds.length - (intOf x).toNat)
      case atStart => exact ⟨0, rfl, by omega, by simpa [txL] using HB4, hb, HPW⟩
      case round =>
        obtain ⟨j, rfl, hj, HBr, hbr2, HPr⟩ := hrel
        have hbr : Below w.heap.size w wr := hb02.trans (hbr2.mono (by omega))
        have hzr := hbr2.size
        by_cases hlt : j < ds.length
        · have h32 : (ds[j]).length = 32 := HPr.out.2 _ (List.getElem_mem hlt)
          have hst := txL_step L ds j hlt
          have htl := txL_len (ds.take j) (take32 HPr.out.2 j)
          rw [List.length_take, Nat.min_eq_left hj] at htl
          have hlen : (L ++ txL (ds.take j)).length ≤ 5000 := by have := HL4.out; rw [List.length_append]; omega
          obtain ⟨dj, hdj⟩ : ∃ d, ds[j] = d := ⟨_, rfl⟩
          rw [hdj] at h32 hst
          have h44 := b64_length dj
          rw [h32] at h44
          have HST := Lib.hid hst
          have H32 := Lib.hid h32
          have HDJ := Lib.hid hdj
          obtain ⟨acc, hacc⟩ : ∃ l, L ++ txL (ds.take j) = l := ⟨_, rfl⟩
          rw [hacc] at HST hlen HBr
          clear hst h32 hdj hacc htl
          go_wp2_with (first | ((with_reducible refine gate_dst (N := 31) rfl ?_); go_loud (refine wp_getD rfl (fun _ => rfl) _ _ 31 rfl rfl rfl HPr.out j rfl rfl (fun _ => rfl) hlt ?_); intro p; rw [HDJ.out]) | (((with_reducible refine gate_dst (N := 6) rfl ?_); go_loud (refine wp_alloc rfl _ rfl zeroD ?_); intro w6 hk6 hb6 hz6)) | (((with_reducible refine gate_store (t := 28) (p := 6) rfl ?_); go_loud (refine wp_store_blk rfl 28 _ _ rfl rfl sizeD rfl hk6 (dz_cells) (v := dg dj) rfl (dg_size H32.out) (dg_one _) ?_); intro w7 hk7 hg7); go_loud (have hk7' : Blk w7 wr.heap.size 28 (bcs dj) := by simpa [Value.cells] using hk7); go_loud (have hrd7 : Rd w7 (.slice (some ⟨wr.heap.size, 0, none⟩) 32 32) dj := Rd.of_blk hk7' 32 H32.out (by unfold maxLen; omega)); go_loud (have hz7 := hg7.size); go_loud (have hz6' := hb6.size); go_loud (have hs7 : Below wr.heap.size wr w7 := hb6.grown hg7 (by omega) (fun r e => by injection e with e; omega)); go_loud (have HB7 := Lib.hid (isB_below HBr.out hs7))) | (go_at_call 75; go_loud (refine (Go.Proofs.YtfefcfjedlidnaaDoor.Chk.base64_calls _ dj _ hrd7 (by rw [H32.out]; omega)).mono ?_); rintro e w8 ⟨rfl, hb8⟩; go_loud (have hz8 := hb8.size); go_loud (have HB8 := Lib.hid (isB_below HB7.out hb8))) | (((with_reducible refine gate_dst (N := 35) rfl ?_); go_loud (refine wp_add_str rfl _ _ _ _ rfl (p := b64 dj) (q := [10]) rfl rfl (rfl) (rfl) (by (simp; omega)) ?_))) | (go_at_call 87; go_loud (refine (Go.Proofs.YtfefcfjedlidnaaDoor.Bld.wstr_k w2.heap.size w2.heap.size acc (str (b64 dj ++ [10])) w8 HB8.out (by rw [show ∀ l : List UInt8, (str l).size = l.length from fun l => by simp [str, ByteArray.size]]; simp) (by rw [show ∀ l : List UInt8, (str l).size = l.length from fun l => by simp [str, ByteArray.size]]; simp; omega) (by omega)).mono ?_); rintro e w9 ⟨rfl, ⟨hB9, hb9⟩, _⟩))
          have hb89 : Below w2.heap.size w2 w9 := ((hbr2.trans (hs7.mono hzr)).trans (hb8.mono (by omega))).trans hb9
          have hp9 : Hid (Ds w9 (.slice pa ds.length pc) ds) := HP.out.below (hb02.trans (hb89.mono (by omega)))
          have hB9' : Lib.IsBuilder 128 5 w2.heap.size w2.heap.size (bcs (acc ++ (b64 dj ++ [10]))) w9 := .inr (by simpa [str] using hB9)
          rw [HST.out] at hB9'
          go_roundw
          case rel => exact ⟨j + 1, by go_num, by omega, hB9', hb89, hp9⟩
          case measure => simp [intOf]; omega
        · obtain rfl : j = ds.length := by omega
          rw [List.take_length, HF2.out] at HBr
          go_wp2_with (go_at_call 88; go_loud (refine (Tryd.Builder_String_any_k w2.heap.size w2.heap.size fin _ (Lib.IsBuilderF.of HBr.out) (by omega)).mono ?_); rintro e w3' ⟨rfl, _, hb3', _⟩)
          go_ret2
          exact ⟨rfl, hbr.trans (hb3'.mono (by omega))⟩
end Go.Proofs.YtfefcfjedlidnaaDoor.Wir
