/- wire.Encode. -/
import Derived.Test.YtfefcfjedlidnaaDoorWirV
import Derived.Test.YtfefcfjedlidnaaDoorDsl
import Derived.Test.YtfefcfjedlidnaaDoorPut
namespace Go.Proofs.YtfefcfjedlidnaaDoor.Wir
open Go Go.RowKit Go.Proofs.YtfefcfjedlidnaaDoor.Cop Go.Proofs.YtfefcfjedlidnaaDoor.Ver Go.Proofs.YtfefcfjedlidnaaDoor.Oct Go.Proofs.YtfefcfjedlidnaaDoor.Dsl
set_option linter.unusedVariables false
set_option linter.unusedSimpArgs false
theorem valid_parts {k f s : Int} {n : Nat} (h : valB k f s n = true) : (k = 1 ∨ k = 2) ∧ 0 ≤ f ∧ f ≤ 281474976710656 ∧ 0 ≤ s ∧ s ≤ 281474976710656 ∧ n ≤ 50 := by
  unfold valB cntN at h
  have hw := wayL_len f.toNat s.toNat
  have hs := stL_len f.toNat s.toNat
  by_cases h1 : k = 1
  · subst h1
    rw [if_pos rfl] at h
    cases hr : rightB f s with
    | false => rw [hr] at h; cases h
    | true =>
      rw [hr] at h
      simp only [if_true, beq_iff_eq] at h
      unfold rightB at hr
      simp only [Bool.and_eq_true, decide_eq_true_eq] at hr
      unfold lenN at h
      omega
  · rw [if_neg h1] at h
    by_cases h2 : k = 2
    · subst h2
      rw [if_pos rfl] at h
      cases hr : ordB f s with
      | false => rw [hr] at h; cases h
      | true =>
        rw [hr] at h
        simp only [if_true, beq_iff_eq] at h
        unfold ordB at hr
        simp only [Bool.and_eq_true, decide_eq_true_eq] at hr
        unfold stN at h
        have : (if (stL f.toNat s.toNat).2 = true then 0 else 1) ≤ 1 := by split <;> omega
        omega
    · rw [if_neg h2] at h; cases h
/-- A proof's bytes. -/
def encH (k f s n : Nat) : List UInt8 := ((([UInt8.ofNat k] ++ be f 8) ++ be s 8) ++ [UInt8.ofNat n])
def encB (k f s : Nat) (ds : List (List UInt8)) : List UInt8 := encH k f s ds.length ++ ds.flatten
theorem encH_len (k f s n : Nat) : (encH k f s n).length = 18 := by simp [encH, be_length]
theorem flat_len (ds : List (List UInt8)) (h : All32 ds) : ds.flatten.length = ds.length * 32 := by
  induction ds with
  | nil => rfl
  | cons d ds ih =>
    rw [List.flatten_cons, List.length_append, ih (fun x hx => h x (by simp [hx])), h d (by simp), List.length_cons]
    omega
theorem flat_step (L : List UInt8) (ds : List (List UInt8)) (j : Nat) (h : j < ds.length) : (L ++ (ds.take j).flatten) ++ ds[j] = L ++ (ds.take (j + 1)).flatten := by
  rw [List.take_succ_eq_append_getElem h, List.flatten_append, List.append_assoc]
  simp
theorem take32 {ds : List (List UInt8)} (h : All32 ds) (j : Nat) : All32 (ds.take j) := fun d hd => h d (List.mem_of_mem_take hd)
def frE (g : Nat) (L : List Value) (u : Nat → Value) : Array Value := #[.agg L.toArray, .pointer (some ⟨g, 0, none⟩), .slice none 0 0, .int .i64 0, u 4, undef, undef, .agg L.toArray, .bool true, .bool false, u 10, u 11, u 12, u 13, u 14, u 15, u 16, u 17, u 18, u 19, u 20, u 21, undef, undef, undef, undef, undef, undef, undef, undef, undef, undef, undef, undef, undef, undef, undef, undef, undef, undef, undef]
def facE (g B k f s : Nat) (i : Nat) (v : Value) (W : World) : Prop := match i with
  | 0 => v = .pointer (some ⟨g, 0, none⟩)
  | 1 => v = .int .i64 (k : Int)
  | 2 => v = .int .u8 (k : Int)
  | 3 => Rd W v [UInt8.ofNat k]
  | 4 => v = .pointer (some ⟨g, 1, none⟩)
  | 5 => v = .int .i64 (f : Int)
  | 6 => v = .int .u64 (f : Int)
  | 7 => Own B W v ([UInt8.ofNat k] ++ be f 8)
  | 8 => v = .pointer (some ⟨g, 2, none⟩)
  | 9 => v = .int .i64 (s : Int)
  | 10 => v = .int .u64 (s : Int)
  | _ => Own B W v (([UInt8.ofNat k] ++ be f 8) ++ be s 8)
theorem c13 {i : Nat} (h : i < 13) : i = 0 ∨ i = 1 ∨ i = 2 ∨ i = 3 ∨ i = 4 ∨ i = 5 ∨ i = 6 ∨ i = 7 ∨ i = 8 ∨ i = 9 ∨ i = 10 ∨ i = 11 ∨ i = 12 := by omega
theorem int_s1 : (Tryd.prog.info? 3).map (fun i => i.size) = some 1 := by kernel_rfl
theorem int_s2 (w : World) : (isAgg 3).run Tryd.prog w = .ok false w := by kernel_rfl
theorem ret_own {B : Nat} {w w' : World} {n : Nat} {bs : List UInt8} {e : Ending} (hr : RetRow 5 1 n (bcs bs) w e w') (hn : n = bs.length) (hB : B ≤ w.heap.size) : ∃ v, e = .returned v ∧ Own B w' v bs ∧ Below w.heap.size w w' := by
  obtain ⟨v, h1, h2, h3⟩ := hr
  subst hn
  exact ⟨v, h1, Own.mono h2 hB, h3⟩
set_option maxRecDepth 100000 in
set_option maxHeartbeats 2000000 in
theorem encode_calls (k f s : Int) (vp : Value) (ds : List (List UInt8)) (w : World) (hp : Ds w vp ds) : Calls Tryd.prog 47 #[prV k f s vp] w fun e w' => if valB k f s ds.length then ∃ v, e = .returned (.tuple #[v, .int .i64 0]) ∧ Own w.heap.size w' v (encB k.toNat f.toNat s.toNat ds) ∧ Below w.heap.size w w' else e = .returned (.tuple #[.slice none 0 0, .int .i64 2]) ∧ Below w.heap.size w w' := by
  obtain ⟨pa, pc, rfl⟩ := hp.open
  have hv := fun w => valid_calls k f s pa ds.length pc hp.small w
  cases hb : valB k f s ds.length with
  | false =>
    rw [hb] at hv
    have HV := Lib.hid hv
    clear hv hb hp
    simp only [Bool.false_eq_true, if_false]
    go_enter Tryd.func47, Tryd.ntmps47
    go_wp2_with (first | (((with_reducible refine gate_dst (N := 1) rfl ?_); go_loud (refine wp_box rfl _ _ rfl (v := prV k f s (.slice pa ds.length pc)) rfl ?_); intro w1 hk1 hb1 hz1); rw [pr_cells] at hk1) | (((with_reducible refine gate_dst (N := 7) rfl ?_); go_loud (refine wp_load_blk rfl 76 _ rfl aggPr sizePr rfl hk1 (rfl) ?_))) | (go_at_call 51; go_loud (refine (HV.out _).mono ?_); rintro e w2 ⟨rfl, hb2⟩))
    go_ret2
    exact ⟨rfl, hb1.trans (hb2.mono hb1.size)⟩
  | true =>
    rw [hb] at hv
    obtain ⟨v1, v2, v3, v4, v5, v6⟩ := valid_parts hb
    obtain ⟨f, rfl⟩ := Int.eq_ofNat_of_zero_le v2
    obtain ⟨s, rfl⟩ := Int.eq_ofNat_of_zero_le v4
    obtain ⟨k, rfl⟩ := Int.eq_ofNat_of_zero_le (show 0 ≤ k by omega)
    simp only [Int.toNat_natCast, if_true]
    have HV := Lib.hid hv
    have HP := Lib.hid hp
    have hfl := flat_len ds hp.2
    have HFL := Lib.hid hfl
    obtain ⟨fin, hfin⟩ : ∃ l, encB k f s ds = l := ⟨_, rfl⟩
    rw [hfin]
    have HFIN := Lib.hid hfin
    have hk3 : k < 3 := by omega
    have hn50 : ds.length ≤ 50 := v6
    have hf48 : f ≤ 281474976710656 := by omega
    have hs48 : s ≤ 281474976710656 := by omega
    clear hv hb hp v1 v2 v3 v4 v5 v6 hfl hfin
    go_enter Tryd.func47, Tryd.ntmps47
    go_wp2_with (first | (((with_reducible refine gate_dst (N := 1) rfl ?_); go_loud (refine wp_box rfl _ _ rfl (v := prV k f s (.slice pa ds.length pc)) rfl ?_); intro w1 hk1 hb1 hz1); rw [pr_cells] at hk1) | (((with_reducible refine gate_dst (N := 7) rfl ?_); go_loud (refine wp_load_blk rfl 76 _ rfl aggPr sizePr rfl hk1 (rfl) ?_))) | (go_at_call 51; go_loud (refine (HV.out _).mono ?_); rintro e w2 ⟨rfl, hb2⟩))
    have hk2 := hk1.below hb2
    have hb02 : Below w.heap.size w w2 := hb1.trans (hb2.mono hb1.size)
    clear hk1
    refine wp_region_grow (frE w.heap.size (prL k f s (.slice pa ds.length pc))) (fun _ => undef) (facE w.heap.size w1.heap.size k f s) (by kernel_rfl) (by kernel_rfl) (by kernel_rfl) ?_ ?_ ?_ ?_
    · intro i hi u v
      have h13 : i < 13 := hi
      rcases c13 h13 with rfl | rfl | rfl | rfl | rfl | rfl | rfl | rfl | rfl | rfl | rfl | rfl | rfl <;> rfl
    · intro i hi v W W' hF hb
      have h13 : i < 13 := hi
      rcases c13 h13 with rfl | rfl | rfl | rfl | rfl | rfl | rfl | rfl | rfl | rfl | rfl | rfl | rfl <;> first | exact hF | exact Rd.below hF hb | exact Own.below hF hb
    · intro i o ho u W hb hdep K hK
      have h13 : i < 13 := (Array.getElem?_eq_some_iff.1 ho).1
      have hkW : Blk W w.heap.size 76 (prL k f s (.slice pa ds.length pc)) := hk2.below hb
      have hBW : w1.heap.size ≤ W.heap.size := by have := hb.size; have := hb2.size; omega
      have K0 := fun v (h : facE w.heap.size w1.heap.size k f s i v W) => hK v W (Below.refl _ _) h
      rcases c13 h13 with rfl | rfl | rfl | rfl | rfl | rfl | rfl | rfl | rfl | rfl | rfl | rfl | rfl <;> obtain rfl := Option.some.inj ho
      · refine st_run rfl (v := .pointer (some ⟨w.heap.size, 0, none⟩)) (w' := W) ?_ (K0 _ rfl)
        unfold frE; go_simp
      · have hu : u 10 = .pointer (some ⟨w.heap.size, 0, none⟩) := hdep ⟨0, .data⟩ (by simp) rfl
        exact st_load1 (by rfl) 3 (.tmp 10) (by rfl) int_s2 int_s1 (by exact hu) (hkW.cell 0) (K0 _ rfl)
      · have hu : u 11 = .int .i64 (k : Int) := hdep ⟨1, .data⟩ (by simp) rfl
        refine st_run rfl (v := .int .u8 (k : Int)) (w' := W) ?_ (K0 _ rfl)
        unfold frE
        have hw : IntKind.u8.wrap (k : Int) = (k : Int) := by rw [IntKind.wrap_u8]; omega
        go_simp
      · have hu : u 12 = .int .u8 (k : Int) := hdep ⟨2, .data⟩ (by simp) rfl
        have e8 : u8c (UInt8.ofNat k) = .int .u8 (k : Int) := by
          simp only [u8c, UInt8.toNat_ofNat']
          congr 1
          omega
        have hn := Rd.one W (UInt8.ofNat k) 5
        rw [e8] at hn
        refine st_run rfl (v := .slice (some ⟨W.heap.size, 0, none⟩) 1 1) (w' := W.alloc (.cells #[.int .u8 (k : Int)] 5)) ?_ (hK _ _ ((Below.refl _ _).alloc (Nat.le_refl _) _) hn)
        unfold frE
        first | (go_simp; done) | (go_simp; rfl)
      · refine st_run rfl (v := .pointer (some ⟨w.heap.size, 1, none⟩)) (w' := W) ?_ (K0 _ rfl)
        unfold frE; go_simp
      · have hu : u 14 = .pointer (some ⟨w.heap.size, 1, none⟩) := hdep ⟨4, .data⟩ (by simp) rfl
        exact st_load1 (by rfl) 3 (.tmp 14) (by rfl) int_s2 int_s1 (by exact hu) (hkW.cell 1) (K0 _ rfl)
      · have hu : u 15 = .int .i64 (f : Int) := hdep ⟨5, .data⟩ (by simp) rfl
        refine st_run rfl (v := .int .u64 (f : Int)) (w' := W) ?_ (K0 _ rfl)
        unfold frE
        have hw : IntKind.u64.wrap (f : Int) = (f : Int) := IntWalk.u64_in _ (by omega)
        go_simp
      · have hu3 : Rd W (u 13) [UInt8.ofNat k] := hdep ⟨3, .data⟩ (by simp) rfl
        have hu : u 16 = .int .u64 (f : Int) := hdep ⟨6, .data⟩ (by simp) rfl
        have hc := put64 (u 13) [UInt8.ofNat k] f W (hu3.bs (by simp)) (by omega)
        rw [← hu] at hc
        have HC := Lib.hid hc
        clear hc hu hdep K0 ho hu3
        refine st_want (a := { tmps := frE w.heap.size (prL k f s (.slice pa ds.length pc)) u, defers := [] }) rfl ?_
        unfold frE
        go_simp
        refine HC.out.mono ?_
        intro e w' hq
        obtain ⟨v', rfl, hown, hb'⟩ := ret_own hq (by simp [be_length]) hBW
        exact hK v' w' hb' hown
      · refine st_run rfl (v := .pointer (some ⟨w.heap.size, 2, none⟩)) (w' := W) ?_ (K0 _ rfl)
        unfold frE; go_simp
      · have hu : u 18 = .pointer (some ⟨w.heap.size, 2, none⟩) := hdep ⟨8, .data⟩ (by simp) rfl
        exact st_load1 (by rfl) 3 (.tmp 18) (by rfl) int_s2 int_s1 (by exact hu) (hkW.cell 2) (K0 _ rfl)
      · have hu : u 19 = .int .i64 (s : Int) := hdep ⟨9, .data⟩ (by simp) rfl
        refine st_run rfl (v := .int .u64 (s : Int)) (w' := W) ?_ (K0 _ rfl)
        unfold frE
        have hw : IntKind.u64.wrap (s : Int) = (s : Int) := IntWalk.u64_in _ (by omega)
        go_simp
      · have hu3 : Own w1.heap.size W (u 17) ([UInt8.ofNat k] ++ be f 8) := hdep ⟨7, .data⟩ (by simp) rfl
        have hu : u 20 = .int .u64 (s : Int) := hdep ⟨10, .data⟩ (by simp) rfl
        have hc := put64 (u 17) ([UInt8.ofNat k] ++ be f 8) s W (hu3.rd.bs (by simp [be_length])) (by omega)
        rw [← hu] at hc
        have HC := Lib.hid hc
        clear hc hu hdep K0 ho hu3
        refine st_want (a := { tmps := frE w.heap.size (prL k f s (.slice pa ds.length pc)) u, defers := [] }) rfl ?_
        unfold frE
        go_simp
        refine HC.out.mono ?_
        intro e w' hq
        obtain ⟨v', rfl, hown, hb'⟩ := ret_own hq (by simp [be_length]) hBW
        exact hK v' w' hb' hown
      · have hu3 : Own w1.heap.size W (u 21) (([UInt8.ofNat k] ++ be f 8) ++ be s 8) := hdep ⟨11, .data⟩ (by simp) rfl
        refine st_run rfl (v := u 21) (w' := W) ?_ (K0 _ hu3)
        clear hdep K0 hK ho hu3
        unfold frE; go_simp
    · intro u W hb hV
      have hown : Own w1.heap.size W (u 4) (([UInt8.ofNat k] ++ be f 8) ++ be s 8) := hV 12 (by decide)
      have hkW : Blk W w.heap.size 76 (prL k f s (.slice pa ds.length pc)) := hk2.below hb
      have hbW : Below w.heap.size w W := hb02.trans (hb.mono hb02.size)
      have hpW : Ds W (.slice pa ds.length pc) ds := HP.out.below hbW
      have c3 : W.cell? ⟨w.heap.size, 3, none⟩ = some (.slice pa ds.length pc) := hkW.cell 3
      have e8 : u8c (UInt8.ofNat ds.length) = .int .u8 (ds.length : Int) := by
        simp only [u8c, UInt8.toNat_ofNat']
        congr 1
        omega
      have hn := Rd.one W (UInt8.ofNat ds.length) 5
      rw [e8] at hn
      have hw8 : IntKind.u8.wrap (ds.length : Int) = (ds.length : Int) := by rw [IntKind.wrap_u8]; omega
      have hown' := hown.alloc (.cells #[.int .u8 (ds.length : Int)] 5)
      have HN := Lib.hid hn
      have HO := Lib.hid hown'
      have HPW := Lib.hid hpW
      unfold frE
      clear hV hn hown' hpW e8
      have hW1 : w1.heap.size ≤ W.heap.size := by have := hb.size; have := hb2.size; omega
      go_wp2_with (((with_reducible refine gate_dst (N := 28) rfl ?_); go_loud (refine wp_appB rfl (.tmp 22) (.tmp 27) rfl HO.out rfl HN.out rfl (by simp [be_length]) (by simp; omega) ?_); intro v4 w4 hown4 hg4); have hkW4 : Blk w4 w.heap.size 76 (prL k f s (.slice pa ds.length pc)) := (hkW.below ((Below.refl _ _).alloc (Nat.le_refl _) _)).grown hg4 (fun e => by have := (World.ownsRow.lt hown w.heap.size e.symm).1; omega); have c4 : w4.cell? ⟨w.heap.size, 3, none⟩ = some (.slice pa ds.length pc) := hkW4.cell 3)
      have hb4 : Below w1.heap.size w1 w4 := ((hb2.trans (hb.mono hb2.size)).alloc hW1 _).grown hg4 (by simp; omega) (fun r e => (World.ownsRow.lt hown r e).1)
      have hb04 : Below w.heap.size w w4 := hb1.trans (hb4.mono hb1.size)
      have hp4 : Ds w4 (.slice pa ds.length pc) ds := HP.out.below hb04
      have HP4 := Lib.hid hp4
      have hl4 : ((([UInt8.ofNat k] ++ be f 8) ++ be s 8) ++ [UInt8.ofNat ds.length]).length = 18 := encH_len k f s ds.length
      have hfin2 : ((([UInt8.ofNat k] ++ be f 8) ++ be s 8) ++ [UInt8.ofNat ds.length]) ++ ds.flatten = fin := HFIN.out
      generalize (([UInt8.ofNat k] ++ be f 8) ++ be s 8) ++ [UInt8.ofNat ds.length] = L at hown4 hl4 hfin2
      have HF2 := Lib.hid hfin2
      have HL4 := Lib.hid hl4
      clear hfin2 hl4 hp4 c4 hkW4 hkW hg4 hown hb hbW hb02 hk2 c3 hw8
      go_loopw [4, 6, 32] (fun v _ x wr => ∃ j : Nat, x = .int .i64 (j : Int) ∧ j ≤ ds.length ∧ Own w1.heap.size wr v (L ++ (ds.take j).flatten) ∧ Below w1.heap.size w1 wr ∧ Hid (Ds wr (.slice pa ds.length pc) ds)) (fun _ _ x _ => ds.length - (intOf x).toNat)
      case atStart => exact ⟨0, rfl, by omega, by simpa using hown4, hb4, HP4.out⟩
      case round =>
        obtain ⟨j, rfl, hj, hown, hb, HPr⟩ := hrel
        have hbr : Below w.heap.size w wr := hb1.trans (hb.mono hb1.size)
        have hzr := hb.size
        by_cases hlt : j < ds.length
        · have h32 : (ds[j]).length = 32 := HPr.out.2 _ (List.getElem_mem hlt)
          have hst := flat_step L ds j hlt
          have htl := flat_len (ds.take j) (take32 HPr.out.2 j)
          rw [List.length_take, Nat.min_eq_left hj] at htl
          have hlen : (L ++ (ds.take j).flatten).length ≤ 2000 := by rw [List.length_append, HL4.out, htl]; omega
          obtain ⟨dj, hdj⟩ : ∃ d, ds[j] = d := ⟨_, rfl⟩
          rw [hdj] at h32 hst
          have HST := Lib.hid hst
          have H32 := Lib.hid h32
          have HDJ := Lib.hid hdj
          obtain ⟨acc, hacc⟩ : ∃ l, L ++ (ds.take j).flatten = l := ⟨_, rfl⟩
          rw [hacc] at hown HST hlen
          clear hst h32 hdj hacc htl
          go_wp2_with (first | ((with_reducible refine gate_dst (N := 34) rfl ?_); go_loud (refine wp_getD rfl (fun _ => rfl) _ _ 34 rfl rfl rfl HPr.out j rfl rfl (fun _ => rfl) hlt ?_); intro p; rw [HDJ.out]) | (((with_reducible refine gate_dst (N := 6) rfl ?_); go_loud (refine wp_alloc rfl _ rfl zeroD ?_); intro w5 hk5 hb5 hz5)) | (((with_reducible refine gate_store (t := 28) (p := 6) rfl ?_); go_loud (refine wp_store_blk rfl 28 _ _ rfl rfl sizeD rfl hk5 (dz_cells) (v := dg dj) rfl (dg_size H32.out) (dg_one _) ?_); intro w6 hk6 hg6); go_loud (have hk6' : Blk w6 wr.heap.size 28 (bcs dj) := by simpa [Value.cells] using hk6); go_loud (have hrd6 : Rd w6 (.slice (some ⟨wr.heap.size, 0, none⟩) 32 32) dj := Rd.of_blk hk6' 32 H32.out (by unfold maxLen; omega)); go_loud (have hown6 := (hown.below hb5).kept hg6 (.inr (fun e => by have := (World.ownsRow.lt hown _ e).2; omega))); go_loud (have hz6 := hg6.size); go_loud (have hz5' := hb5.size)) | (((with_reducible refine gate_dst (N := 38) rfl ?_); go_loud (refine wp_appB rfl (.tmp 36) (.tmp 37) rfl hown6 rfl hrd6 rfl (by rw [H32.out]; omega) (by omega) ?_); intro v7 w7 hown7 hg7)))
          have hb7 : Below w1.heap.size w1 w7 := ((hb.trans (hb5.mono hb.size)).grown hg6 (by omega) (fun r e => by injection e with e; omega)).grown hg7 (by omega) (fun r e => (World.ownsRow.lt hown r e).1)
          have hp7 : Hid (Ds w7 (.slice pa ds.length pc) ds) := HP.out.below (hb1.trans (hb7.mono hb1.size))
          rw [HST.out] at hown7
          go_roundw
          case rel => exact ⟨j + 1, by go_num, by omega, hown7, hb7, hp7⟩
          case measure => simp [intOf]; omega
        · obtain rfl : j = ds.length := by omega
          rw [List.take_length, HF2.out] at hown
          have hres := hown.mono (show w.heap.size ≤ w1.heap.size by omega)
          go_wp2_with fail
          go_ret2
          exact ⟨_, rfl, hres, hbr⟩
end Go.Proofs.YtfefcfjedlidnaaDoor.Wir
