/- The reference's Encode. -/
import Derived.Test.YtfefcfjedlidnaaDoorWirE
import Derived.ArgAppend
namespace Go.Proofs.YtfefcfjedlidnaaDoor.Wir
open Go Go.RowKit Go.Proofs.YtfefcfjedlidnaaDoor.Cop Go.Proofs.YtfefcfjedlidnaaDoor.Ver Go.Proofs.YtfefcfjedlidnaaDoor.Oct Go.Proofs.YtfefcfjedlidnaaDoor.Dsl
set_option linter.unusedVariables false
set_option linter.unusedSimpArgs false
section
variable {ops : Array Oper} {o : Oper} {a : Act} {Q : Exit → Act → World → Prop} {w : World} {K : Act → World → Prop} {E : Prop}
/-- append onto one byte that fills its room: a new block. -/
theorem st_app1 (hg : o.guard = none) (s x : Operand) (ho : o.op = .call { callee := .builtin .append, args := #[s, x], argTypes := #[24, 24] }) {g : Nat} {xv : Value} {b : UInt8} {ys : List UInt8} (hs : a.eval s = .slice (some ⟨g, 0, none⟩) 1 1) (hx : a.eval x = xv) (hv : Rd w (.slice (some ⟨g, 0, none⟩) 1 1) [b]) (hr : Rd w xv ys) (hne : ys ≠ []) (hl : ys.length ≤ 1000)
    (h : ∀ v' w', Own w.heap.size w' v' ([b] ++ ys) → Below w.heap.size w w' → K (a.put o.dst v') w') : if Region.wanted o (yielded ops a.tmps) = true then Oper.wp Tryd.prog o a w K Q else E := by
  obtain ⟨i, hi, hz, hi1, hi2⟩ := info_parts info8
  have hyl : 0 < ys.length := List.length_pos_iff.2 hne
  obtain ⟨ad, c, rfl, hc⟩ := Row.at (sz := 1) hr (by simp [bcs_length]) (by omega) (i := 0) hyl
  obtain ⟨ad1, c1, e1, hc1⟩ := Row.at (sz := 1) hv (by simp [bcs_length]) (by omega) (i := 0) (by simp)
  injection e1 with e1 _ _
  obtain rfl := Option.some.inj e1
  obtain ⟨v', w', hrun, r1, r2⟩ := run_append_arg_grows (P := Tryd.prog) w 24 o.type 5 i (.int .u8 0) 1 1 Tryd.underlying24 hi hz hi1 hi2 rfl (by decide) ⟨g, 0, none⟩ 1 1 (bcs [b]) (by simp [bcs_length]) hc1 ad ys.length c (bcs ys) (by simp [bcs_length]) hc (by omega) (by unfold maxLen; omega) (by omega)
  refine st_run hg (v := v') (w' := w') ?_ (h v' w' ?_ ⟨r2.os, r2.tape, r2.output, r2.size, fun k hk => r2.block k (by omega) (by simp)⟩)
  · unfold execOp
    simp [ho, resolve, invoke, builtin, hs, hx, hrun, Result.andThen]
  · unfold Own
    rw [bcs_append, List.length_append]
    exact r1
end
def frR (g : Nat) (L : List Value) (u : Nat → Value) : Array Value := #[.agg L.toArray, .pointer (some ⟨g, 0, none⟩), .slice none 0 0, .int .i64 0, u 4, undef, undef, .agg L.toArray, .bool true, .bool false, u 10, u 11, u 12, u 13, u 14, u 15, u 16, u 17, u 18, undef, undef, undef, undef, undef, undef, undef, undef, undef, undef, undef, undef, undef, undef, undef, undef, undef, undef, undef, undef, undef, undef, undef, undef, undef, undef, undef, undef, undef]
def facR (g B k f : Nat) (i : Nat) (v : Value) (W : World) : Prop := match i with
  | 0 => v = .pointer (some ⟨g, 0, none⟩)
  | 1 => v = .int .i64 (k : Int)
  | 2 => v = .int .u8 (k : Int)
  | 3 => ∃ g, v = .slice (some ⟨g, 0, none⟩) 1 1 ∧ Rd W v [UInt8.ofNat k]
  | 4 => v = .pointer (some ⟨g, 1, none⟩)
  | 5 => v = .int .i64 (f : Int)
  | 6 => v = .int .u64 (f : Int)
  | 7 => Own B W v (be f 8)
  | _ => Own B W v ([UInt8.ofNat k] ++ be f 8)
theorem c10 {i : Nat} (h : i < 10) : i = 0 ∨ i = 1 ∨ i = 2 ∨ i = 3 ∨ i = 4 ∨ i = 5 ∨ i = 6 ∨ i = 7 ∨ i = 8 ∨ i = 9 := by omega
set_option maxRecDepth 100000 in
set_option maxHeartbeats 2000000 in
theorem rencode_calls (k f s : Int) (vp : Value) (ds : List (List UInt8)) (w : World) (hp : Ds w vp ds) : Calls Tryd.prog 48 #[prV k f s vp] w fun e w' => if valB k f s ds.length then ∃ v, e = .returned (.tuple #[v, .int .i64 0]) ∧ Own w.heap.size w' v (encB k.toNat f.toNat s.toNat ds) ∧ Below w.heap.size w w' else e = .returned (.tuple #[.slice none 0 0, .int .i64 2]) ∧ Below w.heap.size w w' := by
  obtain ⟨pa, pc, rfl⟩ := hp.open
  have hv := fun w => rvalid_calls k f s pa ds.length pc hp.small w
  cases hb : valB k f s ds.length with
  | false =>
    rw [hb] at hv
    have HV := Lib.hid hv
    clear hv hb hp
    simp only [Bool.false_eq_true, if_false]
    go_enter Tryd.func48, Tryd.ntmps48
    go_wp2_with (first | (((with_reducible refine gate_dst (N := 1) rfl ?_); go_loud (refine wp_box rfl _ _ rfl (v := prV k f s (.slice pa ds.length pc)) rfl ?_); intro w1 hk1 hb1 hz1); rw [pr_cells] at hk1) | (((with_reducible refine gate_dst (N := 7) rfl ?_); go_loud (refine wp_load_blk rfl 76 _ rfl aggPr sizePr rfl hk1 (rfl) ?_))) | (go_at_call 52; go_loud (refine (HV.out _).mono ?_); rintro e w2 ⟨rfl, hb2⟩))
    go_ret2
    exact ⟨rfl, hb1.trans (hb2.mono hb1.size)⟩
  | true =>
    rw [hb] at hv
    obtain ⟨v1, v2, v3, v4, v5, v6⟩ := valid_parts hb
    obtain ⟨f, rfl⟩ := Int.eq_ofNat_of_zero_le v2
    obtain ⟨s, rfl⟩ := Int.eq_ofNat_of_zero_le v4
    obtain ⟨k, rfl⟩ := Int.eq_ofNat_of_zero_le (show 0 ≤ k by omega)
    simp only [Int.toNat_natCast, if_true]
    have HV := Lib.hid hv
    have HP := Lib.hid hp
    have hfl := flat_len ds hp.2
    have HFL := Lib.hid hfl
    obtain ⟨fin, hfin⟩ : ∃ l, encB k f s ds = l := ⟨_, rfl⟩
    rw [hfin]
    have HFIN := Lib.hid hfin
    have hk3 : k < 3 := by omega
    have hn50 : ds.length ≤ 50 := v6
    have hf48 : f ≤ 281474976710656 := by omega
    have hs48 : s ≤ 281474976710656 := by omega
    clear hv hb hp v1 v2 v3 v4 v5 v6 hfl hfin
    go_enter Tryd.func48, Tryd.ntmps48
    go_wp2_with (first | (((with_reducible refine gate_dst (N := 1) rfl ?_); go_loud (refine wp_box rfl _ _ rfl (v := prV k f s (.slice pa ds.length pc)) rfl ?_); intro w1 hk1 hb1 hz1); rw [pr_cells] at hk1) | (((with_reducible refine gate_dst (N := 7) rfl ?_); go_loud (refine wp_load_blk rfl 76 _ rfl aggPr sizePr rfl hk1 (rfl) ?_))) | (go_at_call 52; go_loud (refine (HV.out _).mono ?_); rintro e w2 ⟨rfl, hb2⟩))
    have hk2 := hk1.below hb2
    have hb02 : Below w.heap.size w w2 := hb1.trans (hb2.mono hb1.size)
    have HK1 := Lib.hid hk1
    clear hk1
    refine wp_region_grow (frR w.heap.size (prL k f s (.slice pa ds.length pc))) (fun _ => undef) (facR w.heap.size w1.heap.size k f) (by kernel_rfl) (by kernel_rfl) (by kernel_rfl) ?_ ?_ ?_ ?_
    · intro i hi u v
      have h13 : i < 10 := hi
      rcases c10 h13 with rfl | rfl | rfl | rfl | rfl | rfl | rfl | rfl | rfl | rfl <;> rfl
    · intro i hi v W W' hF hb
      have h13 : i < 10 := hi
      rcases c10 h13 with rfl | rfl | rfl | rfl | rfl | rfl | rfl | rfl | rfl | rfl <;> first | exact hF | exact Rd.below hF hb | exact Own.below hF hb | exact (let ⟨g, e, h⟩ := hF; ⟨g, e, h.below hb⟩)
    · intro i o ho u W hb hdep K hK
      have h13 : i < 10 := (Array.getElem?_eq_some_iff.1 ho).1
      have hkW : Blk W w.heap.size 76 (prL k f s (.slice pa ds.length pc)) := hk2.below hb
      have hBW : w1.heap.size ≤ W.heap.size := by have := hb.size; have := hb2.size; omega
      have K0 := fun v (h : facR w.heap.size w1.heap.size k f i v W) => hK v W (Below.refl _ _) h
      rcases c10 h13 with rfl | rfl | rfl | rfl | rfl | rfl | rfl | rfl | rfl | rfl <;> obtain rfl := Option.some.inj ho
      · refine st_run rfl (v := .pointer (some ⟨w.heap.size, 0, none⟩)) (w' := W) ?_ (K0 _ rfl)
        unfold frR; go_simp
      · have hu : u 10 = .pointer (some ⟨w.heap.size, 0, none⟩) := hdep ⟨0, .data⟩ (by simp) rfl
        exact st_load1 (by rfl) 3 (.tmp 10) (by rfl) int_s2 int_s1 (by exact hu) (hkW.cell 0) (K0 _ rfl)
      · have hu : u 11 = .int .i64 (k : Int) := hdep ⟨1, .data⟩ (by simp) rfl
        refine st_run rfl (v := .int .u8 (k : Int)) (w' := W) ?_ (K0 _ rfl)
        unfold frR
        have hw : IntKind.u8.wrap (k : Int) = (k : Int) := by rw [IntKind.wrap_u8]; omega
        go_simp
      · have hu : u 12 = .int .u8 (k : Int) := hdep ⟨2, .data⟩ (by simp) rfl
        have e8 : u8c (UInt8.ofNat k) = .int .u8 (k : Int) := by
          simp only [u8c, UInt8.toNat_ofNat']
          congr 1
          omega
        have hn := Rd.one W (UInt8.ofNat k) 5
        rw [e8] at hn
        refine st_run rfl (v := .slice (some ⟨W.heap.size, 0, none⟩) 1 1) (w' := W.alloc (.cells #[.int .u8 (k : Int)] 5)) ?_ (hK _ _ ((Below.refl _ _).alloc (Nat.le_refl _) _) ⟨_, rfl, hn⟩)
        unfold frR
        first | (go_simp; done) | (go_simp; rfl)
      · refine st_run rfl (v := .pointer (some ⟨w.heap.size, 1, none⟩)) (w' := W) ?_ (K0 _ rfl)
        unfold frR; go_simp
      · have hu : u 14 = .pointer (some ⟨w.heap.size, 1, none⟩) := hdep ⟨4, .data⟩ (by simp) rfl
        exact st_load1 (by rfl) 3 (.tmp 14) (by rfl) int_s2 int_s1 (by exact hu) (hkW.cell 1) (K0 _ rfl)
      · have hu : u 15 = .int .i64 (f : Int) := hdep ⟨5, .data⟩ (by simp) rfl
        refine st_run rfl (v := .int .u64 (f : Int)) (w' := W) ?_ (K0 _ rfl)
        unfold frR
        have hw : IntKind.u64.wrap (f : Int) = (f : Int) := IntWalk.u64_in _ (by omega)
        go_simp
      · have hu : u 16 = .int .u64 (f : Int) := hdep ⟨6, .data⟩ (by simp) rfl
        have hc := number_calls f 8 W (by omega) (by omega)
        rw [← hu] at hc
        have HC := Lib.hid hc
        clear hc hu hdep K0 ho
        refine st_want (a := { tmps := frR w.heap.size (prL k f s (.slice pa ds.length pc)) u, defers := [] }) rfl ?_
        unfold frR
        go_simp
        refine HC.out.mono ?_
        rintro e w' ⟨v', rfl, hown, hb'⟩
        exact hK v' w' hb' (hown.mono hBW)
      · obtain ⟨g3, hu3, hr3⟩ : ∃ g, u 13 = .slice (some ⟨g, 0, none⟩) 1 1 ∧ Rd W (u 13) [UInt8.ofNat k] := hdep ⟨3, .data⟩ (by simp) rfl
        have hu7 : Own w1.heap.size W (u 17) (be f 8) := hdep ⟨7, .data⟩ (by simp) rfl
        rw [hu3] at hr3
        have hl8 := be_length f 8
        exact st_app1 (by rfl) (.tmp 13) (.tmp 17) (by rfl) (g := g3) (b := UInt8.ofNat k) (by exact hu3) (by rfl) hr3 hu7.rd (by intro e; rw [e] at hl8; cases hl8) (by omega) (fun v' w' h1 h2 => hK v' w' h2 (h1.mono hBW))
      · have hu3 : Own w1.heap.size W (u 18) ([UInt8.ofNat k] ++ be f 8) := hdep ⟨8, .data⟩ (by simp) rfl
        refine st_run rfl (v := u 18) (w' := W) ?_ (K0 _ hu3)
        clear hdep K0 hK ho hu3
        unfold frR; go_simp
    · intro u W hb hV
      have hown : Own w1.heap.size W (u 4) ([UInt8.ofNat k] ++ be f 8) := hV 9 (by decide)
      have hbW : Below w.heap.size w W := hb02.trans (hb.mono hb02.size)
      have hkW : Blk W w.heap.size 76 (prL k f s (.slice pa ds.length pc)) := hk2.below hb
      have HKW := Lib.hid hkW
      have hW1 : w1.heap.size ≤ W.heap.size := by have := hb.size; have := hb2.size; omega
      have hb1W : Below w1.heap.size w1 W := hb2.trans (hb.mono hb2.size)
      have hu64 : IntKind.u64.wrap (s : Int) = (s : Int) := IntWalk.u64_in _ (by omega)
      have c2 : W.cell? ⟨w.heap.size, 2, none⟩ = some (.int .i64 (s : Int)) := hkW.cell 2
      have HNS := Lib.hid (fun w => number_calls s 8 w (by omega) (by omega))
      clear hV hkW hk2
      unfold frR
      have e8 : u8c (UInt8.ofNat ds.length) = .int .u8 (ds.length : Int) := by
        simp only [u8c, UInt8.toNat_ofNat']
        congr 1
        omega
      have hw8 : IntKind.u8.wrap (ds.length : Int) = (ds.length : Int) := by rw [IntKind.wrap_u8]; omega
      have H8 := Lib.hid e8
      clear e8
      go_wp2_with (first | (go_at_call 84; go_loud (refine (HNS.out _).mono ?_); rintro e w3 ⟨vn, rfl, hn3, hb3⟩; go_loud (have hown3 := hown.below hb3)) | (((with_reducible refine gate_dst (N := 24) rfl ?_); go_loud (refine wp_appB rfl (.tmp 19) (.tmp 23) rfl hown3 rfl hn3.rd rfl (by simp [be_length]) (by (have := hb3.size; omega)) ?_); intro v4 w4 hown4 hg4); go_loud (have hkW4 : Blk w4 w.heap.size 76 (prL k f s (.slice pa ds.length pc)) := (HKW.out.below hb3).grown hg4 (fun e => by have := (World.ownsRow.lt hown3 w.heap.size e.symm).1; omega)); go_loud (have c4 : w4.cell? ⟨w.heap.size, 3, none⟩ = some (.slice pa ds.length pc) := hkW4.cell 3); go_loud (have hn4 := Rd.one w4 (UInt8.ofNat ds.length) 5); go_loud (rw [H8.out] at hn4); go_loud (have hown4' := hown4.alloc (.cells #[.int .u8 (ds.length : Int)] 5)); go_loud (have hz4 := hg4.size); go_loud (have hz3 := hb3.size)) | (((with_reducible refine gate_dst (N := 31) rfl ?_); go_loud (refine wp_appB rfl (.tmp 25) (.tmp 30) rfl hown4' rfl hn4 rfl (by simp [be_length]) (by simp; omega) ?_); intro v5 w5 hown5 hg5)))
      have hb4 : Below w1.heap.size w1 w4 := (hb1W.trans (hb3.mono hW1)).grown hg4 (by omega) (fun r e => (World.ownsRow.lt hown3 r e).1)
      have hb5 : Below w1.heap.size w1 w5 := (hb4.alloc (by omega) _).grown hg5 (by simp; omega) (fun r e => (World.ownsRow.lt hown4' r e).1)
      have hb05 : Below w.heap.size w w5 := hb1.trans (hb5.mono hb1.size)
      have HP5 := Lib.hid (show Ds w5 (.slice pa ds.length pc) ds from HP.out.below hb05)
      have hl5 : ((([UInt8.ofNat k] ++ be f 8) ++ be s 8) ++ [UInt8.ofNat ds.length]).length = 18 := encH_len k f s ds.length
      have hfin2 : ((([UInt8.ofNat k] ++ be f 8) ++ be s 8) ++ [UInt8.ofNat ds.length]) ++ ds.flatten = fin := HFIN.out
      generalize (([UInt8.ofNat k] ++ be f 8) ++ be s 8) ++ [UInt8.ofNat ds.length] = L at hown5 hl5 hfin2
      have HF2 := Lib.hid hfin2
      have HL5 := Lib.hid hl5
      clear hfin2 hl5 c4 c2 hn4 hown4' hg4 hg5 hkW4 hown hown3 hn3 hown4 hb hbW hb02 hu64 hw8
      go_loopw [4, 5, 6] (fun v x _ wr => ∃ j : Nat, x = .int .i64 (j : Int) ∧ j ≤ ds.length ∧ Own w1.heap.size wr v (L ++ (ds.take j).flatten) ∧ Below w1.heap.size w1 wr ∧ Hid (Ds wr (.slice pa ds.length pc) ds)) (fun _ x _ _ => ds.length - (intOf x).toNat)
      case atStart => exact ⟨0, rfl, by omega, by simpa using hown5, hb5, HP5⟩
      case round =>
        obtain ⟨j, rfl, hj, hown, hb, HPr⟩ := hrel
        have hbr : Below w.heap.size w wr := hb1.trans (hb.mono hb1.size)
        have hzr := hb.size
        have c3 : wr.cell? ⟨w.heap.size, 3, none⟩ = some (.slice pa ds.length pc) := (HK1.out.below hb).cell 3
        by_cases hlt : j < ds.length
        · have h32 : (ds[j]).length = 32 := HPr.out.2 _ (List.getElem_mem hlt)
          have hst := flat_step L ds j hlt
          have htl := flat_len (ds.take j) (take32 HPr.out.2 j)
          rw [List.length_take, Nat.min_eq_left hj] at htl
          have hlen : (L ++ (ds.take j).flatten).length ≤ 2000 := by rw [List.length_append, HL5.out, htl]; omega
          obtain ⟨dj, hdj⟩ : ∃ d, ds[j] = d := ⟨_, rfl⟩
          rw [hdj] at h32 hst
          have HST := Lib.hid hst
          have H32 := Lib.hid h32
          have HDJ := Lib.hid hdj
          obtain ⟨acc, hacc⟩ : ∃ l, L ++ (ds.take j).flatten = l := ⟨_, rfl⟩
          rw [hacc] at hown HST hlen
          clear hst h32 hdj hacc htl
          go_wp2_with (first | ((with_reducible refine gate_dst (N := 42) rfl ?_); go_loud (refine wp_getD rfl (fun _ => rfl) _ _ 42 rfl rfl rfl HPr.out j rfl rfl (fun _ => rfl) hlt ?_); intro p; rw [HDJ.out]) | (((with_reducible refine gate_dst (N := 6) rfl ?_); go_loud (refine wp_alloc rfl _ rfl zeroD ?_); intro w6 hk6 hb6 hz6)) | (((with_reducible refine gate_store (t := 28) (p := 6) rfl ?_); go_loud (refine wp_store_blk rfl 28 _ _ rfl rfl sizeD rfl hk6 (dz_cells) (v := dg dj) rfl (dg_size H32.out) (dg_one _) ?_); intro w7 hk7 hg7); go_loud (have hk7' : Blk w7 wr.heap.size 28 (bcs dj) := by simpa [Value.cells] using hk7); go_loud (have hrd7 : Rd w7 (.slice (some ⟨wr.heap.size, 0, none⟩) 32 32) dj := Rd.of_blk hk7' 32 H32.out (by unfold maxLen; omega)); go_loud (have hown7 := (hown.below hb6).kept hg7 (.inr (fun e => by have := (World.ownsRow.lt hown _ e).2; omega))); go_loud (have hz7 := hg7.size); go_loud (have hz6' := hb6.size)) | (((with_reducible refine gate_dst (N := 46) rfl ?_); go_loud (refine wp_appB rfl (.tmp 44) (.tmp 45) rfl hown7 rfl hrd7 rfl (by rw [H32.out]; omega) (by omega) ?_); intro v8 w8 hown8 hg8)))
          have hb8 : Below w1.heap.size w1 w8 := ((hb.trans (hb6.mono hb.size)).grown hg7 (by omega) (fun r e => by injection e with e; omega)).grown hg8 (by omega) (fun r e => (World.ownsRow.lt hown7 r e).1)
          have hp8 : Hid (Ds w8 (.slice pa ds.length pc) ds) := HP.out.below (hb1.trans (hb8.mono hb1.size))
          rw [HST.out] at hown8
          go_roundw
          case rel => exact ⟨j + 1, by go_num, by omega, hown8, hb8, hp8⟩
          case measure => simp [intOf]; omega
        · obtain rfl : j = ds.length := by omega
          rw [List.take_length, HF2.out] at hown
          have hres := hown.mono (show w.heap.size ≤ w1.heap.size by omega)
          go_wp2_with fail
          go_ret2
          exact ⟨_, rfl, hres, hbr⟩
end Go.Proofs.YtfefcfjedlidnaaDoor.Wir
