/- Several texts in one: Wtr; Open; OpenD. -/
import Derived.Test.YtojenflknjhmkaaDoorWch
import Derived.Test.YtojenflknjhmkaaDoorJoinWireTreeA
import Derived.Test.YtojenflknjhmkaaDoorByt
import Derived.ProofKit
import Derived.OpenShut
import Derived.SizedLaws
import Derived.Lib.SmallJoins
import Derived.Deep.Slices
import Derived.ShutString
import Derived.Test.YtojenflknjhmkaaDoorDsl
section
namespace Go.Proofs.YtojenflknjhmkaaDoor.Wch
open Go Go.RowKit Go.Proofs.YtojenflknjhmkaaDoor Go.Proofs.YtojenflknjhmkaaDoor.Cop Go.Proofs.YtojenflknjhmkaaDoor.Ver Go.Proofs.YtojenflknjhmkaaDoor.Tre Go.Proofs.YtojenflknjhmkaaDoor.Oct Go.Proofs.YtojenflknjhmkaaDoor.Dsl Go.Proofs.YtojenflknjhmkaaDoor.Sha Go.Proofs.YtojenflknjhmkaaDoor.Vfy Go.Proofs.YtojenflknjhmkaaDoor.TreP Go.Proofs.YtojenflknjhmkaaDoor.Wir
set_option linter.unusedVariables false
set_option linter.unusedSimpArgs false
theorem en18_wt : Eng.Entr Tryd.prog 18 := ⟨_, Tryd.func18, by kernel_rfl, by kernel_rfl⟩
theorem en19_wt : Eng.Entr Tryd.prog 19 := ⟨_, Tryd.func19, by kernel_rfl, by kernel_rfl⟩
theorem en20_wt : Eng.Entr Tryd.prog 20 := ⟨_, Tryd.func20, by kernel_rfl, by kernel_rfl⟩
theorem sz24_wt : (Tryd.prog.info? 24).map (fun i => i.size) = some 32 := by kernel_rfl
theorem en21_wt : Eng.Entr Tryd.prog 21 := ⟨_, Tryd.func21, by kernel_rfl, by kernel_rfl⟩
theorem zr24_wt (w : World) : (zeroValue 24).run Tryd.prog w = .ok (dg Oct.dz) w := by kernel_rfl
theorem ag24_wt (w : World) : (isAgg 24).run Tryd.prog w = .ok true w := by kernel_rfl
theorem sz5_wt : (Tryd.prog.info? 5).map (fun i => i.size) = some 1 := by kernel_rfl
theorem ag5_wt (w : World) : (isAgg 5).run Tryd.prog w = .ok false w := by kernel_rfl
theorem en14_wt : Eng.Entr Tryd.prog 14 := ⟨_, Tryd.func14, by kernel_rfl, by kernel_rfl⟩
theorem en16_wt : Eng.Entr Tryd.prog 16 := ⟨_, Tryd.func16, by kernel_rfl, by kernel_rfl⟩
theorem bldPr (k f s : Int) (v : Value) (hv : v.cells = #[v]) (w : World) : (Instr.build 35 #[(0, .int .i64 k), (1, .int .i64 f), (2, .int .i64 s), (3, v)]).run Tryd.prog w = .ok (.agg #[.int .i64 k, .int .i64 f, .int .i64 s, v]) w := by
  refine run_build _ _ _ _ ?_
  have e : ∀ x y z u : Value, Tryd.prog.built 35 [(0, x), (1, y), (2, z), (3, u)] = Instr.fill (#[(0, 1), (1, 1), (2, 1), (3, 1)][·]?) #[.int .i64 0, .int .i64 0, .int .i64 0, .slice none 0 0] [(0, x), (1, y), (2, z), (3, u)] := by intro x y z u; kernel_rfl
  show Tryd.prog.built 35 [(0, .int .i64 k), (1, .int .i64 f), (2, .int .i64 s), (3, v)] = _
  rw [e, Eng.fill_step (cells' := #[.int .i64 k, .int .i64 0, .int .i64 0, .slice none 0 0]) rfl (cs := [.int .i64 k]) rfl rfl (Nat.le_of_ble_eq_true rfl) rfl, Eng.fill_step (cells' := #[.int .i64 k, .int .i64 f, .int .i64 0, .slice none 0 0]) rfl (cs := [.int .i64 f]) rfl rfl (Nat.le_of_ble_eq_true rfl) rfl, Eng.fill_step (cells' := #[.int .i64 k, .int .i64 f, .int .i64 s, .slice none 0 0]) rfl (cs := [.int .i64 s]) rfl rfl (Nat.le_of_ble_eq_true rfl) rfl, Eng.fill_step (cells' := #[.int .i64 k, .int .i64 f, .int .i64 s, v]) rfl (cs := [v]) (by rw [hv]) rfl (Nat.le_of_ble_eq_true rfl) rfl]
  rfl
theorem enc_ok (k f s : Nat) (vp : Value) (ds : List (List UInt8)) (w : World) (hp : Ds w vp ds) (hv : valB k f s ds.length = true) : Calls Tryd.prog 20 #[.agg #[.int .i64 (k : Int), .int .i64 (f : Int), .int .i64 (s : Int), vp]] w fun e w' => ∃ v, e = .returned (.tuple #[v, .int .i64 0]) ∧ Oct.Own w.heap.size w' v (encB k f s ds) ∧ Below w.heap.size w w' := by
  refine (encode_calls k f s vp ds w hp).mono fun e w' h => ?_
  rw [if_pos hv] at h
  exact h
theorem tmod_bd (a b : Int) (hb : 0 < b) : -b < a.tmod b ∧ a.tmod b < b := by
  obtain ⟨n, rfl⟩ : ∃ n : Nat, b = (n : Int) := ⟨b.toNat, by omega⟩
  rcases Int.lt_or_le a 0 with h | h
  · obtain ⟨m, rfl⟩ : ∃ m : Nat, a = -(m : Int) := ⟨(-a).toNat, by omega⟩
    rw [Int.neg_tmod]
    have e : (m : Int).tmod (n : Int) = ((m % n : Nat) : Int) := rfl
    have := Nat.mod_lt m (show 0 < n by omega)
    rw [e]; omega
  · obtain ⟨m, rfl⟩ : ∃ m : Nat, a = (m : Int) := ⟨a.toNat, by omega⟩
    have e : (m : Int).tmod (n : Int) = ((m % n : Nat) : Int) := rfl
    have := Nat.mod_lt m (show 0 < n by omega)
    rw [e]; omega
theorem tmod_nn (a b : Int) (ha : 0 ≤ a) (hb : 0 < b) : 0 ≤ a.tmod b ∧ a.tmod b < b := by
  obtain ⟨n, rfl⟩ : ∃ n : Nat, b = (n : Int) := ⟨b.toNat, by omega⟩
  obtain ⟨m, rfl⟩ : ∃ m : Nat, a = (m : Int) := ⟨a.toNat, by omega⟩
  have e : (m : Int).tmod (n : Int) = ((m % n : Nat) : Int) := rfl
  have := Nat.mod_lt m (show 0 < n by omega)
  rw [e]; omega
section
variable {ds : List (List UInt8)} {i n : Nat}
theorem p_val (h32 : All32 ds) (hm : ds.length ≤ 281474976710656) (hn : n ≤ ds.length) (hi : i < n) : valB (1 : Nat) i n (path (ds.take n) i).length = true := by
  have hl : (ds.take n).length = n := by rw [List.length_take]; omega
  obtain ⟨h1, h2, _⟩ := path_all n (ds.take n) i (by omega) (by omega) (all32_take h32 _)
  have hr : rightB (i : Int) (n : Int) = true := rightB_iff.2 (by omega)
  unfold valB cntN
  simp only [Int.natCast_one, if_true, hr, beq_iff_eq]
  rw [h2, hl]; rfl
theorem q_val (h32 : All32 ds) (hm : ds.length ≤ 281474976710656) (hn : n ≤ ds.length) (hi : i < n) : valB (2 : Nat) (i + 1 : Nat) n (consL (ds.take n) (i + 1) true).length = true := by
  have hl : (ds.take n).length = n := by rw [List.length_take]; omega
  obtain ⟨h1, h2, _⟩ := cons_all n (ds.take n) (i + 1) true (by omega) (by omega) (all32_take h32 _) (by omega) (by omega)
  have hr : ordB ((i + 1 : Nat) : Int) (n : Int) = true := ordB_iff.2 (by omega)
  unfold valB cntN
  rw [show ((2 : Nat) : Int) = 2 from rfl, if_neg (by decide), if_pos rfl, if_pos hr]
  simp only [beq_iff_eq]
  rw [h2, hl, Bool.true_and]; rfl
theorem chk_A (h32 : All32 ds) (hm : ds.length ≤ 281474976710656) (hn : n ≤ ds.length) (hi : i < n) (y : List UInt8) : chk1 (encB 1 i n (path (ds.take n) i)) (ds.getD i []) y = if R (ds.take n) = y then 0 else 71 := by
  have hl : (ds.take n).length = n := by rw [List.length_take]; omega
  obtain ⟨h1, h2, h3⟩ := path_all n (ds.take n) i (by omega) (by omega) (all32_take h32 _)
  obtain ⟨d1, d2, d3, d4, d5, d6⟩ := dec_enc 1 i n _ h1 (p_val h32 hm hn hi)
  have hr : rightB (i : Int) (n : Int) = true := rightB_iff.2 (by omega)
  have hE : rootE (i : Int) (n : Int) (path (ds.take n) i).length = 0 := by
    unfold rootE; rw [if_pos hr, if_pos]; rw [h2, hl]; rfl
  have hg : ds.getD i [] = (ds.take n).getD i [] := by rw [List.getD_eq_getElem?_getD, List.getD_eq_getElem?_getD, List.getElem?_take, if_pos hi]
  unfold chk1
  rw [if_pos d1, d2, if_pos rfl, d3, d4, d5, d6, hE]
  unfold inclE rootD
  rw [if_pos rfl, if_pos hE, Int.toNat_natCast, Int.toNat_natCast, hg]
  rw [hl] at h3
  rw [h3 (by omega)]
theorem chk_B (h32 : All32 ds) (hm : ds.length ≤ 281474976710656) (hn : n ≤ ds.length) (hi : i < n) : chk2 (encB 2 (i + 1) n (consL (ds.take n) (i + 1) true)) (R (ds.take (i + 1))) (R (ds.take n)) = 0 := by
  have hl : (ds.take n).length = n := by rw [List.length_take]; omega
  obtain ⟨h1, h2, h3⟩ := cons_all n (ds.take n) (i + 1) true (by omega) (by omega) (all32_take h32 _) (by omega) (by omega)
  obtain ⟨d1, d2, d3, d4, d5, d6⟩ := dec_enc 2 (i + 1) n _ h1 (q_val h32 hm hn hi)
  have hr : ordB ((i + 1 : Nat) : Int) (n : Int) = true := ordB_iff.2 (by omega)
  have hE : rootsE ((i + 1 : Nat) : Int) (n : Int) (consL (ds.take n) (i + 1) true).length = 0 := by
    unfold rootsE; rw [if_pos hr, if_pos]; rw [h2, hl, Bool.true_and]; rfl
  have ht : (ds.take n).take (i + 1) = ds.take (i + 1) := by rw [List.take_take, Nat.min_eq_left (by omega)]
  unfold chk2
  rw [if_pos d1, d2, if_pos rfl, d3, d4, d5, d6, hE]
  unfold consE rootsD
  rw [if_pos rfl, if_pos hE, Int.toNat_natCast, Int.toNat_natCast]
  rw [hl, Bool.true_and, ht] at h3
  rw [h3 _ (fun _ => rfl), if_pos ⟨rfl, rfl⟩]
theorem chk_D (h32 : All32 ds) (hm : ds.length ≤ 281474976710656) (hn : n ≤ ds.length) (hi : i < n) (x y : List UInt8) : chk1 (encB 2 (i + 1) n (consL (ds.take n) (i + 1) true)) x y = 2 := by
  have hl : (ds.take n).length = n := by rw [List.length_take]; omega
  obtain ⟨h1, h2, h3⟩ := cons_all n (ds.take n) (i + 1) true (by omega) (by omega) (all32_take h32 _) (by omega) (by omega)
  obtain ⟨d1, d2, _⟩ := dec_enc 2 (i + 1) n _ h1 (q_val h32 hm hn hi)
  unfold chk1
  rw [if_pos d1, d2, if_neg (by decide)]
theorem chk_E (h32 : All32 ds) (hm : ds.length ≤ 281474976710656) (hn : n ≤ ds.length) (hi : i < n) (x y : List UInt8) : chk2 (encB 1 i n (path (ds.take n) i)) x y = 2 := by
  have hl : (ds.take n).length = n := by rw [List.length_take]; omega
  obtain ⟨h1, h2, h3⟩ := path_all n (ds.take n) i (by omega) (by omega) (all32_take h32 _)
  obtain ⟨d1, d2, _⟩ := dec_enc 1 i n _ h1 (p_val h32 hm hn hi)
  unfold chk2
  rw [if_pos d1, d2, if_neg (by decide)]
end
theorem p_32 {ds : List (List UInt8)} (h32 : All32 ds) (hm : ds.length ≤ 281474976710656) (n i : Nat) : All32 (path (ds.take n) i) := (path_all _ (ds.take n) i (Nat.le_refl _) (by rw [List.length_take]; omega) (all32_take h32 _)).1
theorem enc_len (k f s : Nat) {ds : List (List UInt8)} (h : All32 ds) : (encB k f s ds).length = 18 + ds.length * 32 := by unfold encB; rw [List.length_append, encH_len, Wir.flat_len ds h]
theorem u8_inc (b : UInt8) : IntKind.u8.wrap ((b.toNat : Int) + 1) = ((b + 1).toNat : Int) := by
  have h := UInt8.toNat_add b 1
  have h1 : (1 : UInt8).toNat = 1 := rfl
  have hb := UInt8.toNat_lt b
  rw [h, h1]
  by_cases hc : b.toNat = 255
  · rw [hc]; rfl
  · rw [Nat.mod_eq_of_lt (by omega)]
    exact Eng.wu8 (by omega)
theorem inc_ne {d : List UInt8} (h : d.length = 32) : d ≠ d.set 3 (d.getD 3 0 + 1) := by
  intro e
  have h3 : d[3]? = (d.set 3 (d.getD 3 0 + 1))[3]? := by rw [← e]
  rw [List.getElem?_set_self (by omega), List.getElem?_eq_getElem (by omega), List.getD_eq_getElem?_getD, List.getElem?_eq_getElem (by omega)] at h3
  have h4 : d[3] = d[3] + 1 := Option.some.inj h3
  have h5 := congrArg UInt8.toNat h4
  rw [UInt8.toNat_add] at h5
  have := UInt8.toNat_lt d[3]
  have h1 : (1 : UInt8).toNat = 1 := rfl
  omega
theorem blk_byte {w : World} {g : Nat} {t : TypeId} {d : List UInt8} (h : Blk w g t (bcs d)) {j : Nat} (hj : j < d.length) : w.cell? ⟨g, j, none⟩ = some (.int .u8 ((d.getD j 0).toNat : Int)) := by
  rw [h.cell]; unfold bcs
  rw [List.getElem?_map, List.getD_eq_getElem?_getD, List.getElem?_eq_getElem hj]; rfl
theorem bcs_set (d : List UInt8) (j : Nat) (b : UInt8) : (bcs d).set j (.int .u8 (b.toNat : Int)) = bcs (d.set j b) := by unfold bcs; rw [List.map_set]
set_option maxRecDepth 100000 in
set_option maxHeartbeats 4000000 in
theorem law_0 (v : Value) (ds : List (List UInt8)) (a0 n0 : Int) (w : World) (h : Ds w v ds) (hm : ds.length ≤ 281474976710656) (ha : -9223372036854775808 ≤ a0 ∧ a0 ≤ 9223372036854775807) (hn0 : -9223372036854775808 ≤ n0 ∧ n0 ≤ 9223372036854775807) (hK : Kon w) (h0 : ds.length = 0) : Calls Tryd.prog 4 #[v, (.int .i64 a0), (.int .i64 n0)] w (fun e w' => e = .returned (.bool true) ∧ Below w.heap.size w w') := by
  have hsm := h.1.small
  refine Eng.enter (l := [v, (.int .i64 a0), (.int .i64 n0)]) Tryd.func4 rfl 134 rfl (by simp) ?_
  refine Eng.seqk fun K1 hK1 => ?_
  refine Eng.reg ?_
  refine Eng.sv rfl rfl (Eng.x_as (v := (.bool false)) rfl rfl) ?_
  refine Eng.nil ?_
  refine hK1 _ _ ?_
  refine Eng.seqk fun K2 hK2 => ?_
  refine Eng.seqk fun K3 hK3 => ?_
  refine Eng.reg ?_
  refine Eng.sv rfl rfl (Eng.x_mv (v := v) rfl rfl) ?_
  refine Eng.sv rfl rfl (Eng.x_len (v := v) (r := (ds.length : Int)) rfl Tryd.underlying29 rfl (h).1 rfl) ?_
  refine Eng.sv rfl rfl (Eng.x_eq (r := true) rfl rfl rfl (Eng.eq_t (by omega))) ?_
  refine Eng.nil ?_
  refine hK3 _ _ ?_
  refine Eng.cond_t rfl ?_
  refine Eng.seqk fun K4 hK4 => ?_
  refine Eng.reg ?_
  refine Eng.sv rfl rfl (Eng.x_as (v := (.bool true)) rfl rfl) ?_
  refine Eng.nil ?_
  refine hK4 _ _ ?_
  refine Eng.rt ?_
  refine Eng.tr ?_
  refine Eng.ret (Eng.res1 (v1 := (.bool true)) rfl (Eng.rdt rfl)) ?_
  exact ⟨rfl, (Below.refl _ _)⟩
set_option maxRecDepth 100000 in
set_option maxHeartbeats 4000000 in
theorem law_1 (v : Value) (ds : List (List UInt8)) (a0 n0 : Int) (w : World) (h : Ds w v ds) (hm : ds.length ≤ 281474976710656) (ha : -9223372036854775808 ≤ a0 ∧ a0 ≤ 9223372036854775807) (hn0 : -9223372036854775808 ≤ n0 ∧ n0 ≤ 9223372036854775807) (hK : Kon w) (h0 : 0 < ds.length) : Calls Tryd.prog 4 #[v, (.int .i64 a0), (.int .i64 n0)] w (fun e w' => e = .returned (.bool true) ∧ Below w.heap.size w w') := by
  have hsm := h.1.small
  have t1 := tmod_bd n0 (ds.length : Int) (by omega)
  have t2 := tmod_nn (n0.tmod (ds.length : Int) + (ds.length : Int)) (ds.length : Int) (by omega) (by omega)
  obtain ⟨N_, hN⟩ : ∃ N_ : Nat, (N_ : Int) = 1 + (n0.tmod (ds.length : Int) + (ds.length : Int)).tmod (ds.length : Int) := ⟨(1 + (n0.tmod (ds.length : Int) + (ds.length : Int)).tmod (ds.length : Int)).toNat, by omega⟩
  have t3 := tmod_bd a0 (N_ : Int) (by omega)
  have t4 := tmod_nn (a0.tmod (N_ : Int) + (N_ : Int)) (N_ : Int) (by omega) (by omega)
  obtain ⟨I_, hI⟩ : ∃ I_ : Nat, (I_ : Int) = (a0.tmod (N_ : Int) + (N_ : Int)).tmod (N_ : Int) := ⟨((a0.tmod (N_ : Int) + (N_ : Int)).tmod (N_ : Int)).toNat, by omega⟩
  have hNl : N_ ≤ ds.length := by omega
  have hIn : I_ < N_ := by omega
  have hRn : (R (ds.take N_)).length = 32 := R_len _ (all32_take h.2 _) (by rw [List.length_take]; omega)
  have hvp := p_val h.2 hm hNl hIn
  have hvq := q_val h.2 hm hNl hIn
  have hp32 := p_32 h.2 hm N_ I_
  have hq32 : All32 (consL (ds.take N_) (I_ + 1) true) := (conslen (all32_take h.2 N_) (by rw [List.length_take]; omega) (by omega) (by rw [List.length_take]; omega) true).1
  have hlp : (encB 1 I_ N_ (path (ds.take N_) I_)).length ≤ 140737488354304 := by rw [enc_len 1 I_ N_ hp32]; have := (pathlen (all32_take h.2 N_) (by rw [List.length_take]; omega) I_).2; omega
  have hlq : (encB 2 (I_ + 1) N_ (consL (ds.take N_) (I_ + 1) true)).length ≤ 140737488354304 := by rw [enc_len 2 (I_ + 1) N_ hq32]; have := (conslen (all32_take h.2 N_) (by rw [List.length_take]; omega) (m := I_ + 1) (by omega) (by rw [List.length_take]; omega) true).2; omega
  refine Eng.enter (l := [v, (.int .i64 a0), (.int .i64 n0)]) Tryd.func4 rfl 134 rfl (by simp) ?_
  refine Eng.seqk fun K1 hK1 => ?_
  refine Eng.reg ?_
  refine Eng.sv rfl rfl (Eng.x_as (v := (.bool false)) rfl rfl) ?_
  refine Eng.nil ?_
  refine hK1 _ _ ?_
  refine Eng.seqk fun K2 hK2 => ?_
  refine Eng.seqk fun K3 hK3 => ?_
  refine Eng.reg ?_
  refine Eng.sv rfl rfl (Eng.x_mv (v := v) rfl rfl) ?_
  refine Eng.sv rfl rfl (Eng.x_len (v := v) (r := (ds.length : Int)) rfl Tryd.underlying29 rfl (h).1 rfl) ?_
  refine Eng.sv rfl rfl (Eng.x_eq (r := false) rfl rfl rfl (Eng.eq_f (by omega))) ?_
  refine Eng.nil ?_
  refine hK3 _ _ ?_
  refine Eng.cond_f rfl ?_
  refine Eng.skp ?_
  refine hK2 _ _ ?_
  refine Eng.seqk fun K4 hK4 => ?_
  refine Eng.reg ?_
  refine Eng.sv rfl rfl (Eng.x_mv (v := (.int .i64 n0)) rfl rfl) ?_
  refine Eng.sv rfl rfl (Eng.x_mv (v := v) rfl rfl) ?_
  refine Eng.sv rfl rfl (Eng.x_len (v := v) (r := (ds.length : Int)) rfl Tryd.underlying29 rfl (h).1 rfl) ?_
  refine Eng.sv rfl rfl (Eng.x_rem rfl rfl rfl (by omega) (r := (n0.tmod (ds.length : Int))) (rfl)) ?_
  refine Eng.sv rfl rfl (Eng.x_mv (v := v) rfl rfl) ?_
  refine Eng.sv rfl rfl (Eng.x_len (v := v) (r := (ds.length : Int)) rfl Tryd.underlying29 rfl (h).1 rfl) ?_
  refine Eng.sv rfl rfl (Eng.x_add rfl rfl rfl (Eng.w64 (r := ((n0.tmod (ds.length : Int)) + (ds.length : Int))) (by omega))) ?_
  refine Eng.sv rfl rfl (Eng.x_mv (v := v) rfl rfl) ?_
  refine Eng.sv rfl rfl (Eng.x_len (v := v) (r := (ds.length : Int)) rfl Tryd.underlying29 rfl (h).1 rfl) ?_
  refine Eng.sv rfl rfl (Eng.x_rem rfl rfl rfl (by omega) (r := ((n0.tmod (ds.length : Int) + (ds.length : Int)).tmod (ds.length : Int))) (rfl)) ?_
  refine Eng.sv rfl rfl (Eng.x_add rfl rfl rfl (Eng.w64 (r := (N_ : Int)) (by omega))) ?_
  refine Eng.sv rfl rfl (Eng.x_as (v := (.int .i64 (N_ : Int))) rfl rfl) ?_
  refine Eng.nil ?_
  refine hK4 _ _ ?_
  refine Eng.seqk fun K5 hK5 => ?_
  refine Eng.reg ?_
  refine Eng.sv rfl rfl (Eng.x_mv (v := (.int .i64 a0)) rfl rfl) ?_
  refine Eng.sv rfl rfl (Eng.x_mv (v := (.int .i64 (N_ : Int))) rfl rfl) ?_
  refine Eng.sv rfl rfl (Eng.x_rem rfl rfl rfl (by omega) (r := (a0.tmod (N_ : Int))) (rfl)) ?_
  refine Eng.sv rfl rfl (Eng.x_mv (v := (.int .i64 (N_ : Int))) rfl rfl) ?_
  refine Eng.sv rfl rfl (Eng.x_add rfl rfl rfl (Eng.w64 (r := ((a0.tmod (N_ : Int)) + (N_ : Int))) (by omega))) ?_
  refine Eng.sv rfl rfl (Eng.x_mv (v := (.int .i64 (N_ : Int))) rfl rfl) ?_
  refine Eng.sv rfl rfl (Eng.x_rem rfl rfl rfl (by omega) (r := (I_ : Int)) (hI.symm)) ?_
  refine Eng.sv rfl rfl (Eng.x_as (v := (.int .i64 (I_ : Int))) rfl rfl) ?_
  refine Eng.nil ?_
  refine hK5 _ _ ?_
  refine Eng.seqk fun K6 hK6 => ?_
  refine Eng.reg ?_
  refine Eng.sv rfl rfl (Eng.x_mv (v := v) rfl rfl) ?_
  refine Eng.sv rfl rfl (Eng.x_mv (v := (.int .i64 (I_ : Int))) rfl rfl) ?_
  refine Eng.sv rfl rfl (Eng.x_mv (v := (.int .i64 (N_ : Int))) rfl rfl) ?_
  refine Eng.sc rfl (Eng.xc (vl := [v, (.int .i64 (I_ : Int)), (.int .i64 (N_ : Int))]) rfl rfl rfl en18_wt) (tincl_calls _ ds I_ N_ _ h hm hK hNl hIn) ?_
  rintro _ w7 ⟨vp7, rfl, ho7, hb7⟩
  refine Eng.aft_v rfl ?_
  refine Eng.sv rfl rfl (Eng.x_mv (v := (.tuple #[vp7, (.int .i64 0)])) rfl rfl) ?_
  refine Eng.sv rfl rfl (Eng.x_ext (v := vp7) rfl rfl rfl) ?_
  refine Eng.sv rfl rfl (Eng.x_ext (v := (.int .i64 0)) rfl rfl rfl) ?_
  refine Eng.sv rfl rfl (Eng.x_as (v := vp7) rfl rfl) ?_
  refine Eng.sv rfl rfl (Eng.x_as (v := (.int .i64 0)) rfl rfl) ?_
  refine Eng.nil ?_
  refine hK6 _ _ ?_
  refine Eng.seqk fun K8 hK8 => ?_
  refine Eng.reg ?_
  refine Eng.sv rfl rfl (Eng.x_mv (v := v) rfl rfl) ?_
  refine Eng.sv rfl rfl (Eng.x_mv (v := (.int .i64 (I_ : Int))) rfl rfl) ?_
  refine Eng.sv rfl rfl (Eng.x_add rfl rfl rfl (Eng.w64 (r := ((I_ + 1 : Nat) : Int)) (by omega))) ?_
  refine Eng.sv rfl rfl (Eng.x_mv (v := (.int .i64 (N_ : Int))) rfl rfl) ?_
  have hr9 := (h).below hb7
  have hr10 := (hK).below hb7
  refine Eng.sc rfl (Eng.xc (vl := [v, (.int .i64 ((I_ + 1 : Nat) : Int)), (.int .i64 (N_ : Int))]) rfl rfl rfl en19_wt) (tcons_calls _ ds (I_ + 1) N_ _ hr9 hm hr10 hNl (by omega) (by omega)) ?_
  rintro _ w11 ⟨vp11, rfl, ho11, hb11⟩
  refine Eng.aft_v rfl ?_
  refine Eng.sv rfl rfl (Eng.x_mv (v := (.tuple #[vp11, (.int .i64 0)])) rfl rfl) ?_
  refine Eng.sv rfl rfl (Eng.x_ext (v := vp11) rfl rfl rfl) ?_
  refine Eng.sv rfl rfl (Eng.x_ext (v := (.int .i64 0)) rfl rfl rfl) ?_
  refine Eng.sv rfl rfl (Eng.x_as (v := vp11) rfl rfl) ?_
  refine Eng.sv rfl rfl (Eng.x_as (v := (.int .i64 0)) rfl rfl) ?_
  refine Eng.nil ?_
  refine hK8 _ _ ?_
  refine Eng.seqk fun K12 hK12 => ?_
  refine Eng.reg ?_
  refine Eng.sv rfl rfl (Eng.x_mv (v := (.int .i64 (I_ : Int))) rfl rfl) ?_
  refine Eng.sv rfl rfl (Eng.x_mv (v := (.int .i64 (N_ : Int))) rfl rfl) ?_
  refine Eng.sv rfl rfl (Eng.x_mv (v := vp7) rfl rfl) ?_
  have hr13 := (ho7).below hb11
  refine Eng.sv rfl rfl (Eng.x_build (ps := [(0, (.int .i64 1)), (1, (.int .i64 (I_ : Int))), (2, (.int .i64 (N_ : Int))), (3, vp7)]) (v := (.agg #[(.int .i64 1), (.int .i64 (I_ : Int)), (.int .i64 (N_ : Int)), vp7])) rfl rfl (bldPr 1 (I_ : Int) (N_ : Int) vp7 (Eng.Row.cells1 (hr13).row) _)) ?_
  refine Eng.sc rfl (Eng.xc (vl := [(.agg #[(.int .i64 1), (.int .i64 (I_ : Int)), (.int .i64 (N_ : Int)), vp7])]) rfl rfl rfl en20_wt) (enc_ok 1 I_ N_ _ (path (ds.take N_) I_) _ (hr13).ds hvp) ?_
  rintro _ w14 ⟨vx14, rfl, ho14, hb14⟩
  refine Eng.aft_v rfl ?_
  refine Eng.sv rfl rfl (Eng.x_mv (v := (.tuple #[vx14, (.int .i64 0)])) rfl rfl) ?_
  refine Eng.sv rfl rfl (Eng.x_ext (v := vx14) rfl rfl rfl) ?_
  refine Eng.sv rfl rfl (Eng.x_ext (v := (.int .i64 0)) rfl rfl rfl) ?_
  refine Eng.sv rfl rfl (Eng.x_as (v := vx14) rfl rfl) ?_
  refine Eng.sv rfl rfl (Eng.x_as (v := (.int .i64 0)) rfl rfl) ?_
  refine Eng.nil ?_
  refine hK12 _ _ ?_
  refine Eng.seqk fun K15 hK15 => ?_
  refine Eng.reg ?_
  refine Eng.sv rfl rfl (Eng.x_mv (v := (.int .i64 (I_ : Int))) rfl rfl) ?_
  refine Eng.sv rfl rfl (Eng.x_add rfl rfl rfl (Eng.w64 (r := ((I_ + 1 : Nat) : Int)) (by omega))) ?_
  refine Eng.sv rfl rfl (Eng.x_mv (v := (.int .i64 (N_ : Int))) rfl rfl) ?_
  refine Eng.sv rfl rfl (Eng.x_mv (v := vp11) rfl rfl) ?_
  have hr16 := (ho11).below hb14
  refine Eng.sv rfl rfl (Eng.x_build (ps := [(0, (.int .i64 2)), (1, (.int .i64 ((I_ + 1 : Nat) : Int))), (2, (.int .i64 (N_ : Int))), (3, vp11)]) (v := (.agg #[(.int .i64 2), (.int .i64 ((I_ + 1 : Nat) : Int)), (.int .i64 (N_ : Int)), vp11])) rfl rfl (bldPr 2 ((I_ + 1 : Nat) : Int) (N_ : Int) vp11 (Eng.Row.cells1 (hr16).row) _)) ?_
  refine Eng.sc rfl (Eng.xc (vl := [(.agg #[(.int .i64 2), (.int .i64 ((I_ + 1 : Nat) : Int)), (.int .i64 (N_ : Int)), vp11])]) rfl rfl rfl en20_wt) (enc_ok 2 (I_ + 1) N_ _ (consL (ds.take N_) (I_ + 1) true) _ (hr16).ds hvq) ?_
  rintro _ w17 ⟨vx17, rfl, ho17, hb17⟩
  refine Eng.aft_v rfl ?_
  refine Eng.sv rfl rfl (Eng.x_mv (v := (.tuple #[vx17, (.int .i64 0)])) rfl rfl) ?_
  refine Eng.sv rfl rfl (Eng.x_ext (v := vx17) rfl rfl rfl) ?_
  refine Eng.sv rfl rfl (Eng.x_ext (v := (.int .i64 0)) rfl rfl rfl) ?_
  refine Eng.sv rfl rfl (Eng.x_as (v := vx17) rfl rfl) ?_
  refine Eng.sv rfl rfl (Eng.x_as (v := (.int .i64 0)) rfl rfl) ?_
  refine Eng.nil ?_
  refine hK15 _ _ ?_
  refine Eng.seqk fun K18 hK18 => ?_
  have hB0_2 : Below w.heap.size w w11 := (hb7).trans (hb11.mono (hb7).size)
  have hB0_3 : Below w.heap.size w w14 := (hB0_2).trans (hb14.mono (hB0_2).size)
  have hB0_4 : Below w.heap.size w w17 := (hB0_3).trans (hb17.mono (hB0_3).size)
  have hr20 := (h).below hB0_4
  have hq21 : Dsl.Ds w (Eng.sCut v 0 (I_ + 1) 32) (ds.take (I_ + 1)) := (ds_pre h (by omega))
  have hr22 := (hq21).below hB0_4
  have hr23 := (hK).below hB0_4
  have hq24 : Dsl.Ds w (Eng.sCut v 0 N_ 32) (ds.take N_) := (ds_pre h (by omega))
  have hr25 := (hq24).below hB0_4
  refine Eng.drawP [9, 10] 11 [fun (vQ : Value) (_ : World) => vQ = v, fun (vQ : Value) (_ : World) => vQ = (.int .i64 (I_ : Int)), fun (vQ : Value) (_ : World) => vQ = (.int .i64 ((I_ + 1 : Nat) : Int)), fun (vQ : Value) (_ : World) => vQ = (Eng.sCut v 0 (I_ + 1) 32), fun (vQ : Value) (_ : World) => vQ = (dg (R (ds.take (I_ + 1)))), fun (vQ : Value) (_ : World) => vQ = v, fun (vQ : Value) (_ : World) => vQ = (.int .i64 (N_ : Int)), fun (vQ : Value) (_ : World) => vQ = (Eng.sCut v 0 N_ 32), fun (vQ : Value) (_ : World) => vQ = (dg (R (ds.take N_))), fun (v : Value) (W : World) => ∃ g, v = .pointer (some ⟨g, 0, none⟩) ∧ Blk W g 24 (bcs Oct.dz) ∧ w17.heap.size ≤ g, fun (v : Value) (W : World) => ∃ g, v = .pointer (some ⟨g, 0, none⟩) ∧ Blk W g 24 (bcs Oct.dz) ∧ w17.heap.size ≤ g] (by kernel_rfl) (by kernel_rfl) (by kernel_rfl) (by kernel_rfl) rfl rfl ?_ ?_ ?_
  · exact ⟨fun _ _ _ h _ => h, fun _ _ _ h _ => h, fun _ _ _ h _ => h, fun _ _ _ h _ => h, fun _ _ _ h _ => h, fun _ _ _ h _ => h, fun _ _ _ h _ => h, fun _ _ _ h _ => h, fun _ _ _ h _ => h, fun v W W' ⟨g, h1, h2, h3⟩ hb => ⟨g, h1, h2.below hb, h3⟩, fun v W W' ⟨g, h1, h2, h3⟩ hb => ⟨g, h1, h2.below hb, h3⟩, trivial⟩
  · refine ⟨?_, ?_, ?_, ?_, ?_, ?_, ?_, ?_, ?_, ?_, ?_, trivial⟩
    · intro u' W hbW hkp hdp K hK
      have hK := fun v_ W_ h1_ h2_ => hK v_ W_ h1_ h2_ (fun h => absurd h (by decide))
      refine Eng.dv rfl rfl ?_ (hK _ _ (Below.refl _ _) rfl)
      exact (Eng.x_mv (v := v) rfl (show Eng.opv 134 u' (.tmp 0) = v from hkp 0 rfl))
    · intro u' W hbW hkp hdp K hK
      have hK := fun v_ W_ h1_ h2_ => hK v_ W_ h1_ h2_ (fun h => absurd h (by decide))
      refine Eng.dv rfl rfl ?_ (hK _ _ (Below.refl _ _) rfl)
      exact (Eng.x_mv (v := (.int .i64 (I_ : Int))) rfl (show Eng.opv 134 u' (.tmp 7) = (.int .i64 (I_ : Int)) from hkp 7 rfl))
    · intro u' W hbW hkp hdp K hK
      have e1 : (fun (vQ : Value) (_ : World) => vQ = (.int .i64 (I_ : Int))) (u' 73) W := hdp.1
      have hK := fun v_ W_ h1_ h2_ => hK v_ W_ h1_ h2_ (fun h => absurd h (by decide))
      refine Eng.dv rfl rfl ?_ (hK _ _ (Below.refl _ _) rfl)
      exact (Eng.x_add rfl (show Eng.opv 134 u' (.tmp 73) = (.int .i64 (I_ : Int)) from e1) rfl (Eng.w64 (r := ((I_ + 1 : Nat) : Int)) (by omega)))
    · intro u' W hbW hkp hdp K hK
      have e0 : (fun (vQ : Value) (_ : World) => vQ = v) (u' 72) W := hdp.1
      have e2 : (fun (vQ : Value) (_ : World) => vQ = (.int .i64 ((I_ + 1 : Nat) : Int))) (u' 74) W := hdp.2.1
      have hK := fun v_ W_ h1_ h2_ => hK v_ W_ h1_ h2_ (fun h => absurd h (by decide))
      refine Eng.dv rfl rfl ?_ (hK _ _ (Below.refl _ _) rfl)
      exact (Eng.x_sl (v := v) rfl Tryd.underlying29 sz24_wt (show Eng.opv 134 u' (.tmp 72) = v from e0) (((hr20).below hbW)).1 0 (I_ + 1) (.inl ⟨rfl, rfl⟩) (Eng.bd (k := .i64) (show Eng.opv 134 u' (.tmp 74) = (.int .i64 ((I_ + 1 : Nat) : Int)) from e2)) (by omega) (by omega))
    · intro u' W hbW hkp hdp K hK
      have e3 : (fun (vQ : Value) (_ : World) => vQ = (Eng.sCut v 0 (I_ + 1) 32)) (u' 75) W := hdp.1
      have hK := fun v_ W_ h1_ h2_ => hK v_ W_ h1_ h2_ (fun h => absurd h (by decide))
      refine Eng.dc (vs := #[(Eng.sCut v 0 (I_ + 1) 32)]) rfl ?_ (troot_ne ((hr22).below hbW) (by rw [List.length_take]; omega) (by rw [List.length_take]; omega) ((hr23).below hbW)) ?_
      · exact Eng.xc (xs := #[(Go.Operand.tmp 75)]) (vl := [(Eng.sCut v 0 (I_ + 1) 32)]) rfl rfl (Eng.lc (show Eng.opv 134 u' (.tmp 75) = (Eng.sCut v 0 (I_ + 1) 32) from e3) rfl) en21_wt
      rintro _ W2 ⟨rfl, hb2⟩
      exact Eng.aft_v rfl (hK _ _ hb2 rfl)
    · intro u' W hbW hkp hdp K hK
      have hK := fun v_ W_ h1_ h2_ => hK v_ W_ h1_ h2_ (fun h => absurd h (by decide))
      refine Eng.dv rfl rfl ?_ (hK _ _ (Below.refl _ _) rfl)
      exact (Eng.x_mv (v := v) rfl (show Eng.opv 134 u' (.tmp 0) = v from hkp 0 rfl))
    · intro u' W hbW hkp hdp K hK
      have hK := fun v_ W_ h1_ h2_ => hK v_ W_ h1_ h2_ (fun h => absurd h (by decide))
      refine Eng.dv rfl rfl ?_ (hK _ _ (Below.refl _ _) rfl)
      exact (Eng.x_mv (v := (.int .i64 (N_ : Int))) rfl (show Eng.opv 134 u' (.tmp 2) = (.int .i64 (N_ : Int)) from hkp 2 rfl))
    · intro u' W hbW hkp hdp K hK
      have e5 : (fun (vQ : Value) (_ : World) => vQ = v) (u' 77) W := hdp.1
      have e6 : (fun (vQ : Value) (_ : World) => vQ = (.int .i64 (N_ : Int))) (u' 78) W := hdp.2.1
      have hK := fun v_ W_ h1_ h2_ => hK v_ W_ h1_ h2_ (fun h => absurd h (by decide))
      refine Eng.dv rfl rfl ?_ (hK _ _ (Below.refl _ _) rfl)
      exact (Eng.x_sl (v := v) rfl Tryd.underlying29 sz24_wt (show Eng.opv 134 u' (.tmp 77) = v from e5) (((hr20).below hbW)).1 0 N_ (.inl ⟨rfl, rfl⟩) (Eng.bd (k := .i64) (show Eng.opv 134 u' (.tmp 78) = (.int .i64 (N_ : Int)) from e6)) (by omega) (by omega))
    · intro u' W hbW hkp hdp K hK
      have e7 : (fun (vQ : Value) (_ : World) => vQ = (Eng.sCut v 0 N_ 32)) (u' 79) W := hdp.1
      have hK := fun v_ W_ h1_ h2_ => hK v_ W_ h1_ h2_ (fun h => absurd h (by decide))
      refine Eng.dc (vs := #[(Eng.sCut v 0 N_ 32)]) rfl ?_ (troot_ne ((hr25).below hbW) (by rw [List.length_take]; omega) (by rw [List.length_take]; omega) ((hr23).below hbW)) ?_
      · exact Eng.xc (xs := #[(Go.Operand.tmp 79)]) (vl := [(Eng.sCut v 0 N_ 32)]) rfl rfl (Eng.lc (show Eng.opv 134 u' (.tmp 79) = (Eng.sCut v 0 N_ 32) from e7) rfl) en21_wt
      rintro _ W2 ⟨rfl, hb2⟩
      exact Eng.aft_v rfl (hK _ _ hb2 rfl)
    · intro u' W hbW hkp hdp K hK
      exact Eng.dv rfl rfl (Eng.x_al rfl zr24_wt) (hK _ _ (Eng.below_al _ _) ⟨_, rfl, Eng.blk_al _ _ _ rfl, hbW.size⟩ (fun _ => ⟨rfl, Eng.lt_al _ _⟩))
    · intro u' W hbW hkp hdp K hK
      exact Eng.dv rfl rfl (Eng.x_al rfl zr24_wt) (hK _ _ (Eng.below_al _ _) ⟨_, rfl, Eng.blk_al _ _ _ rfl, hbW.size⟩ (fun _ => ⟨rfl, Eng.lt_al _ _⟩))
  · intro ud19 w19 hb19 hkp19 ⟨f19_0, f19_1, f19_2, f19_3, f19_4, f19_5, f19_6, f19_7, f19_8, ⟨gd19_9, f19_9, hkd19_9, hld19_9⟩, ⟨gd19_10, f19_10, hkd19_10, hld19_10⟩, _⟩ hPP19
    have hne19_10_9 : gd19_10 ≠ gd19_9 := fun e_ => hPP19 10 9 (by decide) (by decide) (by decide) (by decide) (by decide) (f19_10.trans ((congrArg (fun g_ => Value.pointer (some ⟨g_, 0, none⟩)) e_).trans f19_9.symm))
    obtain rfl := Eng.collect (l := [(72, v), (73, (.int .i64 (I_ : Int))), (74, (.int .i64 ((I_ + 1 : Nat) : Int))), (75, (Eng.sCut v 0 (I_ + 1) 32)), (76, (dg (R (ds.take (I_ + 1))))), (77, v), (78, (.int .i64 (N_ : Int))), (79, (Eng.sCut v 0 N_ 32)), (80, (dg (R (ds.take N_)))), (16, (.pointer (some ⟨gd19_9, 0, none⟩))), (17, (.pointer (some ⟨gd19_10, 0, none⟩)))]) hkp19 ⟨f19_0, f19_1, f19_2, f19_3, f19_4, f19_5, f19_6, f19_7, f19_8, f19_9, f19_10, trivial⟩ rfl
    refine Eng.stB (v := (dg (R (ds.take (I_ + 1))))) rfl rfl rfl sz24_wt rfl hkd19_9 rfl rfl (cs' := (bcs (R (ds.take (I_ + 1))))) rfl ((bcs_length _).trans (R_len _ (all32_take h.2 _) (by rw [List.length_take]; omega))) (bcs_one _) ?_
    intro w26 hk26 hg26
    have hk27 := (hkd19_10).grown hg26 (fun e => absurd (Option.some.inj e) hne19_10_9)
    refine Eng.stB (v := (dg (R (ds.take N_)))) rfl rfl rfl sz24_wt rfl hk27 rfl rfl (cs' := (bcs (R (ds.take N_)))) rfl ((bcs_length _).trans (R_len _ (all32_take h.2 _) (by rw [List.length_take]; omega))) (bcs_one _) ?_
    intro w28 hk28 hg28
    refine Eng.nil ?_
    refine hK18 _ _ ?_
    refine Eng.seqk fun K29 hK29 => ?_
    refine Eng.reg ?_
    refine Eng.sv rfl rfl (Eng.x_ldB (v := (dg (R (ds.take N_)))) rfl ag24_wt sz24_wt rfl hk28 ((bcs_length _).trans (R_len _ (all32_take h.2 _) (by rw [List.length_take]; omega))) rfl) ?_
    refine Eng.al rfl rfl rfl zr24_wt (cs := (bcs Oct.dz)) rfl ?_
    intro w30 hk30 hb30 hz30
    refine Eng.stB (v := (dg (R (ds.take N_)))) rfl rfl rfl sz24_wt rfl hk30 rfl rfl (cs' := (bcs (R (ds.take N_)))) rfl ((bcs_length _).trans (R_len _ (all32_take h.2 _) (by rw [List.length_take]; omega))) (bcs_one _) ?_
    intro w31 hk31 hg31
    refine Eng.nil ?_
    refine hK29 _ _ ?_
    refine Eng.seqk fun K32 hK32 => ?_
    refine Eng.reg ?_
    refine Eng.sv rfl rfl (Eng.x_iaA (m := 32) (j := 3) rfl Tryd.underlying24 sz5_wt rfl rfl rfl (by decide) rfl) ?_
    refine Eng.sv rfl rfl (Eng.x_ld1 (v := (.int .u8 (((R (ds.take N_)).getD 3 0).toNat : Int))) rfl ag5_wt rfl (blk_byte hk31 (by rw [hRn]; exact Nat.le_of_ble_eq_true rfl))) ?_
    refine Eng.sv rfl rfl (Eng.x_add rfl rfl rfl (u8_inc _)) ?_
    refine Eng.sv rfl rfl (Eng.x_iaA (m := 32) (j := 3) rfl Tryd.underlying24 sz5_wt rfl rfl rfl (by decide) rfl) ?_
    refine Eng.stC (v := (.int .u8 (((R (ds.take N_)).getD 3 0 + 1).toNat : Int))) rfl rfl rfl sz5_wt rfl hk31 (by rw [bcs_length, hRn]; exact Nat.le_of_ble_eq_true rfl) rfl rfl rfl (cs' := bcs ((R (ds.take N_)).set 3 ((R (ds.take N_)).getD 3 0 + 1))) (bcs_set _ 3 _) ?_
    intro w33 hk33 hg33
    refine Eng.nil ?_
    refine hK32 _ _ ?_
    refine Eng.seqk fun K34 hK34 => ?_
    refine Eng.seqk fun K35 hK35 => ?_
    refine Eng.reg ?_
    refine Eng.sv rfl rfl (Eng.x_mv (v := (.int .i64 0)) rfl rfl) ?_
    refine Eng.sv rfl rfl (Eng.x_ne (r := false) rfl rfl rfl (Eng.ne_f (by omega))) ?_
    refine Eng.sv rfl rfl (Eng.x_mv (v := (.bool false)) rfl rfl) ?_
    refine Eng.sv (Eng.gt rfl rfl rfl rfl) rfl (Eng.x_mv (v := (.int .i64 0)) rfl rfl) ?_
    refine Eng.sv (Eng.gt rfl rfl rfl rfl) rfl (Eng.x_ne (r := false) rfl rfl rfl (Eng.ne_f (by omega))) ?_
    refine Eng.sv rfl rfl (Eng.x_pick (v := (.bool false)) rfl rfl rfl rfl rfl) ?_
    refine Eng.nil ?_
    refine hK35 _ _ ?_
    refine Eng.cond_f rfl ?_
    refine Eng.skp ?_
    refine hK34 _ _ ?_
    refine Eng.seqk fun K36 hK36 => ?_
    have hB0_5 : Below w.heap.size w w19 := (hB0_4).trans (hb19.mono (hB0_4).size)
    have hB0_6 : Below w.heap.size w w26 := (hB0_5).grown hg26 (hB0_5).size (fun k e => by cases e; exact Nat.le_trans (hB0_4).size hld19_9)
    have hB0_7 : Below w.heap.size w w28 := (hB0_6).grown hg28 (hB0_6).size (fun k e => by cases e; exact Nat.le_trans (hB0_4).size hld19_10)
    have hB0_8 : Below w.heap.size w w30 := (hB0_7).trans (hb30.mono (hB0_7).size)
    have hB0_9 : Below w.heap.size w w31 := (hB0_8).grown hg31 (hB0_8).size (fun k e => by cases e; exact Nat.le_trans (hB0_7).size (Nat.le_refl _))
    have hB0_10 : Below w.heap.size w w33 := (hB0_9).grown hg33 (hB0_9).size (fun k e => by cases e; exact Nat.le_trans (hB0_7).size (Nat.le_refl _))
    have hr38 := (h).below hB0_10
    have hk39 := (((hk28).below hb30).grown hg31 (fun e => absurd (Option.some.inj e) (Nat.ne_of_lt (Nat.lt_of_lt_of_le (hkd19_10).lt (Nat.le_trans (Nat.le_trans (hg26).size (hg28).size) (Nat.le_refl _)))))).grown hg33 (fun e => absurd (Option.some.inj e) (Nat.ne_of_lt (Nat.lt_of_lt_of_le (hkd19_10).lt (Nat.le_trans (Nat.le_trans (hg26).size (hg28).size) (Nat.le_refl _)))))
    have hB3_5 : Below w14.heap.size w14 w19 := (hb17).trans (hb19.mono (hb17).size)
    have hB3_6 : Below w14.heap.size w14 w26 := (hB3_5).grown hg26 (hB3_5).size (fun k e => by cases e; exact Nat.le_trans (hb17).size hld19_9)
    have hB3_7 : Below w14.heap.size w14 w28 := (hB3_6).grown hg28 (hB3_6).size (fun k e => by cases e; exact Nat.le_trans (hb17).size hld19_10)
    have hr40 := (((((((ho14).below hb17).below hb19).kept hg26 (.inr (fun e => absurd ((World.ownsRow.lt ho14) _ e).2 (Nat.not_lt_of_le (Nat.le_trans (hb17).size hld19_9))))).kept hg28 (.inr (fun e => absurd ((World.ownsRow.lt ho14) _ e).2 (Nat.not_lt_of_le (Nat.le_trans (hb17).size hld19_10))))).below hb30).kept hg31 (.inr (fun e => absurd ((World.ownsRow.lt ho14) _ e).2 (Nat.not_lt_of_le (Nat.le_trans (hB3_7).size (Nat.le_refl _)))))).kept hg33 (.inr (fun e => absurd ((World.ownsRow.lt ho14) _ e).2 (Nat.not_lt_of_le (Nat.le_trans (hB3_7).size (Nat.le_refl _)))))
    have hr41 := (hK).below hB0_10
    have hk42 := ((((hk26).grown hg28 (fun e => absurd (Option.some.inj e) hne19_10_9.symm)).below hb30).grown hg31 (fun e => absurd (Option.some.inj e) (Nat.ne_of_lt (Nat.lt_of_lt_of_le (hkd19_9).lt (Nat.le_trans (Nat.le_trans (hg26).size (hg28).size) (Nat.le_refl _)))))).grown hg33 (fun e => absurd (Option.some.inj e) (Nat.ne_of_lt (Nat.lt_of_lt_of_le (hkd19_9).lt (Nat.le_trans (Nat.le_trans (hg26).size (hg28).size) (Nat.le_refl _)))))
    have hB4_6 : Below w17.heap.size w17 w26 := (hb19).grown hg26 (hb19).size (fun k e => by cases e; exact Nat.le_trans (Nat.le_refl _) hld19_9)
    have hB4_7 : Below w17.heap.size w17 w28 := (hB4_6).grown hg28 (hB4_6).size (fun k e => by cases e; exact Nat.le_trans (Nat.le_refl _) hld19_10)
    have hr43 := ((((((ho17).below hb19).kept hg26 (.inr (fun e => absurd ((World.ownsRow.lt ho17) _ e).2 (Nat.not_lt_of_le (Nat.le_trans (Nat.le_refl _) hld19_9))))).kept hg28 (.inr (fun e => absurd ((World.ownsRow.lt ho17) _ e).2 (Nat.not_lt_of_le (Nat.le_trans (Nat.le_refl _) hld19_10))))).below hb30).kept hg31 (.inr (fun e => absurd ((World.ownsRow.lt ho17) _ e).2 (Nat.not_lt_of_le (Nat.le_trans (hB4_7).size (Nat.le_refl _)))))).kept hg33 (.inr (fun e => absurd ((World.ownsRow.lt ho17) _ e).2 (Nat.not_lt_of_le (Nat.le_trans (hB4_7).size (Nat.le_refl _)))))
    refine Eng.draw 43 [fun (vQ : Value) (_ : World) => vQ = vx14, fun (vQ : Value) (_ : World) => vQ = v, fun (vQ : Value) (_ : World) => vQ = (.int .i64 (I_ : Int)), fun (vQ : Value) (_ : World) => vQ = (.pointer (some ((Eng.sAddr v).add (I_ * 32)))), fun (vQ : Value) (_ : World) => vQ = (dg ((ds).getD I_ [])), fun (vQ : Value) (_ : World) => vQ = (dg (R (ds.take N_))), fun (vQ : Value) (_ : World) => vQ = (.int .i64 (chk1 (encB 1 I_ N_ (path (ds.take N_) I_)) ((ds).getD I_ []) (R (ds.take N_)))), fun (vQ : Value) (_ : World) => vQ = (.bool true), fun (vQ : Value) (_ : World) => vQ = (.bool true), fun (vQ : Value) (_ : World) => vQ = vx17, fun (vQ : Value) (_ : World) => vQ = (dg (R (ds.take (I_ + 1)))), fun (vQ : Value) (_ : World) => vQ = (dg (R (ds.take N_))), fun (vQ : Value) (_ : World) => vQ = (.int .i64 (chk2 (encB 2 (I_ + 1) N_ (consL (ds.take N_) (I_ + 1) true)) (R (ds.take (I_ + 1))) (R (ds.take N_)))), fun (vQ : Value) (_ : World) => vQ = (.bool true), fun (vQ : Value) (_ : World) => vQ = (.bool true), fun (vQ : Value) (_ : World) => vQ = (.bool true), fun (vQ : Value) (_ : World) => vQ = vx14, fun (vQ : Value) (_ : World) => vQ = v, fun (vQ : Value) (_ : World) => vQ = (.int .i64 (I_ : Int)), fun (vQ : Value) (_ : World) => vQ = (.pointer (some ((Eng.sAddr v).add (I_ * 32)))), fun (vQ : Value) (_ : World) => vQ = (dg ((ds).getD I_ [])), fun (vQ : Value) (_ : World) => vQ = (dg ((R (ds.take N_)).set 3 ((R (ds.take N_)).getD 3 0 + 1))), fun (vQ : Value) (_ : World) => vQ = (.int .i64 (chk1 (encB 1 I_ N_ (path (ds.take N_) I_)) ((ds).getD I_ []) ((R (ds.take N_)).set 3 ((R (ds.take N_)).getD 3 0 + 1)))), fun (vQ : Value) (_ : World) => vQ = (.bool true), fun (vQ : Value) (_ : World) => vQ = (.bool true), fun (vQ : Value) (_ : World) => vQ = (.bool true), fun (vQ : Value) (_ : World) => vQ = vx17, fun (vQ : Value) (_ : World) => vQ = v, fun (vQ : Value) (_ : World) => vQ = (.int .i64 (I_ : Int)), fun (vQ : Value) (_ : World) => vQ = (.pointer (some ((Eng.sAddr v).add (I_ * 32)))), fun (vQ : Value) (_ : World) => vQ = (dg ((ds).getD I_ [])), fun (vQ : Value) (_ : World) => vQ = (dg (R (ds.take N_))), fun (vQ : Value) (_ : World) => vQ = (.int .i64 (chk1 (encB 2 (I_ + 1) N_ (consL (ds.take N_) (I_ + 1) true)) ((ds).getD I_ []) (R (ds.take N_)))), fun (vQ : Value) (_ : World) => vQ = (.bool true), fun (vQ : Value) (_ : World) => vQ = (.bool true), fun (vQ : Value) (_ : World) => vQ = (.bool true), fun (vQ : Value) (_ : World) => vQ = vx14, fun (vQ : Value) (_ : World) => vQ = (dg (R (ds.take (I_ + 1)))), fun (vQ : Value) (_ : World) => vQ = (dg (R (ds.take N_))), fun (vQ : Value) (_ : World) => vQ = (.int .i64 (chk2 (encB 1 I_ N_ (path (ds.take N_) I_)) (R (ds.take (I_ + 1))) (R (ds.take N_)))), fun (vQ : Value) (_ : World) => vQ = (.bool true), fun (vQ : Value) (_ : World) => vQ = (.bool true), fun (vQ : Value) (_ : World) => vQ = (.bool true)] (by kernel_rfl) (by kernel_rfl) (by kernel_rfl) (by kernel_rfl) rfl rfl ?_ ?_ ?_
    · exact ⟨fun _ _ _ h _ => h, fun _ _ _ h _ => h, fun _ _ _ h _ => h, fun _ _ _ h _ => h, fun _ _ _ h _ => h, fun _ _ _ h _ => h, fun _ _ _ h _ => h, fun _ _ _ h _ => h, fun _ _ _ h _ => h, fun _ _ _ h _ => h, fun _ _ _ h _ => h, fun _ _ _ h _ => h, fun _ _ _ h _ => h, fun _ _ _ h _ => h, fun _ _ _ h _ => h, fun _ _ _ h _ => h, fun _ _ _ h _ => h, fun _ _ _ h _ => h, fun _ _ _ h _ => h, fun _ _ _ h _ => h, fun _ _ _ h _ => h, fun _ _ _ h _ => h, fun _ _ _ h _ => h, fun _ _ _ h _ => h, fun _ _ _ h _ => h, fun _ _ _ h _ => h, fun _ _ _ h _ => h, fun _ _ _ h _ => h, fun _ _ _ h _ => h, fun _ _ _ h _ => h, fun _ _ _ h _ => h, fun _ _ _ h _ => h, fun _ _ _ h _ => h, fun _ _ _ h _ => h, fun _ _ _ h _ => h, fun _ _ _ h _ => h, fun _ _ _ h _ => h, fun _ _ _ h _ => h, fun _ _ _ h _ => h, fun _ _ _ h _ => h, fun _ _ _ h _ => h, fun _ _ _ h _ => h, fun _ _ _ h _ => h, trivial⟩
    · refine ⟨?_, ?_, ?_, ?_, ?_, ?_, ?_, ?_, ?_, ?_, ?_, ?_, ?_, ?_, ?_, ?_, ?_, ?_, ?_, ?_, ?_, ?_, ?_, ?_, ?_, ?_, ?_, ?_, ?_, ?_, ?_, ?_, ?_, ?_, ?_, ?_, ?_, ?_, ?_, ?_, ?_, ?_, ?_, trivial⟩
      · intro u' W hbW hkp hdp K hK
        refine Eng.dv rfl rfl ?_ (hK _ _ (Below.refl _ _) rfl)
        exact (Eng.x_mv (v := vx14) rfl (show Eng.opv 134 u' (.tmp 12) = vx14 from hkp 12 rfl))
      · intro u' W hbW hkp hdp K hK
        refine Eng.dv rfl rfl ?_ (hK _ _ (Below.refl _ _) rfl)
        exact (Eng.x_mv (v := v) rfl (show Eng.opv 134 u' (.tmp 0) = v from hkp 0 rfl))
      · intro u' W hbW hkp hdp K hK
        refine Eng.dv rfl rfl ?_ (hK _ _ (Below.refl _ _) rfl)
        exact (Eng.x_mv (v := (.int .i64 (I_ : Int))) rfl (show Eng.opv 134 u' (.tmp 7) = (.int .i64 (I_ : Int)) from hkp 7 rfl))
      · intro u' W hbW hkp hdp K hK
        have e1 : (fun (vQ : Value) (_ : World) => vQ = v) (u' 93) W := hdp.1
        have e2 : (fun (vQ : Value) (_ : World) => vQ = (.int .i64 (I_ : Int))) (u' 94) W := hdp.2.1
        refine Eng.dv rfl rfl ?_ (hK _ _ (Below.refl _ _) rfl)
        exact (Eng.x_ia (v := v) (j := I_) rfl Tryd.underlying29 sz24_wt (by decide) (show Eng.opv 134 u' (.tmp 93) = v from e1) (show Eng.opv 134 u' (.tmp 94) = (.int .i64 (I_ : Int)) from e2) (((hr38).below hbW)).1 (Dsl.dcs_len _ (((hr38).below hbW)).2) (by omega) (by omega))
      · intro u' W hbW hkp hdp K hK
        have e3 : (fun (vQ : Value) (_ : World) => vQ = (.pointer (some ((Eng.sAddr v).add (I_ * 32))))) (u' 95) W := hdp.1
        refine Eng.dv rfl rfl ?_ (hK _ _ (Below.refl _ _) rfl)
        exact (Eng.x_ldA (v := (dg ((ds).getD I_ []))) rfl ag24_wt sz24_wt (show Eng.opv 134 u' (.tmp 95) = (.pointer (some ((Eng.sAddr v).add (I_ * 32)))) from e3) ((bcs_length _).trans (Eng.ds_len hr38 (by omega))) (Eng.ds_at ((hr38).below hbW) (by omega)) rfl)
      · intro u' W hbW hkp hdp K hK
        refine Eng.dv rfl rfl ?_ (hK _ _ (Below.refl _ _) rfl)
        exact (Eng.x_ldB (v := (dg (R (ds.take N_)))) rfl ag24_wt sz24_wt (show Eng.opv 134 u' (.tmp 17) = (.pointer (some ⟨gd19_10, 0, none⟩)) from hkp 17 rfl) ((hk39).below hbW) ((bcs_length _).trans (R_len _ (all32_take h.2 _) (by rw [List.length_take]; omega))) rfl)
      · intro u' W hbW hkp hdp K hK
        have e0 : (fun (vQ : Value) (_ : World) => vQ = vx14) (u' 92) W := hdp.1
        have e4 : (fun (vQ : Value) (_ : World) => vQ = (dg ((ds).getD I_ []))) (u' 96) W := hdp.2.1
        have e5 : (fun (vQ : Value) (_ : World) => vQ = (dg (R (ds.take N_)))) (u' 97) W := hdp.2.2.1
        refine Eng.dc (vs := #[vx14, (dg ((ds).getD I_ [])), (dg (R (ds.take N_)))]) rfl ?_ (chk1_calls _ (encB 1 I_ N_ (path (ds.take N_) I_)) ((ds).getD I_ []) (R (ds.take N_)) _ ⟨(((hr40).below hbW)).rd, hlp⟩ (Eng.ds_len hr38 (by omega)) (R_len _ (all32_take h.2 _) (by rw [List.length_take]; omega)) ((hr41).below hbW)) ?_
        · exact Eng.xc (xs := #[(Go.Operand.tmp 92), (Go.Operand.tmp 96), (Go.Operand.tmp 97)]) (vl := [vx14, (dg ((ds).getD I_ [])), (dg (R (ds.take N_)))]) rfl rfl (Eng.lc (show Eng.opv 134 u' (.tmp 92) = vx14 from e0) (Eng.lc (show Eng.opv 134 u' (.tmp 96) = (dg ((ds).getD I_ [])) from e4) (Eng.lc (show Eng.opv 134 u' (.tmp 97) = (dg (R (ds.take N_))) from e5) rfl))) en14_wt
        rintro _ W2 ⟨rfl, hb2⟩
        exact Eng.aft_v rfl (hK _ _ hb2 rfl)
      · intro u' W hbW hkp hdp K hK
        have e6 : (fun (vQ : Value) (_ : World) => vQ = (.int .i64 (chk1 (encB 1 I_ N_ (path (ds.take N_) I_)) ((ds).getD I_ []) (R (ds.take N_))))) (u' 98) W := hdp.1
        refine Eng.dv rfl rfl ?_ (hK _ _ (Below.refl _ _) rfl)
        exact (Eng.x_eq (r := true) rfl (show Eng.opv 134 u' (.tmp 98) = (.int .i64 (chk1 (encB 1 I_ N_ (path (ds.take N_) I_)) ((ds).getD I_ []) (R (ds.take N_)))) from e6) rfl (Eng.eq_t (by rw [chk_A h.2 hm hNl hIn, if_pos rfl])))
      · intro u' W hbW hkp hdp K hK
        have e7 : (fun (vQ : Value) (_ : World) => vQ = (.bool true)) (u' 99) W := hdp.1
        refine Eng.dv rfl rfl ?_ (hK _ _ (Below.refl _ _) rfl)
        exact (Eng.x_mv (v := (.bool true)) rfl (show Eng.opv 134 u' (.tmp 99) = (.bool true) from e7))
      · intro u' W hbW hkp hdp K hK
        have e8 : (fun (vQ : Value) (_ : World) => vQ = (.bool true)) (u' 100) W := hdp.1
        refine Eng.dv (Eng.gt rfl rfl rfl (show Eng.opv 134 u' (.tmp 100) = (.bool true) from e8)) rfl ?_ (hK _ _ (Below.refl _ _) rfl)
        exact (Eng.x_mv (v := vx17) rfl (show Eng.opv 134 u' (.tmp 14) = vx17 from hkp 14 rfl))
      · intro u' W hbW hkp hdp K hK
        have e8 : (fun (vQ : Value) (_ : World) => vQ = (.bool true)) (u' 100) W := hdp.1
        refine Eng.dv (Eng.gt rfl rfl rfl (show Eng.opv 134 u' (.tmp 100) = (.bool true) from e8)) rfl ?_ (hK _ _ (Below.refl _ _) rfl)
        exact (Eng.x_ldB (v := (dg (R (ds.take (I_ + 1))))) rfl ag24_wt sz24_wt (show Eng.opv 134 u' (.tmp 16) = (.pointer (some ⟨gd19_9, 0, none⟩)) from hkp 16 rfl) ((hk42).below hbW) ((bcs_length _).trans (R_len _ (all32_take h.2 _) (by rw [List.length_take]; omega))) rfl)
      · intro u' W hbW hkp hdp K hK
        have e8 : (fun (vQ : Value) (_ : World) => vQ = (.bool true)) (u' 100) W := hdp.1
        refine Eng.dv (Eng.gt rfl rfl rfl (show Eng.opv 134 u' (.tmp 100) = (.bool true) from e8)) rfl ?_ (hK _ _ (Below.refl _ _) rfl)
        exact (Eng.x_ldB (v := (dg (R (ds.take N_)))) rfl ag24_wt sz24_wt (show Eng.opv 134 u' (.tmp 17) = (.pointer (some ⟨gd19_10, 0, none⟩)) from hkp 17 rfl) ((hk39).below hbW) ((bcs_length _).trans (R_len _ (all32_take h.2 _) (by rw [List.length_take]; omega))) rfl)
      · intro u' W hbW hkp hdp K hK
        have e8 : (fun (vQ : Value) (_ : World) => vQ = (.bool true)) (u' 100) W := hdp.2.2.2.1
        have e9 : (fun (vQ : Value) (_ : World) => vQ = vx17) (u' 101) W := hdp.1
        have e10 : (fun (vQ : Value) (_ : World) => vQ = (dg (R (ds.take (I_ + 1))))) (u' 102) W := hdp.2.1
        have e11 : (fun (vQ : Value) (_ : World) => vQ = (dg (R (ds.take N_)))) (u' 103) W := hdp.2.2.1
        refine Eng.dc (vs := #[vx17, (dg (R (ds.take (I_ + 1)))), (dg (R (ds.take N_)))]) (Eng.gt rfl rfl rfl (show Eng.opv 134 u' (.tmp 100) = (.bool true) from e8)) ?_ (chk2_calls _ (encB 2 (I_ + 1) N_ (consL (ds.take N_) (I_ + 1) true)) (R (ds.take (I_ + 1))) (R (ds.take N_)) _ ⟨(((hr43).below hbW)).rd, hlq⟩ (R_len _ (all32_take h.2 _) (by rw [List.length_take]; omega)) (R_len _ (all32_take h.2 _) (by rw [List.length_take]; omega)) ((hr41).below hbW)) ?_
        · exact Eng.xc (xs := #[(Go.Operand.tmp 101), (Go.Operand.tmp 102), (Go.Operand.tmp 103)]) (vl := [vx17, (dg (R (ds.take (I_ + 1)))), (dg (R (ds.take N_)))]) rfl rfl (Eng.lc (show Eng.opv 134 u' (.tmp 101) = vx17 from e9) (Eng.lc (show Eng.opv 134 u' (.tmp 102) = (dg (R (ds.take (I_ + 1)))) from e10) (Eng.lc (show Eng.opv 134 u' (.tmp 103) = (dg (R (ds.take N_))) from e11) rfl))) en16_wt
        rintro _ W2 ⟨rfl, hb2⟩
        exact Eng.aft_v rfl (hK _ _ hb2 rfl)
      · intro u' W hbW hkp hdp K hK
        have e8 : (fun (vQ : Value) (_ : World) => vQ = (.bool true)) (u' 100) W := hdp.2.1
        have e12 : (fun (vQ : Value) (_ : World) => vQ = (.int .i64 (chk2 (encB 2 (I_ + 1) N_ (consL (ds.take N_) (I_ + 1) true)) (R (ds.take (I_ + 1))) (R (ds.take N_))))) (u' 104) W := hdp.1
        refine Eng.dv (Eng.gt rfl rfl rfl (show Eng.opv 134 u' (.tmp 100) = (.bool true) from e8)) rfl ?_ (hK _ _ (Below.refl _ _) rfl)
        exact (Eng.x_eq (r := true) rfl (show Eng.opv 134 u' (.tmp 104) = (.int .i64 (chk2 (encB 2 (I_ + 1) N_ (consL (ds.take N_) (I_ + 1) true)) (R (ds.take (I_ + 1))) (R (ds.take N_)))) from e12) rfl (Eng.eq_t (chk_B h.2 hm hNl hIn)))
      · intro u' W hbW hkp hdp K hK
        have e8 : (fun (vQ : Value) (_ : World) => vQ = (.bool true)) (u' 100) W := hdp.1
        have e13 : (fun (vQ : Value) (_ : World) => vQ = (.bool true)) (u' 105) W := hdp.2.1
        refine Eng.dv rfl rfl ?_ (hK _ _ (Below.refl _ _) rfl)
        exact (Eng.x_pick (v := (.bool true)) rfl (show Eng.opv 134 u' (.tmp 100) = (.bool true) from e8) (show Eng.opv 134 u' (.tmp 105) = (.bool true) from e13) rfl rfl)
      · intro u' W hbW hkp hdp K hK
        have e14 : (fun (vQ : Value) (_ : World) => vQ = (.bool true)) (u' 106) W := hdp.1
        refine Eng.dv rfl rfl ?_ (hK _ _ (Below.refl _ _) rfl)
        exact (Eng.x_mv (v := (.bool true)) rfl (show Eng.opv 134 u' (.tmp 106) = (.bool true) from e14))
      · intro u' W hbW hkp hdp K hK
        have e15 : (fun (vQ : Value) (_ : World) => vQ = (.bool true)) (u' 107) W := hdp.1
        refine Eng.dv (Eng.gt rfl rfl rfl (show Eng.opv 134 u' (.tmp 107) = (.bool true) from e15)) rfl ?_ (hK _ _ (Below.refl _ _) rfl)
        exact (Eng.x_mv (v := vx14) rfl (show Eng.opv 134 u' (.tmp 12) = vx14 from hkp 12 rfl))
      · intro u' W hbW hkp hdp K hK
        have e15 : (fun (vQ : Value) (_ : World) => vQ = (.bool true)) (u' 107) W := hdp.1
        refine Eng.dv (Eng.gt rfl rfl rfl (show Eng.opv 134 u' (.tmp 107) = (.bool true) from e15)) rfl ?_ (hK _ _ (Below.refl _ _) rfl)
        exact (Eng.x_mv (v := v) rfl (show Eng.opv 134 u' (.tmp 0) = v from hkp 0 rfl))
      · intro u' W hbW hkp hdp K hK
        have e15 : (fun (vQ : Value) (_ : World) => vQ = (.bool true)) (u' 107) W := hdp.1
        refine Eng.dv (Eng.gt rfl rfl rfl (show Eng.opv 134 u' (.tmp 107) = (.bool true) from e15)) rfl ?_ (hK _ _ (Below.refl _ _) rfl)
        exact (Eng.x_mv (v := (.int .i64 (I_ : Int))) rfl (show Eng.opv 134 u' (.tmp 7) = (.int .i64 (I_ : Int)) from hkp 7 rfl))
      · intro u' W hbW hkp hdp K hK
        have e15 : (fun (vQ : Value) (_ : World) => vQ = (.bool true)) (u' 107) W := hdp.2.2.1
        have e17 : (fun (vQ : Value) (_ : World) => vQ = v) (u' 109) W := hdp.1
        have e18 : (fun (vQ : Value) (_ : World) => vQ = (.int .i64 (I_ : Int))) (u' 110) W := hdp.2.1
        refine Eng.dv (Eng.gt rfl rfl rfl (show Eng.opv 134 u' (.tmp 107) = (.bool true) from e15)) rfl ?_ (hK _ _ (Below.refl _ _) rfl)
        exact (Eng.x_ia (v := v) (j := I_) rfl Tryd.underlying29 sz24_wt (by decide) (show Eng.opv 134 u' (.tmp 109) = v from e17) (show Eng.opv 134 u' (.tmp 110) = (.int .i64 (I_ : Int)) from e18) (((hr38).below hbW)).1 (Dsl.dcs_len _ (((hr38).below hbW)).2) (by omega) (by omega))
      · intro u' W hbW hkp hdp K hK
        have e15 : (fun (vQ : Value) (_ : World) => vQ = (.bool true)) (u' 107) W := hdp.2.1
        have e19 : (fun (vQ : Value) (_ : World) => vQ = (.pointer (some ((Eng.sAddr v).add (I_ * 32))))) (u' 111) W := hdp.1
        refine Eng.dv (Eng.gt rfl rfl rfl (show Eng.opv 134 u' (.tmp 107) = (.bool true) from e15)) rfl ?_ (hK _ _ (Below.refl _ _) rfl)
        exact (Eng.x_ldA (v := (dg ((ds).getD I_ []))) rfl ag24_wt sz24_wt (show Eng.opv 134 u' (.tmp 111) = (.pointer (some ((Eng.sAddr v).add (I_ * 32)))) from e19) ((bcs_length _).trans (Eng.ds_len hr38 (by omega))) (Eng.ds_at ((hr38).below hbW) (by omega)) rfl)
      · intro u' W hbW hkp hdp K hK
        have e15 : (fun (vQ : Value) (_ : World) => vQ = (.bool true)) (u' 107) W := hdp.1
        refine Eng.dv (Eng.gt rfl rfl rfl (show Eng.opv 134 u' (.tmp 107) = (.bool true) from e15)) rfl ?_ (hK _ _ (Below.refl _ _) rfl)
        exact (Eng.x_ldB (v := (dg ((R (ds.take N_)).set 3 ((R (ds.take N_)).getD 3 0 + 1)))) rfl ag24_wt sz24_wt (show Eng.opv 134 u' (.tmp 18) = (.pointer (some ⟨w28.heap.size, 0, none⟩)) from hkp 18 rfl) ((hk33).below hbW) ((bcs_length _).trans (by rw [List.length_set]; exact hRn)) rfl)
      · intro u' W hbW hkp hdp K hK
        have e15 : (fun (vQ : Value) (_ : World) => vQ = (.bool true)) (u' 107) W := hdp.2.2.2.1
        have e16 : (fun (vQ : Value) (_ : World) => vQ = vx14) (u' 108) W := hdp.1
        have e20 : (fun (vQ : Value) (_ : World) => vQ = (dg ((ds).getD I_ []))) (u' 112) W := hdp.2.1
        have e21 : (fun (vQ : Value) (_ : World) => vQ = (dg ((R (ds.take N_)).set 3 ((R (ds.take N_)).getD 3 0 + 1)))) (u' 113) W := hdp.2.2.1
        refine Eng.dc (vs := #[vx14, (dg ((ds).getD I_ [])), (dg ((R (ds.take N_)).set 3 ((R (ds.take N_)).getD 3 0 + 1)))]) (Eng.gt rfl rfl rfl (show Eng.opv 134 u' (.tmp 107) = (.bool true) from e15)) ?_ (chk1_calls _ (encB 1 I_ N_ (path (ds.take N_) I_)) ((ds).getD I_ []) ((R (ds.take N_)).set 3 ((R (ds.take N_)).getD 3 0 + 1)) _ ⟨(((hr40).below hbW)).rd, hlp⟩ (Eng.ds_len hr38 (by omega)) (by rw [List.length_set]; exact hRn) ((hr41).below hbW)) ?_
        · exact Eng.xc (xs := #[(Go.Operand.tmp 108), (Go.Operand.tmp 112), (Go.Operand.tmp 113)]) (vl := [vx14, (dg ((ds).getD I_ [])), (dg ((R (ds.take N_)).set 3 ((R (ds.take N_)).getD 3 0 + 1)))]) rfl rfl (Eng.lc (show Eng.opv 134 u' (.tmp 108) = vx14 from e16) (Eng.lc (show Eng.opv 134 u' (.tmp 112) = (dg ((ds).getD I_ [])) from e20) (Eng.lc (show Eng.opv 134 u' (.tmp 113) = (dg ((R (ds.take N_)).set 3 ((R (ds.take N_)).getD 3 0 + 1))) from e21) rfl))) en14_wt
        rintro _ W2 ⟨rfl, hb2⟩
        exact Eng.aft_v rfl (hK _ _ hb2 rfl)
      · intro u' W hbW hkp hdp K hK
        have e15 : (fun (vQ : Value) (_ : World) => vQ = (.bool true)) (u' 107) W := hdp.2.1
        have e22 : (fun (vQ : Value) (_ : World) => vQ = (.int .i64 (chk1 (encB 1 I_ N_ (path (ds.take N_) I_)) ((ds).getD I_ []) ((R (ds.take N_)).set 3 ((R (ds.take N_)).getD 3 0 + 1))))) (u' 114) W := hdp.1
        refine Eng.dv (Eng.gt rfl rfl rfl (show Eng.opv 134 u' (.tmp 107) = (.bool true) from e15)) rfl ?_ (hK _ _ (Below.refl _ _) rfl)
        exact (Eng.x_eq (r := true) rfl (show Eng.opv 134 u' (.tmp 114) = (.int .i64 (chk1 (encB 1 I_ N_ (path (ds.take N_) I_)) ((ds).getD I_ []) ((R (ds.take N_)).set 3 ((R (ds.take N_)).getD 3 0 + 1)))) from e22) rfl (Eng.eq_t (by rw [chk_A h.2 hm hNl hIn, if_neg (inc_ne hRn)])))
      · intro u' W hbW hkp hdp K hK
        have e15 : (fun (vQ : Value) (_ : World) => vQ = (.bool true)) (u' 107) W := hdp.1
        have e23 : (fun (vQ : Value) (_ : World) => vQ = (.bool true)) (u' 115) W := hdp.2.1
        refine Eng.dv rfl rfl ?_ (hK _ _ (Below.refl _ _) rfl)
        exact (Eng.x_pick (v := (.bool true)) rfl (show Eng.opv 134 u' (.tmp 107) = (.bool true) from e15) (show Eng.opv 134 u' (.tmp 115) = (.bool true) from e23) rfl rfl)
      · intro u' W hbW hkp hdp K hK
        have e24 : (fun (vQ : Value) (_ : World) => vQ = (.bool true)) (u' 116) W := hdp.1
        refine Eng.dv rfl rfl ?_ (hK _ _ (Below.refl _ _) rfl)
        exact (Eng.x_mv (v := (.bool true)) rfl (show Eng.opv 134 u' (.tmp 116) = (.bool true) from e24))
      · intro u' W hbW hkp hdp K hK
        have e25 : (fun (vQ : Value) (_ : World) => vQ = (.bool true)) (u' 117) W := hdp.1
        refine Eng.dv (Eng.gt rfl rfl rfl (show Eng.opv 134 u' (.tmp 117) = (.bool true) from e25)) rfl ?_ (hK _ _ (Below.refl _ _) rfl)
        exact (Eng.x_mv (v := vx17) rfl (show Eng.opv 134 u' (.tmp 14) = vx17 from hkp 14 rfl))
      · intro u' W hbW hkp hdp K hK
        have e25 : (fun (vQ : Value) (_ : World) => vQ = (.bool true)) (u' 117) W := hdp.1
        refine Eng.dv (Eng.gt rfl rfl rfl (show Eng.opv 134 u' (.tmp 117) = (.bool true) from e25)) rfl ?_ (hK _ _ (Below.refl _ _) rfl)
        exact (Eng.x_mv (v := v) rfl (show Eng.opv 134 u' (.tmp 0) = v from hkp 0 rfl))
      · intro u' W hbW hkp hdp K hK
        have e25 : (fun (vQ : Value) (_ : World) => vQ = (.bool true)) (u' 117) W := hdp.1
        refine Eng.dv (Eng.gt rfl rfl rfl (show Eng.opv 134 u' (.tmp 117) = (.bool true) from e25)) rfl ?_ (hK _ _ (Below.refl _ _) rfl)
        exact (Eng.x_mv (v := (.int .i64 (I_ : Int))) rfl (show Eng.opv 134 u' (.tmp 7) = (.int .i64 (I_ : Int)) from hkp 7 rfl))
      · intro u' W hbW hkp hdp K hK
        have e25 : (fun (vQ : Value) (_ : World) => vQ = (.bool true)) (u' 117) W := hdp.2.2.1
        have e27 : (fun (vQ : Value) (_ : World) => vQ = v) (u' 119) W := hdp.1
        have e28 : (fun (vQ : Value) (_ : World) => vQ = (.int .i64 (I_ : Int))) (u' 120) W := hdp.2.1
        refine Eng.dv (Eng.gt rfl rfl rfl (show Eng.opv 134 u' (.tmp 117) = (.bool true) from e25)) rfl ?_ (hK _ _ (Below.refl _ _) rfl)
        exact (Eng.x_ia (v := v) (j := I_) rfl Tryd.underlying29 sz24_wt (by decide) (show Eng.opv 134 u' (.tmp 119) = v from e27) (show Eng.opv 134 u' (.tmp 120) = (.int .i64 (I_ : Int)) from e28) (((hr38).below hbW)).1 (Dsl.dcs_len _ (((hr38).below hbW)).2) (by omega) (by omega))
      · intro u' W hbW hkp hdp K hK
        have e25 : (fun (vQ : Value) (_ : World) => vQ = (.bool true)) (u' 117) W := hdp.2.1
        have e29 : (fun (vQ : Value) (_ : World) => vQ = (.pointer (some ((Eng.sAddr v).add (I_ * 32))))) (u' 121) W := hdp.1
        refine Eng.dv (Eng.gt rfl rfl rfl (show Eng.opv 134 u' (.tmp 117) = (.bool true) from e25)) rfl ?_ (hK _ _ (Below.refl _ _) rfl)
        exact (Eng.x_ldA (v := (dg ((ds).getD I_ []))) rfl ag24_wt sz24_wt (show Eng.opv 134 u' (.tmp 121) = (.pointer (some ((Eng.sAddr v).add (I_ * 32)))) from e29) ((bcs_length _).trans (Eng.ds_len hr38 (by omega))) (Eng.ds_at ((hr38).below hbW) (by omega)) rfl)
      · intro u' W hbW hkp hdp K hK
        have e25 : (fun (vQ : Value) (_ : World) => vQ = (.bool true)) (u' 117) W := hdp.1
        refine Eng.dv (Eng.gt rfl rfl rfl (show Eng.opv 134 u' (.tmp 117) = (.bool true) from e25)) rfl ?_ (hK _ _ (Below.refl _ _) rfl)
        exact (Eng.x_ldB (v := (dg (R (ds.take N_)))) rfl ag24_wt sz24_wt (show Eng.opv 134 u' (.tmp 17) = (.pointer (some ⟨gd19_10, 0, none⟩)) from hkp 17 rfl) ((hk39).below hbW) ((bcs_length _).trans (R_len _ (all32_take h.2 _) (by rw [List.length_take]; omega))) rfl)
      · intro u' W hbW hkp hdp K hK
        have e25 : (fun (vQ : Value) (_ : World) => vQ = (.bool true)) (u' 117) W := hdp.2.2.2.1
        have e26 : (fun (vQ : Value) (_ : World) => vQ = vx17) (u' 118) W := hdp.1
        have e30 : (fun (vQ : Value) (_ : World) => vQ = (dg ((ds).getD I_ []))) (u' 122) W := hdp.2.1
        have e31 : (fun (vQ : Value) (_ : World) => vQ = (dg (R (ds.take N_)))) (u' 123) W := hdp.2.2.1
        refine Eng.dc (vs := #[vx17, (dg ((ds).getD I_ [])), (dg (R (ds.take N_)))]) (Eng.gt rfl rfl rfl (show Eng.opv 134 u' (.tmp 117) = (.bool true) from e25)) ?_ (chk1_calls _ (encB 2 (I_ + 1) N_ (consL (ds.take N_) (I_ + 1) true)) ((ds).getD I_ []) (R (ds.take N_)) _ ⟨(((hr43).below hbW)).rd, hlq⟩ (Eng.ds_len hr38 (by omega)) (R_len _ (all32_take h.2 _) (by rw [List.length_take]; omega)) ((hr41).below hbW)) ?_
        · exact Eng.xc (xs := #[(Go.Operand.tmp 118), (Go.Operand.tmp 122), (Go.Operand.tmp 123)]) (vl := [vx17, (dg ((ds).getD I_ [])), (dg (R (ds.take N_)))]) rfl rfl (Eng.lc (show Eng.opv 134 u' (.tmp 118) = vx17 from e26) (Eng.lc (show Eng.opv 134 u' (.tmp 122) = (dg ((ds).getD I_ [])) from e30) (Eng.lc (show Eng.opv 134 u' (.tmp 123) = (dg (R (ds.take N_))) from e31) rfl))) en14_wt
        rintro _ W2 ⟨rfl, hb2⟩
        exact Eng.aft_v rfl (hK _ _ hb2 rfl)
      · intro u' W hbW hkp hdp K hK
        have e25 : (fun (vQ : Value) (_ : World) => vQ = (.bool true)) (u' 117) W := hdp.2.1
        have e32 : (fun (vQ : Value) (_ : World) => vQ = (.int .i64 (chk1 (encB 2 (I_ + 1) N_ (consL (ds.take N_) (I_ + 1) true)) ((ds).getD I_ []) (R (ds.take N_))))) (u' 124) W := hdp.1
        refine Eng.dv (Eng.gt rfl rfl rfl (show Eng.opv 134 u' (.tmp 117) = (.bool true) from e25)) rfl ?_ (hK _ _ (Below.refl _ _) rfl)
        exact (Eng.x_eq (r := true) rfl (show Eng.opv 134 u' (.tmp 124) = (.int .i64 (chk1 (encB 2 (I_ + 1) N_ (consL (ds.take N_) (I_ + 1) true)) ((ds).getD I_ []) (R (ds.take N_)))) from e32) rfl (Eng.eq_t (chk_D h.2 hm hNl hIn _ _)))
      · intro u' W hbW hkp hdp K hK
        have e25 : (fun (vQ : Value) (_ : World) => vQ = (.bool true)) (u' 117) W := hdp.1
        have e33 : (fun (vQ : Value) (_ : World) => vQ = (.bool true)) (u' 125) W := hdp.2.1
        refine Eng.dv rfl rfl ?_ (hK _ _ (Below.refl _ _) rfl)
        exact (Eng.x_pick (v := (.bool true)) rfl (show Eng.opv 134 u' (.tmp 117) = (.bool true) from e25) (show Eng.opv 134 u' (.tmp 125) = (.bool true) from e33) rfl rfl)
      · intro u' W hbW hkp hdp K hK
        have e34 : (fun (vQ : Value) (_ : World) => vQ = (.bool true)) (u' 126) W := hdp.1
        refine Eng.dv rfl rfl ?_ (hK _ _ (Below.refl _ _) rfl)
        exact (Eng.x_mv (v := (.bool true)) rfl (show Eng.opv 134 u' (.tmp 126) = (.bool true) from e34))
      · intro u' W hbW hkp hdp K hK
        have e35 : (fun (vQ : Value) (_ : World) => vQ = (.bool true)) (u' 127) W := hdp.1
        refine Eng.dv (Eng.gt rfl rfl rfl (show Eng.opv 134 u' (.tmp 127) = (.bool true) from e35)) rfl ?_ (hK _ _ (Below.refl _ _) rfl)
        exact (Eng.x_mv (v := vx14) rfl (show Eng.opv 134 u' (.tmp 12) = vx14 from hkp 12 rfl))
      · intro u' W hbW hkp hdp K hK
        have e35 : (fun (vQ : Value) (_ : World) => vQ = (.bool true)) (u' 127) W := hdp.1
        refine Eng.dv (Eng.gt rfl rfl rfl (show Eng.opv 134 u' (.tmp 127) = (.bool true) from e35)) rfl ?_ (hK _ _ (Below.refl _ _) rfl)
        exact (Eng.x_ldB (v := (dg (R (ds.take (I_ + 1))))) rfl ag24_wt sz24_wt (show Eng.opv 134 u' (.tmp 16) = (.pointer (some ⟨gd19_9, 0, none⟩)) from hkp 16 rfl) ((hk42).below hbW) ((bcs_length _).trans (R_len _ (all32_take h.2 _) (by rw [List.length_take]; omega))) rfl)
      · intro u' W hbW hkp hdp K hK
        have e35 : (fun (vQ : Value) (_ : World) => vQ = (.bool true)) (u' 127) W := hdp.1
        refine Eng.dv (Eng.gt rfl rfl rfl (show Eng.opv 134 u' (.tmp 127) = (.bool true) from e35)) rfl ?_ (hK _ _ (Below.refl _ _) rfl)
        exact (Eng.x_ldB (v := (dg (R (ds.take N_)))) rfl ag24_wt sz24_wt (show Eng.opv 134 u' (.tmp 17) = (.pointer (some ⟨gd19_10, 0, none⟩)) from hkp 17 rfl) ((hk39).below hbW) ((bcs_length _).trans (R_len _ (all32_take h.2 _) (by rw [List.length_take]; omega))) rfl)
      · intro u' W hbW hkp hdp K hK
        have e35 : (fun (vQ : Value) (_ : World) => vQ = (.bool true)) (u' 127) W := hdp.2.2.2.1
        have e36 : (fun (vQ : Value) (_ : World) => vQ = vx14) (u' 128) W := hdp.1
        have e37 : (fun (vQ : Value) (_ : World) => vQ = (dg (R (ds.take (I_ + 1))))) (u' 129) W := hdp.2.1
        have e38 : (fun (vQ : Value) (_ : World) => vQ = (dg (R (ds.take N_)))) (u' 130) W := hdp.2.2.1
        refine Eng.dc (vs := #[vx14, (dg (R (ds.take (I_ + 1)))), (dg (R (ds.take N_)))]) (Eng.gt rfl rfl rfl (show Eng.opv 134 u' (.tmp 127) = (.bool true) from e35)) ?_ (chk2_calls _ (encB 1 I_ N_ (path (ds.take N_) I_)) (R (ds.take (I_ + 1))) (R (ds.take N_)) _ ⟨(((hr40).below hbW)).rd, hlp⟩ (R_len _ (all32_take h.2 _) (by rw [List.length_take]; omega)) (R_len _ (all32_take h.2 _) (by rw [List.length_take]; omega)) ((hr41).below hbW)) ?_
        · exact Eng.xc (xs := #[(Go.Operand.tmp 128), (Go.Operand.tmp 129), (Go.Operand.tmp 130)]) (vl := [vx14, (dg (R (ds.take (I_ + 1)))), (dg (R (ds.take N_)))]) rfl rfl (Eng.lc (show Eng.opv 134 u' (.tmp 128) = vx14 from e36) (Eng.lc (show Eng.opv 134 u' (.tmp 129) = (dg (R (ds.take (I_ + 1)))) from e37) (Eng.lc (show Eng.opv 134 u' (.tmp 130) = (dg (R (ds.take N_))) from e38) rfl))) en16_wt
        rintro _ W2 ⟨rfl, hb2⟩
        exact Eng.aft_v rfl (hK _ _ hb2 rfl)
      · intro u' W hbW hkp hdp K hK
        have e35 : (fun (vQ : Value) (_ : World) => vQ = (.bool true)) (u' 127) W := hdp.2.1
        have e39 : (fun (vQ : Value) (_ : World) => vQ = (.int .i64 (chk2 (encB 1 I_ N_ (path (ds.take N_) I_)) (R (ds.take (I_ + 1))) (R (ds.take N_))))) (u' 131) W := hdp.1
        refine Eng.dv (Eng.gt rfl rfl rfl (show Eng.opv 134 u' (.tmp 127) = (.bool true) from e35)) rfl ?_ (hK _ _ (Below.refl _ _) rfl)
        exact (Eng.x_eq (r := true) rfl (show Eng.opv 134 u' (.tmp 131) = (.int .i64 (chk2 (encB 1 I_ N_ (path (ds.take N_) I_)) (R (ds.take (I_ + 1))) (R (ds.take N_)))) from e39) rfl (Eng.eq_t (chk_E h.2 hm hNl hIn _ _)))
      · intro u' W hbW hkp hdp K hK
        have e35 : (fun (vQ : Value) (_ : World) => vQ = (.bool true)) (u' 127) W := hdp.1
        have e40 : (fun (vQ : Value) (_ : World) => vQ = (.bool true)) (u' 132) W := hdp.2.1
        refine Eng.dv rfl rfl ?_ (hK _ _ (Below.refl _ _) rfl)
        exact (Eng.x_pick (v := (.bool true)) rfl (show Eng.opv 134 u' (.tmp 127) = (.bool true) from e35) (show Eng.opv 134 u' (.tmp 132) = (.bool true) from e40) rfl rfl)
      · intro u' W hbW hkp hdp K hK
        have e41 : (fun (vQ : Value) (_ : World) => vQ = (.bool true)) (u' 133) W := hdp.1
        refine Eng.dv rfl rfl ?_ (hK _ _ (Below.refl _ _) rfl)
        exact (Eng.x_as (v := (.bool true)) rfl (show Eng.opv 134 u' (.tmp 133) = (.bool true) from e41))
    · intro ud37 w37 hb37 hkp37 ⟨f37_0, f37_1, f37_2, f37_3, f37_4, f37_5, f37_6, f37_7, f37_8, f37_9, f37_10, f37_11, f37_12, f37_13, f37_14, f37_15, f37_16, f37_17, f37_18, f37_19, f37_20, f37_21, f37_22, f37_23, f37_24, f37_25, f37_26, f37_27, f37_28, f37_29, f37_30, f37_31, f37_32, f37_33, f37_34, f37_35, f37_36, f37_37, f37_38, f37_39, f37_40, f37_41, f37_42, _⟩
      obtain rfl := Eng.collect (l := [(92, vx14), (93, v), (94, (.int .i64 (I_ : Int))), (95, (.pointer (some ((Eng.sAddr v).add (I_ * 32))))), (96, (dg ((ds).getD I_ []))), (97, (dg (R (ds.take N_)))), (98, (.int .i64 (chk1 (encB 1 I_ N_ (path (ds.take N_) I_)) ((ds).getD I_ []) (R (ds.take N_))))), (99, (.bool true)), (100, (.bool true)), (101, vx17), (102, (dg (R (ds.take (I_ + 1))))), (103, (dg (R (ds.take N_)))), (104, (.int .i64 (chk2 (encB 2 (I_ + 1) N_ (consL (ds.take N_) (I_ + 1) true)) (R (ds.take (I_ + 1))) (R (ds.take N_))))), (105, (.bool true)), (106, (.bool true)), (107, (.bool true)), (108, vx14), (109, v), (110, (.int .i64 (I_ : Int))), (111, (.pointer (some ((Eng.sAddr v).add (I_ * 32))))), (112, (dg ((ds).getD I_ []))), (113, (dg ((R (ds.take N_)).set 3 ((R (ds.take N_)).getD 3 0 + 1)))), (114, (.int .i64 (chk1 (encB 1 I_ N_ (path (ds.take N_) I_)) ((ds).getD I_ []) ((R (ds.take N_)).set 3 ((R (ds.take N_)).getD 3 0 + 1))))), (115, (.bool true)), (116, (.bool true)), (117, (.bool true)), (118, vx17), (119, v), (120, (.int .i64 (I_ : Int))), (121, (.pointer (some ((Eng.sAddr v).add (I_ * 32))))), (122, (dg ((ds).getD I_ []))), (123, (dg (R (ds.take N_)))), (124, (.int .i64 (chk1 (encB 2 (I_ + 1) N_ (consL (ds.take N_) (I_ + 1) true)) ((ds).getD I_ []) (R (ds.take N_))))), (125, (.bool true)), (126, (.bool true)), (127, (.bool true)), (128, vx14), (129, (dg (R (ds.take (I_ + 1))))), (130, (dg (R (ds.take N_)))), (131, (.int .i64 (chk2 (encB 1 I_ N_ (path (ds.take N_) I_)) (R (ds.take (I_ + 1))) (R (ds.take N_))))), (132, (.bool true)), (133, (.bool true)), (6, (.bool true))]) hkp37 ⟨f37_0, f37_1, f37_2, f37_3, f37_4, f37_5, f37_6, f37_7, f37_8, f37_9, f37_10, f37_11, f37_12, f37_13, f37_14, f37_15, f37_16, f37_17, f37_18, f37_19, f37_20, f37_21, f37_22, f37_23, f37_24, f37_25, f37_26, f37_27, f37_28, f37_29, f37_30, f37_31, f37_32, f37_33, f37_34, f37_35, f37_36, f37_37, f37_38, f37_39, f37_40, f37_41, f37_42, trivial⟩ rfl
      refine Eng.nil ?_
      refine hK36 _ _ ?_
      refine Eng.rt ?_
      refine Eng.ret (Eng.res1 (v1 := (.bool true)) rfl (Eng.rdt rfl)) ?_
      have hB0_11 : Below w.heap.size w w37 := (hB0_10).trans (hb37.mono (hB0_10).size)
      exact ⟨rfl, hB0_11⟩
theorem tree_law (v : Value) (ds : List (List UInt8)) (a0 n0 : Int) (w : World) (h : Ds w v ds) (hm : ds.length ≤ 281474976710656) (ha : -9223372036854775808 ≤ a0 ∧ a0 ≤ 9223372036854775807) (hn0 : -9223372036854775808 ≤ n0 ∧ n0 ≤ 9223372036854775807) (hK : Kon w) : Calls Tryd.prog 4 #[v, .int .i64 a0, .int .i64 n0] w (fun e w' => e = .returned (.bool true) ∧ Below w.heap.size w w') := by
  rcases Nat.eq_zero_or_pos ds.length with h0 | h0
  · exact law_0 v ds a0 n0 w h hm ha hn0 hK h0
  · exact law_1 v ds a0 n0 w h hm ha hn0 hK h0
end Go.Proofs.YtojenflknjhmkaaDoor.Wch
end

section
namespace Go.Proofs.YtojenflknjhmkaaDoor.Opn
open Go Go.RowKit Go.Proofs.YtojenflknjhmkaaDoor.Cop Go.ChangeShapes Go.WideShapes Go.ChangeAt
open Go.ChangeMaps (open_string shut_string)
set_option linter.unusedVariables false
set_option linter.unusedSimpArgs false

theorem own : ownKnob Tryd.prog.godebug = none := by kernel_rfl
theorem laidOut : laidOutB Tryd.prog = true := by kernel_rfl

section
variable {H : Type} {enc : TypeId × Value → H} {W : World}

theorem wf_int {k : IntKind} {n : Int} (h : (Lit.int k n).wf = true) : k.min ≤ n ∧ n ≤ k.max := by
  simpa [Lit.wf] using h
theorem wf_i64 {n : Int} (h : (Lit.int .i64 n).wf = true) : -9223372036854775808 ≤ n ∧ n ≤ 9223372036854775807 := by
  have := wf_int h; simpa [IntKind.min, IntKind.max, IntKind.signed, IntKind.bits] using this
theorem wf_u64 {n : Int} (h : (Lit.int .u64 n).wf = true) : ∃ x : Nat, n = (x : Int) ∧ x < 18446744073709551616 := by
  have := wf_int h
  simp only [IntKind.min, IntKind.max, IntKind.signed, IntKind.bits] at this
  simp at this
  obtain ⟨x, rfl⟩ := Int.eq_ofNat_of_zero_le this.1
  exact ⟨x, rfl, by omega⟩
theorem wf_u32 {n : Int} (h : (Lit.int .u32 n).wf = true) : ∃ x : Nat, n = (x : Int) ∧ x < 4294967296 := by
  have := wf_int h
  simp only [IntKind.min, IntKind.max, IntKind.signed, IntKind.bits] at this
  simp at this
  obtain ⟨x, rfl⟩ := Int.eq_ofNat_of_zero_le this.1
  exact ⟨x, rfl, by omega⟩
theorem wf_u8 {n : Int} (h : (Lit.int .u8 n).wf = true) : ∃ x : UInt8, n = (x.toNat : Int) := by
  have := wf_int h
  simp only [IntKind.min, IntKind.max, IntKind.signed, IntKind.bits] at this
  simp at this
  obtain ⟨x, rfl⟩ := Int.eq_ofNat_of_zero_le this.1
  refine ⟨UInt8.ofNat x, ?_⟩
  rw [UInt8.toNat_ofNat']
  omega

/-- Numbers that are bytes. -/
theorem bytes_of (zs : List Int) (h : ∀ n ∈ zs, (Lit.int .u8 n).wf = true) : ∃ bs : List UInt8, zs.map (Value.int .u8) = bcs bs ∧ bs.length = zs.length := by
  induction zs with
  | nil => exact ⟨[], rfl, rfl⟩
  | cons z zs ih =>
    obtain ⟨bs, h1, h2⟩ := ih (fun n hn => h n (by simp [hn]))
    obtain ⟨b, rfl⟩ := wf_u8 (h z (by simp))
    exact ⟨b :: bs, by simp [bcs] at h1 ⊢; exact h1, by simp [h2]⟩

theorem cells8 : Tryd.prog.cellsOf 5 = 1 := by kernel_rfl
theorem bytes8 : Tryd.prog.bytesOf 5 = 1 := by kernel_rfl

set_option maxRecDepth 100000 in
/-- An argument that is a slice of bytes. -/
theorem open_bytes {base : Nat} {v : Value} {d : DataW H} {p : List MemPlace} (hval : Value.okWide Tryd.prog W .any base 22 v) (h : DataW.Trod enc Tryd.prog W 0 (fun _ => true) true 22 v d p)
    (hsz : ∀ elems spare, d = .slice elems spare → (elems.length + spare.length) * Tryd.prog.bytesOf 5 ≤ reachBytes) : ∃ bs : List UInt8, Oct.Rd W v bs ∧ bs.length ≤ 140737488351232 := by
  obtain ⟨a0, len, cap, rfl⟩ := okWide_slice Tryd.underlying22 hval
  obtain ⟨fuel, hf⟩ := h
  rcases open_ints Tryd.underlying22 Tryd.underlying5 cells8 hf with ⟨hcs, _⟩ | ⟨x, l, c, zs, hcs, _, hl, hm, hz, hx, hcell, hwz⟩
  · simp [Value.cells] at hcs
    obtain ⟨rfl, rfl, rfl⟩ := hcs
    exact ⟨[], Row.nil W, Nat.zero_le _⟩
  · simp [Value.cells] at hcs
    obtain ⟨rfl, rfl, rfl⟩ := hcs
    simp only [if_true] at hz
    simp only [Prod.mk.injEq] at hx
    have hs := hsz _ _ hx.1
    rw [bytes8] at hs
    simp only [lits, List.length_map, List.length_take, List.length_drop, reachBytes] at hs
    obtain ⟨bs, h1, h2⟩ := bytes_of (zs.take len) (fun n hn => hwz n (List.mem_of_mem_take hn))
    have h3 : bs.length = len := by rw [h2, List.length_take]; omega
    refine ⟨bs, ⟨some x, cap, by rw [h3], by rw [h3]; exact hl, hm, (fun h => by cases h), (fun ad had j u hu => ?_)⟩, by omega⟩
    cases had
    rw [← h1] at hu
    have hj : j < len := by
      have := (List.getElem?_eq_some_iff.1 hu).1
      simp at this; omega
    rw [hcell j (by omega)]
    rw [← hu]
    simp [hj, List.getElem?_eq_getElem (show j < zs.length by omega)]

/-- The cells of an array of bytes. -/
theorem bytes_of_array {t e : TypeId} {n fuel : Nat} {cs : List Value} {x : DataW H × List MemPlace} {w : World} {base : Nat} {spare : Nat → Bool} {held : Bool} (ht : Tryd.prog.underlying t = some (.array n e)) (he : Tryd.prog.underlying e = some (.int .u8)) (h1 : Tryd.prog.cellsOf e = 1) (hn : Tryd.prog.cellsOf t = n)
    (h : DataW.trod enc Tryd.prog w base spare held fuel t cs = some x) : ∃ d : List UInt8, cs = bcs d ∧ d.length = n := by
  obtain ⟨xs, m, rfl, _, hl, hxl, hel⟩ := DataW.trod_array ht h
  rw [hn] at hl
  have each : ∀ i, i < n → ∃ b : UInt8, cs[i]? = some (u8c b) := by
    intro i hi
    have hq := hel i hi
    rw [h1, Nat.mul_one, List.getElem?_eq_getElem (by omega)] at hq
    obtain ⟨z, hz, _, hw⟩ := DataW.trod_int he hq
    obtain ⟨b, rfl⟩ := wf_u8 hw
    refine ⟨b, ?_⟩
    have : ((cs.drop i).take 1)[0]? = some (u8c b) := by rw [hz]; rfl
    simpa using this
  obtain ⟨f, hf⟩ := Deep.choose_lt each
  refine ⟨(List.range n).map f, ?_, by simp⟩
  apply List.ext_getElem?
  intro i
  by_cases hi : i < n
  · rw [hf i hi]; simp [bcs, hi]
  · rw [List.getElem?_eq_none (by omega), List.getElem?_eq_none (by simp [bcs]; omega)]

theorem cellsD : Tryd.prog.cellsOf 24 = 32 := by kernel_rfl
set_option maxRecDepth 100000 in
/-- An argument that is a digest. -/
theorem open_digest {base : Nat} {v : Value} {d : DataW H} {p : List MemPlace} (hval : Value.okWide Tryd.prog W .any base 24 v) (h : DataW.Trod enc Tryd.prog W 0 (fun _ => true) true 24 v d p) :
    ∃ ds : List UInt8, v = dg ds ∧ ds.length = 32 := by
  simp only [Value.okWide, Tryd.underlying24] at hval
  obtain ⟨cs, rfl, hsz, _⟩ := hval
  obtain ⟨fuel, hf⟩ := h
  obtain ⟨ds, h1, h2⟩ := bytes_of_array Tryd.underlying24 Tryd.underlying5 cells8 cellsD hf
  refine ⟨ds, ?_, h2⟩
  have e : cs = (bcs ds).toArray := by rw [← h1]; simp [Value.cells]
  rw [e]
end
end Go.Proofs.YtojenflknjhmkaaDoor.Opn
end

section
namespace Go.Proofs.YtojenflknjhmkaaDoor.Opn
open Go Go.RowKit Go.Proofs.YtojenflknjhmkaaDoor.Cop Go.ChangeShapes Go.WideShapes Go.ChangeAt Go.Joins Go.Deep
set_option linter.unusedVariables false
set_option linter.unusedSimpArgs false
theorem bytesD : Tryd.prog.bytesOf 24 = 32 := by kernel_rfl
set_option maxRecDepth 100000 in
theorem open_ds {H : Type} {enc : TypeId × Value → H} {W : World} {base fuel : Nat} {spare : Nat → Bool} {held : Bool} {v : Value} {x : DataW H × List MemPlace} (h : DataW.trod enc Tryd.prog W base spare held fuel 29 [v] = some x) :
    ∃ ds : List (List UInt8), Dsl.Ds W v ds ∧ (x.1 = .nil ∧ ds = [] ∨ ∃ elems sp, x.1 = .slice elems sp ∧ ds.length = elems.length) := by
  rcases open_slice Tryd.underlying29 h with ⟨hcs, hx⟩ | ⟨a, len, cap, m, n', D, Pl, hcs, _, hl, hcm, hm, hx, hi⟩
  · injection hcs with hcs _
    subst hcs
    exact ⟨[], ⟨Row.nil W, fun d hd => by cases hd⟩, .inl ⟨by rw [hx], rfl⟩⟩
  · injection hcs with hcs _
    subst hcs
    have hml : len ≤ m := by rw [hm]; split <;> omega
    have each : ∀ i, i < len → ∃ d : List UInt8, d.length = 32 ∧ ∀ j u, (bcs d)[j]? = some u → W.cell? ((a.add (i * 32)).add j) = some u := by
      intro i hil
      obtain ⟨cs', hc, ht⟩ := hi i (by omega)
      obtain ⟨d, rfl, hd⟩ := bytes_of_array Tryd.underlying24 Tryd.underlying5 cells8 cellsD ht
      obtain ⟨_, hcl, hat⟩ := World.cells?_some hc
      refine ⟨d, hd, fun j u hu => ?_⟩
      have hj : j < (bcs d).length := (List.getElem?_eq_some_iff.1 hu).1
      have := hat j (by rw [cellsD, ← hd, ← bcs_length]; exact hj)
      rw [cellsD] at this
      rw [this, hu]
    obtain ⟨f, hf⟩ := Deep.choose_lt each
    refine ⟨(List.range len).map f, ⟨⟨some a, cap, by simp, by simpa using hl, hcm, (fun e => by cases e), ?_⟩, ?_⟩, .inr ⟨_, _, by rw [hx], by simp⟩⟩
    · intro ad had j u hu
      cases had
      have h32 : Dsl.All32 ((List.range len).map f) := by
        intro d hd
        obtain ⟨i, hi', rfl⟩ := List.mem_map.1 hd
        exact (hf i (List.mem_range.1 hi')).1
      have hlen := Dsl.dcs_len _ h32
      have hj : j < (Dsl.dcs ((List.range len).map f)).length := (List.getElem?_eq_some_iff.1 hu).1
      rw [hlen] at hj
      simp only [List.length_map, List.length_range] at hj
      have hq : j / 32 < len := by omega
      have hat := Dsl.dcs_at ((List.range len).map f) (j / 32) (by simpa using hq) h32
      have e1 : (bcs (f (j / 32)))[j % 32]? = some u := by
        have e2 : ((List.range len).map f)[j / 32]'(by simpa using hq) = f (j / 32) := by simp
        rw [← e2, ← hat, List.getElem?_take, if_pos (by omega), List.getElem?_drop, show j / 32 * 32 + j % 32 = j by omega]
        exact hu
      have := (hf (j / 32) hq).2 _ _ e1
      rwa [show (a.add (j / 32 * 32)).add (j % 32) = a.add j from by
        rw [show a.add j = a.add (j / 32 * 32 + j % 32) by rw [show j / 32 * 32 + j % 32 = j by omega]]
        unfold Addr.add; by_cases ha : j / 32 * 32 = 0 <;> by_cases hb : j % 32 = 0 <;> simp [ha, hb, Nat.add_assoc]] at this
    · intro d hd
      obtain ⟨i, hi', rfl⟩ := List.mem_map.1 hd
      exact (hf i (List.mem_range.1 hi')).1
theorem weights_head {H : Type} {P : Program} {t : TypeId} {ts : List TypeId} {d : DataW H} {r : List (DataW H)} {q : Nat → Bool} (h : (DataW.weightsEach P (t :: ts) (d :: r)).all q = true) : (d.weights P t).all q = true := by
  simp only [DataW.weightsEach, List.all_append, Bool.and_eq_true] at h
  exact h.1
set_option maxRecDepth 100000 in
theorem open_dsl {H : Type} {enc : TypeId × Value → H} {W : World} {base : Nat} {v : Value} {d : DataW H} {p : List MemPlace} (hval : Value.okWide Tryd.prog W .any base 29 v) (h : DataW.Trod enc Tryd.prog W 0 (fun _ => true) true 29 v d p)
    (hsz : ∀ elems spare, d = .slice elems spare → (elems.length + spare.length) * Tryd.prog.bytesOf 24 ≤ reachBytes) : ∃ ds : List (List UInt8), Dsl.Ds W v ds ∧ ds.length ≤ 4398046511104 := by
  obtain ⟨a0, len, cap, rfl⟩ := okWide_slice Tryd.underlying29 hval
  obtain ⟨fuel, hf⟩ := h
  obtain ⟨ds, hds, hx⟩ := open_ds hf
  refine ⟨ds, hds, ?_⟩
  rcases hx with ⟨_, rfl⟩ | ⟨elems, sp, hx, hlx⟩
  · simp
  · have := hsz elems sp hx
    rw [bytesD] at this
    unfold reachBytes at this
    omega
end Go.Proofs.YtojenflknjhmkaaDoor.Opn
end
