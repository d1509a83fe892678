/- The law package's same of two proofs that are. -/
import Derived.Test.YtfefcfjedlidnaaDoorLent
namespace Go.Proofs.YtfefcfjedlidnaaDoor.Wir
open Go Go.RowKit Go.Proofs.YtfefcfjedlidnaaDoor.Cop Go.Proofs.YtfefcfjedlidnaaDoor.Ver Go.Proofs.YtfefcfjedlidnaaDoor.Oct Go.Proofs.YtfefcfjedlidnaaDoor.Dsl
set_option linter.unusedVariables false
set_option linter.unusedSimpArgs false
section
variable {P : Program} {ops : Array Oper} {o : Oper} {a : Act} {Q : Exit → Act → World → Prop} {w : World} {K : Act → World → Prop} {E : Prop}
/-- Digests are held against each other by '!='. -/
theorem st_neq_dg (hg : o.guard = none) (t t2 e : TypeId) (n : Nat) (x y : Operand) (ho : o.op = .binOp .neq t x y t2) (ht : P.underlying t = some (.array n e)) (he : P.underlying e = some (.int .u8))
    (hs : (P.info? e).map (fun i => i.size) = some 1) (hq : P.eqGuardType P.depth t = false) {p q : List UInt8} (hx : a.eval x = dg p) (hy : a.eval y = dg q) (hp : p.length = n) (hq' : q.length = n) {b : Bool} (hb : (p == q) = !b)
    (h : K (a.put o.dst (.bool b)) w) : if Region.wanted o (yielded ops a.tmps) = true then Oper.wp P o a w K Q else E := by
  have e0 := run_eql_bytes (P := P) w t e n ht he (fun w => Go.Proofs.YtfefcfjedlidnaaDoor.Cop.run_sizeOf hs w) p q hp hq'
  have e0' : (binOp .eql t (.agg (bcs p).toArray) (.agg (bcs q).toArray)).run P w = .ok (.bool (p == q)) w := e0
  have hrun2 : (binOp .neq t (dg p) (dg q)).run P w = .ok (.bool b) w := by
    show (binOp .neq t (.agg (bcs p).toArray) (.agg (bcs q).toArray)).run P w = _
    rw [run_eql_struct] at e0'
    rw [run_neq_struct]
    cases hr : (Op.equalIn 10000 t (.agg (bcs p).toArray) (.agg (bcs q).toArray)).run P w with
    | ok c w' =>
      rw [hr] at e0'
      simp only [Result.andThen] at e0' ⊢
      injection e0' with e2 e3
      injection e2 with e2
      subst e3
      rw [e2, hb, Bool.not_not]
    | halt c w' => rw [hr] at e0'; simp [Result.andThen] at e0'
  refine st_run hg (v := .bool b) (w' := w) ?_ h
  unfold execOp
  simp only [ho, hx, hy]
  have hgd : (eqGuard .neq t x y (dg p) (dg q)).run P w = .ok () w := by
    simp [eqGuard, hq]
  simp [Sem.run_bind, hgd, hrun2, Result.andThen]
/-- The address of a row's element. -/
theorem st_indexAt (hg : o.guard = none) (t e : TypeId) (x i : Operand) (ho : o.op = .indexAddr t x i) (ht : P.underlying t = some (.slice e)) {sz : Nat} (hs : (P.info? e).map (fun i => i.size) = some sz) {ad : Addr} {n cap j : Nat} (hx : a.eval x = .slice (some ad) n cap) (hi : a.eval i = .int .i64 (j : Int)) (hj : j < n)
    (h : K (a.put o.dst (.pointer (some (ad.add (j * sz))))) w) : if Region.wanted o (yielded ops a.tmps) = true then Oper.wp P o a w K Q else E := by
  have hrun := run_indexAt_row (P := P) ht hs (ad := ad) (n := n) (cap := cap) (k := .i64) (i := (j : Int)) (by omega) (by omega) w
  rw [Int.toNat_natCast] at hrun
  refine st_run hg (v := .pointer (some (ad.add (j * sz)))) (w' := w) ?_ h
  unfold execOp
  simp [ho, hx, hi, hrun, Result.andThen]
end
theorem Ds.at {w : World} {ad : Addr} {n c : Nat} {ds : List (List UInt8)} (h : Ds w (.slice (some ad) n c) ds) {j : Nat} (hj : j < ds.length) : ∀ i u, (bcs ds[j])[i]? = some u → w.cell? ((ad.add (j * 32)).add i) = some u := by
  intro i u hu
  obtain ⟨ad', cap, e, hc⟩ := h.1.at (dcs_len ds h.2) (by decide) hj
  injection e with e1 _ _
  obtain rfl := Option.some.inj e1
  rw [← dcs_at ds j hj h.2, List.getElem?_take] at hu
  split at hu
  · rw [List.getElem?_drop] at hu
    have := hc _ _ hu
    rwa [show (ad.add (j * 32)).add i = ad.add (j * 32 + i) from by unfold Addr.add; by_cases ha : j * 32 = 0 <;> by_cases hb : i = 0 <;> simp [ha, hb, Nat.add_assoc]]
  · cases hu
theorem Ds.some {w : World} {a : Option Addr} {n c : Nat} {ds : List (List UInt8)} (h : Ds w (.slice a n c) ds) {j : Nat} (hj : j < ds.length) : ∃ ad, a = Option.some ad := by
  obtain ⟨ad', cap, e, hc⟩ := h.1.at (dcs_len ds h.2) (by decide) hj
  injection e with e1 _ _
  exact ⟨ad', e1⟩
def frS (k f s : Int) (a1 a2 : Value) (n g1 g2 j : Nat) (x39 x40 x4 : Value) (u : Nat → Value) : Array Value := #[prV k f s a1, prV k f s a2, .pointer (some ⟨g1, 0, none⟩), .pointer (some ⟨g2, 0, none⟩), x4, .int .i64 (j : Int), .pointer (some ⟨g1, 0, none⟩), .int .i64 k, .pointer (some ⟨g2, 0, none⟩), .int .i64 k, .bool false, .bool false, .pointer (some ⟨g1, 1, none⟩), .int .i64 f, .pointer (some ⟨g2, 1, none⟩), .int .i64 f, .bool false, .bool false, .bool false, .pointer (some ⟨g1, 2, none⟩), .int .i64 s, .pointer (some ⟨g2, 2, none⟩), .int .i64 s, .bool false, .bool false, .bool false, .pointer (some ⟨g1, 3, none⟩), a1, .int .i64 (n : Int), .pointer (some ⟨g2, 3, none⟩), a2, .int .i64 (n : Int), .bool false, .bool false, .int .i64 (j : Int), .pointer (some ⟨g1, 3, none⟩), a1, .int .i64 (n : Int), .bool true, x39, x40, u 41, u 42, u 43, u 44, u 45, u 46, u 47, u 48, u 49, u 50, u 51]
def valS (g1 g2 j : Nat) (a1 a2 : Value) (p1 p2 : Addr) (d : List UInt8) : Nat → Value
  | 0 => .pointer (some ⟨g1, 3, none⟩)
  | 1 => a1
  | 2 => .int .i64 (j : Int)
  | 3 => .pointer (some p1)
  | 4 => dg d
  | 5 => .pointer (some ⟨g2, 3, none⟩)
  | 6 => a2
  | 7 => .int .i64 (j : Int)
  | 8 => .pointer (some p2)
  | 9 => dg d
  | _ => .bool false
theorem c11s {i : Nat} (h : i < 11) : i = 0 ∨ i = 1 ∨ i = 2 ∨ i = 3 ∨ i = 4 ∨ i = 5 ∨ i = 6 ∨ i = 7 ∨ i = 8 ∨ i = 9 ∨ i = 10 := by omega
theorem dsA (w : World) : (isAgg 74).run Tryd.prog w = .ok false w := by kernel_rfl
set_option maxRecDepth 100000 in
set_option maxHeartbeats 2000000 in
theorem same_calls (k f s : Int) (vp vq : Value) (ds : List (List UInt8)) (w : World) (hp : Ds w vp ds) (hq : Ds w vq ds) : Calls Tryd.prog 54 #[prV k f s vp, prV k f s vq] w fun e w' => e = .returned (.bool true) ∧ Below w.heap.size w w' := by
  obtain ⟨a1, c1, rfl⟩ := hp.open
  obtain ⟨a2, c2, rfl⟩ := hq.open
  have HP := Lib.hid hp
  have HQ := Lib.hid hq
  have hsm := hp.small
  clear hp hq
  go_enter Tryd.func54, Tryd.ntmps54
  go_wp2_with (first | (((with_reducible refine gate_dst (N := 2) rfl ?_); go_loud (refine wp_box rfl _ _ rfl (v := prV k f s (.slice a1 ds.length c1)) rfl ?_); intro w1 hk1 hb1 hz1); rw [pr_cells] at hk1) | (((with_reducible refine gate_dst (N := 3) rfl ?_); go_loud (refine wp_box rfl _ _ rfl (v := prV k f s (.slice a2 ds.length c2)) rfl ?_); intro w2 hk2 hb2 hz2); rw [pr_cells] at hk2; go_loud (have hk12 := hk1.below hb2); go_loud (have x0 : w2.cell? ⟨w.heap.size, 0, none⟩ = some (.int .i64 k) := hk12.cell 0); go_loud (have x1 : w2.cell? ⟨w.heap.size, 1, none⟩ = some (.int .i64 f) := hk12.cell 1); go_loud (have x2 : w2.cell? ⟨w.heap.size, 2, none⟩ = some (.int .i64 s) := hk12.cell 2); go_loud (have x3 : w2.cell? ⟨w.heap.size, 3, none⟩ = some (.slice a1 ds.length c1) := hk12.cell 3); go_loud (have y0 : w2.cell? ⟨w1.heap.size, 0, none⟩ = some (.int .i64 k) := hk2.cell 0); go_loud (have y1 : w2.cell? ⟨w1.heap.size, 1, none⟩ = some (.int .i64 f) := hk2.cell 1); go_loud (have y2 : w2.cell? ⟨w1.heap.size, 2, none⟩ = some (.int .i64 s) := hk2.cell 2); go_loud (have y3 : w2.cell? ⟨w1.heap.size, 3, none⟩ = some (.slice a2 ds.length c2) := hk2.cell 3)))
  have HK1 := Lib.hid hk12
  have HK2 := Lib.hid hk2
  have hz12 := hb2.size
  clear x0 x1 x2 x3 y0 y1 y2 y3 hk1 hk2 hk12
  go_loopw [5] (fun x wr => ∃ j : Nat, x = .int .i64 (j : Int) ∧ j ≤ ds.length ∧ Below w2.heap.size w2 wr) (fun x _ => ds.length - (intOf x).toNat)
  case atStart => exact ⟨0, rfl, by omega, Below.refl _ _⟩
  case round =>
    obtain ⟨j, rfl, hj, hb⟩ := hrel
    have c3 : wr.cell? ⟨w.heap.size, 3, none⟩ = some (.slice a1 ds.length c1) := (HK1.out.below hb).cell 3
    have hbr : Below w.heap.size w wr := (hb1.trans (hb2.mono hb1.size)).trans (hb.mono (by omega))
    by_cases hlt : j < ds.length
    · obtain ⟨p1, rfl⟩ := Wir.Ds.some HP.out hlt
      obtain ⟨p2, rfl⟩ := Wir.Ds.some HQ.out hlt
      have h32 : (ds[j]).length = 32 := HP.out.2 _ (List.getElem_mem hlt)
      have H32 := Lib.hid h32
      clear h32
      go_wp2_with fail
      refine wp_region_pure (frS k f s (.slice (some p1) ds.length c1) (.slice (some p2) ds.length c2) ds.length w.heap.size w1.heap.size j u39 u40 u4) (fun k => if k = 41 then u41 else if k = 42 then u42 else if k = 43 then u43 else if k = 44 then u44 else if k = 45 then u45 else if k = 46 then u46 else if k = 47 then u47 else if k = 48 then u48 else if k = 49 then u49 else if k = 50 then u50 else u51) (valS w.heap.size w1.heap.size j (.slice (some p1) ds.length c1) (.slice (some p2) ds.length c2) (p1.add (j * 32)) (p2.add (j * 32)) ds[j]) (by kernel_rfl) (by kernel_rfl) (by kernel_rfl) ?_ ?_ ?_
      · intro i hi u v
        have h11 : i < 11 := hi
        rcases c11s h11 with rfl | rfl | rfl | rfl | rfl | rfl | rfl | rfl | rfl | rfl | rfl <;> rfl
      · intro i o ho u W hbW hdep K hK
        have h11 : i < 11 := (Array.getElem?_eq_some_iff.1 ho).1
        have h32 := H32.out
        have hb2W : Below w2.heap.size w2 W := hb.trans (hbW.mono hb.size)
        have hkW1 := HK1.out.below hb2W
        have hkW2 := HK2.out.below hb2W
        have hwW : Below w.heap.size w W := hbr.trans (hbW.mono hbr.size)
        have hW1 := HP.out.below hwW
        have hW2 := HQ.out.below hwW
        have K0 := hK W (Below.refl _ _)
        rcases c11s h11 with rfl | rfl | rfl | rfl | rfl | rfl | rfl | rfl | rfl | rfl | rfl <;> obtain rfl := Option.some.inj ho
        · refine st_run rfl (v := (valS w.heap.size w1.heap.size j (.slice (some p1) ds.length c1) (.slice (some p2) ds.length c2) (p1.add (j * 32)) (p2.add (j * 32)) ds[j] 0)) (w' := W) ?_ K0
          unfold frS valS; go_simp
        · have hu : u 41 = (valS w.heap.size w1.heap.size j (.slice (some p1) ds.length c1) (.slice (some p2) ds.length c2) (p1.add (j * 32)) (p2.add (j * 32)) ds[j] 0) := hdep ⟨0, .data⟩ (by simp) rfl
          exact st_load1 (by rfl) 74 (.tmp 41) (by rfl) dsA sizeDs (by exact hu) (hkW1.cell 3) K0
        · refine st_run rfl (v := (valS w.heap.size w1.heap.size j (.slice (some p1) ds.length c1) (.slice (some p2) ds.length c2) (p1.add (j * 32)) (p2.add (j * 32)) ds[j] 2)) (w' := W) ?_ K0
          unfold frS valS; go_simp
        · have hu : u 42 = (valS w.heap.size w1.heap.size j (.slice (some p1) ds.length c1) (.slice (some p2) ds.length c2) (p1.add (j * 32)) (p2.add (j * 32)) ds[j] 1) := hdep ⟨1, .data⟩ (by simp) rfl
          have hu2 : u 43 = (valS w.heap.size w1.heap.size j (.slice (some p1) ds.length c1) (.slice (some p2) ds.length c2) (p1.add (j * 32)) (p2.add (j * 32)) ds[j] 2) := hdep ⟨2, .data⟩ (by simp) rfl
          exact st_indexAt (by rfl) 74 28 (.tmp 42) (.tmp 43) (by rfl) Tryd.underlying74 sizeD (by exact hu) (by exact hu2) hlt K0
        · have hu : u 44 = (valS w.heap.size w1.heap.size j (.slice (some p1) ds.length c1) (.slice (some p2) ds.length c2) (p1.add (j * 32)) (p2.add (j * 32)) ds[j] 3) := hdep ⟨3, .data⟩ (by simp) rfl
          exact st_load_agg (by rfl) 28 (.tmp 44) (by rfl) aggD sizeD (by exact hu) (cs := bcs ds[j]) (by rw [bcs_length, h32]) (Wir.Ds.at hW1 hlt) K0
        · refine st_run rfl (v := (valS w.heap.size w1.heap.size j (.slice (some p1) ds.length c1) (.slice (some p2) ds.length c2) (p1.add (j * 32)) (p2.add (j * 32)) ds[j] 5)) (w' := W) ?_ K0
          unfold frS valS; go_simp
        · have hu : u 46 = (valS w.heap.size w1.heap.size j (.slice (some p1) ds.length c1) (.slice (some p2) ds.length c2) (p1.add (j * 32)) (p2.add (j * 32)) ds[j] 5) := hdep ⟨5, .data⟩ (by simp) rfl
          exact st_load1 (by rfl) 74 (.tmp 46) (by rfl) dsA sizeDs (by exact hu) (hkW2.cell 3) K0
        · refine st_run rfl (v := (valS w.heap.size w1.heap.size j (.slice (some p1) ds.length c1) (.slice (some p2) ds.length c2) (p1.add (j * 32)) (p2.add (j * 32)) ds[j] 7)) (w' := W) ?_ K0
          unfold frS valS; go_simp
        · have hu : u 47 = (valS w.heap.size w1.heap.size j (.slice (some p1) ds.length c1) (.slice (some p2) ds.length c2) (p1.add (j * 32)) (p2.add (j * 32)) ds[j] 6) := hdep ⟨6, .data⟩ (by simp) rfl
          have hu2 : u 48 = (valS w.heap.size w1.heap.size j (.slice (some p1) ds.length c1) (.slice (some p2) ds.length c2) (p1.add (j * 32)) (p2.add (j * 32)) ds[j] 7) := hdep ⟨7, .data⟩ (by simp) rfl
          exact st_indexAt (by rfl) 74 28 (.tmp 47) (.tmp 48) (by rfl) Tryd.underlying74 sizeD (by exact hu) (by exact hu2) hlt K0
        · have hu : u 49 = (valS w.heap.size w1.heap.size j (.slice (some p1) ds.length c1) (.slice (some p2) ds.length c2) (p1.add (j * 32)) (p2.add (j * 32)) ds[j] 8) := hdep ⟨8, .data⟩ (by simp) rfl
          exact st_load_agg (by rfl) 28 (.tmp 49) (by rfl) aggD sizeD (by exact hu) (cs := bcs ds[j]) (by rw [bcs_length, h32]) (Wir.Ds.at hW2 hlt) K0
        · have hu : u 45 = (valS w.heap.size w1.heap.size j (.slice (some p1) ds.length c1) (.slice (some p2) ds.length c2) (p1.add (j * 32)) (p2.add (j * 32)) ds[j] 4) := hdep ⟨4, .data⟩ (by simp) rfl
          have hu2 : u 50 = (valS w.heap.size w1.heap.size j (.slice (some p1) ds.length c1) (.slice (some p2) ds.length c2) (p1.add (j * 32)) (p2.add (j * 32)) ds[j] 9) := hdep ⟨9, .data⟩ (by simp) rfl
          exact st_neq_dg (by rfl) 28 _ 5 32 (.tmp 45) (.tmp 50) (by rfl) Tryd.underlying28 Tryd.underlying5 size8 (by kernel_rfl) (by exact hu) (by exact hu2) h32 h32 (b := false) (by simp) K0
      · intro u W hbW hV
        have e51 : u 51 = .bool false := hV 10 (by decide)
        have hb2W : Below w2.heap.size w2 W := hb.trans (hbW.mono hb.size)
        unfold frS
        rw [e51]
        clear hV
        go_wp2_with fail
        go_roundw
        case rel => exact ⟨j + 1, by go_num, by omega, hb2W⟩
        case measure => simp [intOf]; omega
    · obtain rfl : j = ds.length := by omega
      go_wp2_with fail
      go_ret
      exact ⟨rfl, hbr⟩
end Go.Proofs.YtfefcfjedlidnaaDoor.Wir
