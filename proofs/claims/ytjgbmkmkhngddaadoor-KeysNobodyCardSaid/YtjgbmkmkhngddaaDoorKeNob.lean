/- The law KeysNobody: its walk. -/
import Derived.Test.YtjgbmkmkhngddaaDoorNoDisk
import Derived.Test.YtjgbmkmkhngddaaDoorDig
namespace Go.Proofs.YtjgbmkmkhngddaaDoor.Nob
open Go Go.RowKit Go.Proofs.YtjgbmkmkhngddaaDoor.Cop Go.Proofs.YtjgbmkmkhngddaaDoor.Oct
set_option linter.unusedVariables false
set_option linter.unusedSimpArgs false

theorem results_blk1 {P : Program} {w : World} {fn : Func} {p : Tmp} {ty : TypeId} (h : fn.results = #[.cell p ty]) (hagg : ∀ w, (isAgg ty).run P w = .ok true w) {sz : Nat} (hs : (P.info? ty).map (fun i => i.size) = some sz)
    (tmps : Array Value) {g : Nat} (hp : tmps.getD p undef = .pointer (some ⟨g, 0, none⟩)) {t' : TypeId} {cs : List Value} (hb : Blk w g t' cs) (hl : cs.length = sz) :
    (results fn tmps).run P w = .ok (.agg cs.toArray) w := by
  have hld := run_loadCells_list (P := P) w ⟨g, 0, none⟩ cs (fun j u hu => by rw [addr_add, hb.cell]; exact hu)
  rw [hl] at hld
  have hp' : tmps[p]?.getD undef = .pointer (some ⟨g, 0, none⟩) := by simpa using hp
  simp [results, h, hp', asAddr, loadVar, hagg, Go.Proofs.YtjgbmkmkhngddaaDoor.Cop.run_sizeOf hs, hld, Result.andThen]
section
variable {P : Program} {ops : Array Oper} {Q : Exit → Act → World → Prop} {rest : List Oper} {a : Act} {w : World} {o : Oper}
theorem wp_neq_dg (hg : Region.wanted o (yielded ops a.tmps) = true) (t t2 e : TypeId) (n : Nat) (x y : Operand) (ho : o.op = .binOp .neq t x y t2) (ht : P.underlying t = some (.array n e)) (he : P.underlying e = some (.int .u8))
    (hs : (P.info? e).map (fun i => i.size) = some 1) (hq : P.eqGuardType P.depth t = false) {p q : List UInt8} (hx : a.eval x = dg p) (hy : a.eval y = dg q) (hp : p.length = n) (hq' : q.length = n) {b : Bool} (hb : (p == q) = !b)
    (h : wpList P ops Q rest (a.put o.dst (.bool b)) w) : wpList P ops Q (o :: rest) a w := by
  have e0 := run_eql_bytes (P := P) w t e n ht he (fun w => Go.Proofs.YtjgbmkmkhngddaaDoor.Cop.run_sizeOf hs w) p q hp hq'
  have e0' : (binOp .eql t (.agg (bcs p).toArray) (.agg (bcs q).toArray)).run P w = .ok (.bool (p == q)) w := e0
  have hrun2 : (binOp .neq t (dg p) (dg q)).run P w = .ok (.bool b) w := by
    show (binOp .neq t (.agg (bcs p).toArray) (.agg (bcs q).toArray)).run P w = _
    rw [run_eql_struct] at e0'
    rw [run_neq_struct]
    cases hr : (Op.equalIn 10000 t (.agg (bcs p).toArray) (.agg (bcs q).toArray)).run P w with
    | ok c w' =>
      rw [hr] at e0'
      simp only [Result.andThen] at e0' ⊢
      injection e0' with e2 e3
      injection e2 with e2
      subst e3
      rw [e2, hb, Bool.not_not]
    | halt c w' => rw [hr] at e0'; simp [Result.andThen] at e0'
  refine wp_run hg (v := .bool b) (w' := w) ?_ h
  unfold execOp
  simp only [ho, hx, hy]
  have hgd : (eqGuard .neq t x y (dg p) (dg q)).run P w = .ok () w := by
    simp [eqGuard, hq]
  simp [Sem.run_bind, hgd, hrun2, Result.andThen]
end

/-- No call made them. -/
def NoKeys (w : World) (v : Value) : Prop := v = .pointer none ∨ ∃ b, v = .pointer (some ⟨b, 0, none⟩) ∧ w.cell? ⟨b, 0, none⟩ = some (.pointer none)
theorem NoKeys.below {w w' : World} {v : Value} (h : NoKeys w v) (hb : Below w.heap.size w w') : NoKeys w' v := by
  rcases h with h | ⟨b, h1, h2⟩
  · exact .inl h
  · refine .inr ⟨b, h1, ?_⟩
    have hlt : b < w.heap.size := by
      rcases Nat.lt_or_ge b w.heap.size with h' | h'
      · exact h'
      · simp [World.cell?, Array.getElem?_eq_none h'] at h2
    exact (hb.cell (p := ⟨b, 0, none⟩) hlt).trans h2
set_option maxRecDepth 100000 in
theorem knone_calls (v : Value) (w : World) (h : NoKeys w v) : Calls Tryd.prog 59 #[v] w fun e w' => e = .returned (.bool true) ∧ w = w' := by
  rcases h with rfl | ⟨b, rfl, hc⟩
  · go_enter Tryd.func59, Tryd.ntmps59
    go_wp2_with fail
    go_ret
    exact ⟨rfl, rfl⟩
  · go_enter Tryd.func59, Tryd.ntmps59
    go_wp2_with fail
    go_ret
    exact ⟨rfl, rfl⟩
set_option maxRecDepth 100000 in
theorem used_calls (v : Value) (w : World) (h : NoKeys w v) : Calls Tryd.prog 17 #[v] w fun e w' => e = .returned (.int .i64 0) ∧ w = w' := by
  have hn := knone_calls v w h
  go_enter Tryd.func17, Tryd.ntmps17
  go_wp2_with fail
  refine hn.mono ?_
  rintro e w' ⟨rfl, rfl⟩
  go_wp2_with fail
  go_ret
  exact ⟨rfl, rfl⟩
set_option maxRecDepth 100000 in
theorem left_calls (v : Value) (w : World) (h : NoKeys w v) : Calls Tryd.prog 18 #[v] w fun e w' => e = .returned (.int .i64 0) ∧ w = w' := by
  have hn := knone_calls v w h
  go_enter Tryd.func18, Tryd.ntmps18
  go_wp2_with fail
  refine hn.mono ?_
  rintro e w' ⟨rfl, rfl⟩
  go_wp2_with fail
  go_ret
  exact ⟨rfl, rfl⟩
set_option maxRecDepth 100000 in
theorem root_calls (v : Value) (w : World) (h : NoKeys w v) : Calls Tryd.prog 16 #[v] w fun e w' => e = .returned (dg dz) ∧ Below w.heap.size w w' := by
  go_enter Tryd.func16, Tryd.ntmps16
  go_wp2_with ((with_reducible refine gate_dst (N := 2) rfl ?_); go_loud (refine wp_alloc rfl _ rfl zeroD ?_); intro w1 hk1 hb1 hz1)
  refine (knone_calls v w1 (h.below hb1)).mono ?_
  rintro e w' ⟨rfl, rfl⟩
  go_wp2_with (((with_reducible refine gate_store (t := 36) (p := 2) rfl ?_); go_loud (refine wp_store_blk rfl 36 _ _ rfl rfl sizeD rfl hk1 dz_cells (v := dg dz) rfl (dg_size dz_length) (dg_one _) ?_); intro w2 hk2 hg2))
  refine bodyPost_ret (results_blk1 rfl aggD sizeD _ rfl hk2 (dg_size dz_length)) rfl ?_
  exact ⟨rfl, hb1.trans (below_grown hg2 (Nat.le_of_lt hz1) (fun k hk => by cases hk; exact Nat.le_refl _))⟩
set_option maxRecDepth 100000 in
theorem sign_calls (v : Value) (d : List UInt8) (w : World) (h : NoKeys w v) : Calls Tryd.prog 15 #[v, dg d] w fun e w' => e = .returned (.tuple #[.slice none 0 0, .int .i64 1]) ∧ Below w.heap.size w w' := by
  go_enter Tryd.func15, Tryd.ntmps15
  go_wp2_with ((with_reducible refine gate_dst (N := 3) rfl ?_); go_loud (refine wp_box rfl _ _ rfl (v := dg d) rfl ?_); intro w1 hk1 hb1 hz1)
  refine (knone_calls v w1 (h.below hb1)).mono ?_
  rintro e w' ⟨rfl, rfl⟩
  go_wp2_with fail
  go_ret2
  exact ⟨rfl, hb1⟩
set_option maxRecDepth 100000 in
theorem open_calls (v : Value) (d : List UInt8) (h : Int) (w : World) (hv : NoDisk w v) : Calls Tryd.prog 19 #[v, dg d, .int .i64 h] w fun e w' => e = .returned (.tuple #[.pointer none, .int .i64 1]) ∧ Below w.heap.size w w' := by
  go_enter Tryd.func19, Tryd.ntmps19
  go_wp2_with ((with_reducible refine gate_dst (N := 4) rfl ?_); go_loud (refine wp_box rfl _ _ rfl (v := dg d) rfl ?_); intro w1 hk1 hb1 hz1)
  refine (sector_calls v w1 (hv.below hb1)).mono ?_
  rintro e w' ⟨rfl, rfl⟩
  go_wp2_with fail
  go_ret2
  exact ⟨rfl, hb1⟩

set_option maxHeartbeats 2000000 in
set_option maxRecDepth 100000 in
theorem keys_law (d : List UInt8) (w : World) (hd : d.length = 32) :
    Calls Tryd.prog 4 #[dg d] w fun e w' => e = .returned (.bool true) ∧ Below w.heap.size w w' := by
  go_enter Tryd.func4, Tryd.ntmps4
  go_wp2_with ((with_reducible refine gate_dst (N := 1) rfl ?_); go_loud (refine wp_box rfl _ _ rfl (v := dg d) rfl ?_); intro w1 hk1 hb1 hz1)
  obtain ⟨B, hB⟩ : ∃ B, w1.heap.size = B := ⟨_, rfl⟩
  obtain ⟨W0, hW0⟩ : ∃ W0, ((w1.alloc (.cells #[.pointer none, .nilFunc, .slice none 0 0, .int .i64 0] 41)).alloc (.cells #[.pointer none, .pointer (some ⟨w1.heap.size, 0, none⟩)] 37)) = W0 := ⟨_, rfl⟩
  have g0 : Blk W0 B 41 [.pointer none, .nilFunc, .slice none 0 0, .int .i64 0] := by
    rw [← hW0, ← hB]; exact (Blk.new w1 _ _).below ((Below.refl _ _).alloc (Nat.le_refl _) _)
  have g1 : Blk W0 (B + 1) 37 [.pointer none, .pointer (some ⟨B, 0, none⟩)] := by
    rw [← hW0, ← hB]
    have h := Blk.new (w1.alloc (.cells #[.pointer none, .nilFunc, .slice none 0 0, .int .i64 0] 41)) [.pointer none, .pointer (some ⟨w1.heap.size, 0, none⟩)] 37
    rwa [World.size_alloc] at h
  have hbx : Below w1.heap.size w1 W0 := by rw [← hW0]; exact ((Below.refl _ _).alloc (Nat.le_refl _) _).alloc (by simp) _
  have hbel : Below w.heap.size w W0 := hb1.trans (hbx.mono (by omega))
  have g2 : Blk W0 w.heap.size 36 (dg d).cells.toList := hk1.below hbx
  rw [hW0, hB]
  clear hW0 hk1 hbx hb1 hz1 hB
  go_loopw [15] (fun i wr => (i = .int .i64 0 ∨ i = .int .i64 1 ∨ i = .int .i64 2) ∧ Below W0.heap.size W0 wr) (fun i _ => (2 - intOf i).toNat)
  case atStart => exact ⟨.inl rfl, Below.refl _ _⟩
  case round =>
    obtain ⟨hi, hb⟩ := hrel
    have G0 := g0.below hb
    have G1 := g1.below hb
    have G2 := g2.below hb
    have n0 : NoKeys wr (.pointer none) := .inl rfl
    have n1 : NoKeys wr (.pointer (some ⟨B, 0, none⟩)) := .inr ⟨_, rfl, G0.cell 0⟩
    have c0 := G1.cell 0
    have c1 := G1.cell 1
    rw [List.getElem?_cons_zero] at c0
    rw [List.getElem?_cons_succ, List.getElem?_cons_zero] at c1
    have hd2 := dg_size hd
    have HLW := Lib.hid hb
    have HBEL := Lib.hid hbel
    clear hb hbel
    rcases hi with rfl | rfl | rfl
    · go_wp2_with (first | ((with_reducible refine gate_dst (N := 21) rfl ?_); go_loud (refine wp_load_blk rfl 36 _ rfl aggD sizeD rfl G2 (dg_size hd) ?_)) | (go_at_call 15; go_loud (refine (sign_calls _ d _ n0).mono ?_); rintro e w2 ⟨rfl, hb2⟩; have n2 := n0.below hb2) | (go_at_call 16; go_loud (refine (root_calls _ _ n2).mono ?_); rintro e w3 ⟨rfl, hb3⟩; have n3 := n2.below hb3) | ((with_reducible refine gate_dst (N := 28) rfl ?_); go_loud (refine wp_neq_dg rfl 36 _ 5 32 _ _ rfl Tryd.underlying36 Tryd.underlying5 size8 (by kernel_rfl) rfl rfl dz_length dz_length (b := false) (by simp) ?_)) | (go_at_call 17; go_loud (refine (used_calls _ _ n3).mono ?_); rintro e w' ⟨rfl, rfl⟩) | (go_at_call 18; go_loud (refine (left_calls _ _ n3).mono ?_); rintro e w' ⟨rfl, rfl⟩))
      go_roundw
      case rel => exact ⟨.inr (.inl rfl), HLW.out.trans (hb2.trans (hb3.mono hb2.size) |>.mono HLW.out.size)⟩
      case measure => simp [intOf]
    · go_wp2_with (first | ((with_reducible refine gate_dst (N := 21) rfl ?_); go_loud (refine wp_load_blk rfl 36 _ rfl aggD sizeD rfl G2 (dg_size hd) ?_)) | (go_at_call 15; go_loud (refine (sign_calls _ d _ n1).mono ?_); rintro e w2 ⟨rfl, hb2⟩; have n2 := n1.below hb2) | (go_at_call 16; go_loud (refine (root_calls _ _ n2).mono ?_); rintro e w3 ⟨rfl, hb3⟩; have n3 := n2.below hb3) | ((with_reducible refine gate_dst (N := 28) rfl ?_); go_loud (refine wp_neq_dg rfl 36 _ 5 32 _ _ rfl Tryd.underlying36 Tryd.underlying5 size8 (by kernel_rfl) rfl rfl dz_length dz_length (b := false) (by simp) ?_)) | (go_at_call 17; go_loud (refine (used_calls _ _ n3).mono ?_); rintro e w' ⟨rfl, rfl⟩) | (go_at_call 18; go_loud (refine (left_calls _ _ n3).mono ?_); rintro e w' ⟨rfl, rfl⟩))
      go_roundw
      case rel => exact ⟨.inr (.inr rfl), HLW.out.trans (hb2.trans (hb3.mono hb2.size) |>.mono HLW.out.size)⟩
      case measure => simp [intOf]
    · go_wp2_with ((with_reducible refine gate_dst (N := 50) rfl ?_); go_loud (refine wp_load_blk rfl 36 _ rfl aggD sizeD rfl G2 (dg_size hd) ?_))
      refine (open_calls (.pointer none) d _ _ (.inl rfl)).mono ?_
      rintro e w2 ⟨rfl, hb2⟩
      have G3 := G2.below hb2
      go_wp2_with ((with_reducible refine gate_dst (N := 57) rfl ?_); go_loud (refine wp_load_blk rfl 36 _ rfl aggD sizeD rfl (G3.below ((Below.refl _ _).alloc (Nat.le_refl _) _)) (dg_size hd) ?_))
      refine (open_calls (.pointer (some ⟨w2.heap.size, 0, none⟩)) d _ _ (.inr ⟨_, rfl, (Blk.new w2 [.int .i64 0, .map none, .slice none 0 0] 27).cell 1⟩)).mono ?_
      rintro e w3 ⟨rfl, hb3⟩
      go_wp2_with fail
      go_ret
      have hb4 : Below w2.heap.size w2 (w2.alloc (.cells #[.int .i64 0, .map none, .slice none 0 0] 27)) := (Below.refl w2.heap.size w2).alloc (Nat.le_refl _) _
      have h1 := HLW.out.size
      have h2 := hb2.size
      have hA : Below w.heap.size w wr := HBEL.out.trans (HLW.out.mono HBEL.out.size)
      have hAs := hA.size
      have hB2 : Below w.heap.size w w2 := hA.trans (hb2.mono hAs)
      have hB4 := hB2.trans (hb4.mono hB2.size)
      exact ⟨rfl, hB4.trans (hb3.mono hB4.size)⟩
end Go.Proofs.YtjgbmkmkhngddaaDoor.Nob
