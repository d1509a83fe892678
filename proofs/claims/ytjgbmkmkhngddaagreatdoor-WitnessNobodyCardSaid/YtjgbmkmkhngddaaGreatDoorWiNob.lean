/- The law WitnessNobody: its walk. -/
import Derived.Test.YtjgbmkmkhngddaaGreatDoorNoDisk
import Derived.Test.YtjgbmkmkhngddaaGreatDoorNeq
namespace Go.Proofs.YtjgbmkmkhngddaaGreatDoor.Nob
open Go Go.RowKit Go.Proofs.YtjgbmkmkhngddaaGreatDoor.Cop Go.Proofs.YtjgbmkmkhngddaaGreatDoor.Oct
set_option linter.unusedVariables false
set_option linter.unusedSimpArgs false

/-- The checkpoint of nothing, as cells. -/
def ckz : List Value := .string ⟨#[]⟩ :: .int .i64 0 :: bcs dz
theorem ckz_length : ckz.length = 34 := by simp [ckz, dz, bcs]
theorem aggC (w : World) : (isAgg 37).run Tryz.prog w = .ok true w := by kernel_rfl
theorem sizeC : (Tryz.prog.info? 37).map (fun i => i.size) = some 34 := by kernel_rfl
theorem zeroC (w : World) : (zeroValue 37).run Tryz.prog w = .ok (.agg ckz.toArray) w := by kernel_rfl
theorem ckz_one : ∀ u ∈ (Value.agg ckz.toArray).cells.toList, u.oneCell' = true := by
  intro u hu
  simp only [Value.cells, ckz, List.mem_cons] at hu
  rcases hu with rfl | rfl | hu
  · rfl
  · rfl
  · exact bcs_one dz u hu
theorem neq_ckz (w : World) : (binOp .neq 37 (.agg ckz.toArray) (.agg ckz.toArray)).run Tryz.prog w = .ok (.bool false) w := by kernel_rfl
section
variable {ops : Array Oper} {Q : Exit → Act → World → Prop} {rest : List Oper} {a : Act} {w : World} {o : Oper}
theorem wp_neq_ck (hg : Region.wanted o (yielded ops a.tmps) = true) (t2 : TypeId) (x y : Operand) (ho : o.op = .binOp .neq 37 x y t2) (hx : a.eval x = .agg ckz.toArray) (hy : a.eval y = .agg ckz.toArray)
    (h : wpList Tryz.prog ops Q rest (a.put o.dst (.bool false)) w) : wpList Tryz.prog ops Q (o :: rest) a w := by
  refine wp_run hg (v := .bool false) (w' := w) ?_ h
  have hrun := neq_ckz w
  have hq : Tryz.prog.eqGuardType Tryz.prog.depth 37 = false := by kernel_rfl
  unfold execOp
  simp only [ho, hx, hy]
  have hgd : (eqGuard .neq 37 x y (.agg ckz.toArray) (.agg ckz.toArray)).run Tryz.prog w = .ok () w := by
    simp [eqGuard, hq]
  simp [Sem.run_bind, hgd, hrun, Result.andThen]
end
/-- No call made it. -/
def NoWit (w : World) (v : Value) : Prop := v = .pointer none ∨ ∃ b, v = .pointer (some ⟨b, 0, none⟩) ∧ w.cell? ⟨b, 0, none⟩ = some (.pointer none)
theorem NoWit.below {w w' : World} {v : Value} (h : NoWit w v) (hb : Below w.heap.size w w') : NoWit w' v := by
  rcases h with h | ⟨b, h1, h2⟩
  · exact .inl h
  · refine .inr ⟨b, h1, ?_⟩
    have hlt : b < w.heap.size := by
      rcases Nat.lt_or_ge b w.heap.size with h' | h'
      · exact h'
      · simp [World.cell?, Array.getElem?_eq_none h'] at h2
    exact (hb.cell (p := ⟨b, 0, none⟩) hlt).trans h2
set_option maxRecDepth 100000 in
theorem wnone_calls (v : Value) (w : World) (h : NoWit w v) : Calls Tryz.prog 10 #[v] w fun e w' => e = .returned (.bool true) ∧ w = w' := by
  rcases h with rfl | ⟨b, rfl, hc⟩
  · go_enter Tryz.func10, Tryz.ntmps10
    go_wp2_with fail
    go_ret
    exact ⟨rfl, rfl⟩
  · go_enter Tryz.func10, Tryz.ntmps10
    go_wp2_with fail
    go_ret
    exact ⟨rfl, rfl⟩
set_option maxRecDepth 100000 in
theorem name_calls (v : Value) (w : World) (h : NoWit w v) : Calls Tryz.prog 4 #[v] w fun e w' => e = .returned (.tuple #[.string ⟨#[]⟩, .int .u32 0]) ∧ w = w' := by
  have hn := wnone_calls v w h
  go_enter Tryz.func4, Tryz.ntmps4
  go_wp2_with fail
  refine hn.mono ?_
  rintro e w' ⟨rfl, rfl⟩
  go_wp2_with fail
  go_ret2
  exact ⟨rfl, rfl⟩
set_option maxRecDepth 100000 in
theorem cosign_calls (v : Value) (s : ByteArray) (r : Value) (w : World) (h : NoWit w v) : Calls Tryz.prog 6 #[v, .string s, r] w fun e w' => e = .returned (.tuple #[.string ⟨#[]⟩, .int .i64 1]) ∧ w = w' := by
  have hn := wnone_calls v w h
  go_enter Tryz.func6, Tryz.ntmps6
  go_wp2_with fail
  refine hn.mono ?_
  rintro e w' ⟨rfl, rfl⟩
  go_wp2_with fail
  go_ret2
  exact ⟨rfl, rfl⟩
set_option maxRecDepth 100000 in
theorem wleft_calls (v : Value) (w : World) (h : NoWit w v) : Calls Tryz.prog 8 #[v] w fun e w' => e = .returned (.int .i64 0) ∧ w = w' := by
  have hn := wnone_calls v w h
  go_enter Tryz.func8, Tryz.ntmps8
  go_wp2_with fail
  refine hn.mono ?_
  rintro e w' ⟨rfl, rfl⟩
  go_wp2_with fail
  go_ret
  exact ⟨rfl, rfl⟩
set_option maxRecDepth 100000 in
theorem public_calls (v : Value) (w : World) (h : NoWit w v) : Calls Tryz.prog 7 #[v] w fun e w' => e = .returned (dg dz) ∧ Below w.heap.size w w' := by
  go_enter Tryz.func7, Tryz.ntmps7
  go_wp2_with ((with_reducible refine gate_dst (N := 2) rfl ?_); go_loud (refine wp_alloc rfl _ rfl zeroD ?_); intro w1 hk1 hb1 hz1)
  refine (wnone_calls v w1 (h.below hb1)).mono ?_
  rintro e w' ⟨rfl, rfl⟩
  go_wp2_with (((with_reducible refine gate_store (t := 35) (p := 2) rfl ?_); go_loud (refine wp_store_blk rfl 35 _ _ rfl rfl sizeD rfl hk1 dz_cells (v := dg dz) rfl (dg_size dz_length) (dg_one _) ?_); intro w2 hk2 hg2))
  refine bodyPost_ret (results_blk1 rfl aggD sizeD _ rfl hk2 (dg_size dz_length)) rfl ?_
  exact ⟨rfl, hb1.trans (below_grown hg2 (Nat.le_of_lt hz1) (fun k hk => by cases hk; exact Nat.le_refl _))⟩
theorem ckz_cells : (Value.agg ckz.toArray).cells.toList.length = 34 := by simp [Value.cells, ckz_length]
theorem ckz_size : (Value.agg ckz.toArray).cells.size = 34 := by simp [Value.cells, ckz_length]
theorem results_blk2' {P : Program} {w : World} {fn : Func} {p t2 : Tmp} {ty : TypeId} (h : fn.results = #[.cell p ty, .tmp t2]) (hagg : ∀ w, (isAgg ty).run P w = .ok true w) {sz : Nat} (hs : (P.info? ty).map (fun i => i.size) = some sz)
    (tmps : Array Value) {g : Nat} (hp : tmps.getD p undef = .pointer (some ⟨g, 0, none⟩)) {t' : TypeId} {cs : List Value} (hb : Blk w g t' cs) (hl : cs.length = sz) :
    (results fn tmps).run P w = .ok (.tuple #[.agg cs.toArray, tmps.getD t2 undef]) w := by
  have hld := run_loadCells_list (P := P) w ⟨g, 0, none⟩ cs (fun j u hu => by rw [addr_add, hb.cell]; exact hu)
  rw [hl] at hld
  have hp' : tmps[p]?.getD undef = .pointer (some ⟨g, 0, none⟩) := by simpa using hp
  simp [results, h, hp', asAddr, loadVar, hagg, Go.Proofs.YtjgbmkmkhngddaaGreatDoor.Cop.run_sizeOf hs, hld, Result.andThen]
set_option maxRecDepth 100000 in
theorem last_calls (v : Value) (s : ByteArray) (w : World) (h : NoWit w v) : Calls Tryz.prog 5 #[v, .string s] w fun e w' => e = .returned (.tuple #[.agg ckz.toArray, .bool false]) ∧ Below w.heap.size w w' := by
  go_enter Tryz.func5, Tryz.ntmps5
  go_wp2_with ((with_reducible refine gate_dst (N := 4) rfl ?_); go_loud (refine wp_alloc rfl _ rfl zeroC ?_); intro w1 hk1 hb1 hz1)
  refine (wnone_calls v w1 (h.below hb1)).mono ?_
  rintro e w' ⟨rfl, rfl⟩
  go_wp2_with (((with_reducible refine gate_store (t := 37) (p := 4) rfl ?_); go_loud (refine wp_store_blk rfl 37 _ _ rfl rfl sizeC rfl hk1 ckz_cells (v := .agg ckz.toArray) rfl ckz_size ckz_one ?_); intro w2 hk2 hg2))
  refine bodyPost_ret (results_blk2' rfl aggC sizeC _ rfl hk2 ckz_cells) rfl ?_
  exact ⟨rfl, hb1.trans (below_grown hg2 (Nat.le_of_lt hz1) (fun k hk => by cases hk; exact Nat.le_refl _))⟩
set_option maxRecDepth 100000 in
theorem wopen_calls (v : Value) (s : ByteArray) (h : Int) (w : World) (hv : NoDisk w v) : Calls Tryz.prog 9 #[v, .string s, dg dz, .int .i64 h] w fun e w' => e = .returned (.tuple #[.pointer none, .int .i64 1]) ∧ Below w.heap.size w w' := by
  go_enter Tryz.func9, Tryz.ntmps9
  go_wp2_with ((with_reducible refine gate_dst (N := 6) rfl ?_); go_loud (refine wp_box rfl _ _ rfl (v := dg dz) rfl ?_); intro w1 hk1 hb1 hz1)
  refine (sector_calls v w1 (hv.below hb1)).mono ?_
  rintro e w' ⟨rfl, rfl⟩
  go_wp2_with fail
  go_ret2
  exact ⟨rfl, hb1⟩

set_option maxHeartbeats 4000000 in
set_option maxRecDepth 100000 in
theorem witness_law (s t : ByteArray) (r : Value) (b : Bool) (w : World) :
    Calls Tryz.prog 3 #[.agg #[.string s, r, .string t, .bool b]] w fun e w' => e = .returned (.bool true) ∧ Below w.heap.size w w' := by
  go_enter Tryz.func3, Tryz.ntmps3
  go_wp2_with fail
  obtain ⟨B, hB⟩ : ∃ B, w.heap.size = B := ⟨_, rfl⟩
  obtain ⟨W0, hW0⟩ : ∃ W0, (((w.alloc (.cells #[.string s, r, .string t, .bool b] 24)).alloc (.cells #[.pointer none, .string ⟨#[]⟩, .int .u32 0, .pointer none] 30)).alloc (.cells #[.pointer none, .pointer (some ⟨w.heap.size + 1, 0, none⟩)] 25)) = W0 := ⟨_, rfl⟩
  have hbel : Below B w W0 := by rw [← hW0, ← hB]; exact (((Below.refl _ _).alloc (Nat.le_refl _) _).alloc (by simp) _).alloc (by simp; omega) _
  have g0 : Blk W0 B 24 [.string s, r, .string t, .bool b] := by
    rw [← hW0, ← hB]
    exact (Blk.new w [.string s, r, .string t, .bool b] 24).below (((Below.refl _ _).alloc (Nat.le_refl _) _).alloc (by simp) _)
  have g1 : Blk W0 (B + 1) 30 [.pointer none, .string ⟨#[]⟩, .int .u32 0, .pointer none] := by
    rw [← hW0, ← hB]
    have h := (Blk.new (w.alloc (.cells #[.string s, r, .string t, .bool b] 24)) [.pointer none, .string ⟨#[]⟩, .int .u32 0, .pointer none] 30).below ((Below.refl _ _).alloc (Nat.le_refl _) (.cells #[.pointer none, .pointer (some ⟨w.heap.size + 1, 0, none⟩)] 25))
    rwa [World.size_alloc] at h
  have g2 : Blk W0 (B + 1 + 1) 25 [.pointer none, .pointer (some ⟨B + 1, 0, none⟩)] := by
    rw [← hW0, ← hB]
    have h := Blk.new ((w.alloc (.cells #[.string s, r, .string t, .bool b] 24)).alloc (.cells #[.pointer none, .string ⟨#[]⟩, .int .u32 0, .pointer none] 30)) [.pointer none, .pointer (some ⟨w.heap.size + 1, 0, none⟩)] 25
    rwa [World.size_alloc, World.size_alloc] at h
  rw [hW0, hB]
  have HB := Lib.hid hB
  clear hW0 hB
  go_loopw [19] (fun i wr => (i = .int .i64 0 ∨ i = .int .i64 1 ∨ i = .int .i64 2) ∧ Below W0.heap.size W0 wr) (fun i _ => (2 - intOf i).toNat)
  case atStart => exact ⟨.inl rfl, Below.refl _ _⟩
  case round =>
    obtain ⟨hi, hb⟩ := hrel
    have G0 := g0.below hb
    have G1 := g1.below hb
    have G2 := g2.below hb
    have n0 : NoWit wr (.pointer none) := .inl rfl
    have n1 : NoWit wr (.pointer (some ⟨B + 1, 0, none⟩)) := .inr ⟨_, rfl, G1.cell 0⟩
    have c0 := G2.cell 0
    have c1 := G2.cell 1
    have d2 := G0.cell 2
    rw [List.getElem?_cons_zero] at c0
    rw [List.getElem?_cons_succ, List.getElem?_cons_zero] at c1
    rw [List.getElem?_cons_succ, List.getElem?_cons_succ, List.getElem?_cons_zero] at d2
    have HLW := Lib.hid hb
    have HBEL := Lib.hid hbel
    clear hb hbel
    rcases hi with rfl | rfl | rfl
    · go_wp2_with fail
      refine (name_calls _ _ n0).mono ?_
      rintro e w' ⟨rfl, rfl⟩
      go_wp2_with fail
      refine (last_calls _ t _ n0).mono ?_
      rintro e w2 ⟨rfl, hb2⟩
      have n2 := n0.below hb2
      go_wp2_with (first | ((with_reducible refine gate_dst (N := 7) rfl ?_); go_loud (refine wp_alloc rfl _ rfl zeroC ?_); intro w3 hk3 hb3 hz3) | (((with_reducible refine gate_store (t := 37) (p := 7) rfl ?_); go_loud (refine wp_store_blk rfl 37 _ _ rfl rfl sizeC rfl hk3 ckz_cells (v := .agg ckz.toArray) rfl ckz_size ckz_one ?_); intro w4 hk4 hg4; have hb4 : Below w2.heap.size w2 w4 := hb3.trans (below_grown hg4 (Nat.le_of_lt hz3) (fun k hk => by cases hk; exact Nat.le_refl _)); have n4 := n2.below hb4; have G4 := (G0.below hb2).below hb4; have a0 := G4.cell 0; have a1 := G4.cell 1; rw [List.getElem?_cons_zero] at a0; rw [List.getElem?_cons_succ, List.getElem?_cons_zero] at a1)) | (go_at_call 6; go_loud (refine (cosign_calls _ s r _ n4).mono ?_); rintro e w' ⟨rfl, rfl⟩) | (go_at_call 7; go_loud (refine (public_calls _ _ n4).mono ?_); rintro e w5 ⟨rfl, hb5⟩; have n5 := n4.below hb5; have hk5 := hk4.below hb5) | ((with_reducible refine gate_dst (N := 54) rfl ?_); go_loud (refine wp_neq_dg rfl 35 _ 5 32 _ _ rfl Tryz.underlying35 Tryz.underlying5 size8 (by kernel_rfl) rfl rfl dz_length dz_length (b := false) (by simp) ?_)) | ((with_reducible refine gate_dst (N := 57) rfl ?_); go_loud (refine wp_load_blk rfl 37 _ rfl aggC sizeC rfl hk5 (ckz_cells) ?_)) | ((with_reducible refine gate_dst (N := 59) rfl ?_); go_loud (refine wp_neq_ck rfl _ _ _ rfl rfl rfl ?_)) | (go_at_call 8; go_loud (refine (wleft_calls _ _ n5).mono ?_); rintro e w' ⟨rfl, rfl⟩))
      go_roundw
      case rel => exact ⟨.inr (.inl rfl), HLW.out.trans (((hb2.trans (hb4.mono hb2.size)).trans (hb5.mono (by have := hb2.size; have := hb4.size; omega))).mono HLW.out.size)⟩
      case measure => simp [intOf]
    · go_wp2_with fail
      refine (name_calls _ _ n1).mono ?_
      rintro e w' ⟨rfl, rfl⟩
      go_wp2_with fail
      refine (last_calls _ t _ n1).mono ?_
      rintro e w2 ⟨rfl, hb2⟩
      have n2 := n1.below hb2
      go_wp2_with (first | ((with_reducible refine gate_dst (N := 7) rfl ?_); go_loud (refine wp_alloc rfl _ rfl zeroC ?_); intro w3 hk3 hb3 hz3) | (((with_reducible refine gate_store (t := 37) (p := 7) rfl ?_); go_loud (refine wp_store_blk rfl 37 _ _ rfl rfl sizeC rfl hk3 ckz_cells (v := .agg ckz.toArray) rfl ckz_size ckz_one ?_); intro w4 hk4 hg4; have hb4 : Below w2.heap.size w2 w4 := hb3.trans (below_grown hg4 (Nat.le_of_lt hz3) (fun k hk => by cases hk; exact Nat.le_refl _)); have n4 := n2.below hb4; have G4 := (G0.below hb2).below hb4; have a0 := G4.cell 0; have a1 := G4.cell 1; rw [List.getElem?_cons_zero] at a0; rw [List.getElem?_cons_succ, List.getElem?_cons_zero] at a1)) | (go_at_call 6; go_loud (refine (cosign_calls _ s r _ n4).mono ?_); rintro e w' ⟨rfl, rfl⟩) | (go_at_call 7; go_loud (refine (public_calls _ _ n4).mono ?_); rintro e w5 ⟨rfl, hb5⟩; have n5 := n4.below hb5; have hk5 := hk4.below hb5) | ((with_reducible refine gate_dst (N := 54) rfl ?_); go_loud (refine wp_neq_dg rfl 35 _ 5 32 _ _ rfl Tryz.underlying35 Tryz.underlying5 size8 (by kernel_rfl) rfl rfl dz_length dz_length (b := false) (by simp) ?_)) | ((with_reducible refine gate_dst (N := 57) rfl ?_); go_loud (refine wp_load_blk rfl 37 _ rfl aggC sizeC rfl hk5 (ckz_cells) ?_)) | ((with_reducible refine gate_dst (N := 59) rfl ?_); go_loud (refine wp_neq_ck rfl _ _ _ rfl rfl rfl ?_)) | (go_at_call 8; go_loud (refine (wleft_calls _ _ n5).mono ?_); rintro e w' ⟨rfl, rfl⟩))
      go_roundw
      case rel => exact ⟨.inr (.inr rfl), HLW.out.trans (((hb2.trans (hb4.mono hb2.size)).trans (hb5.mono (by have := hb2.size; have := hb4.size; omega))).mono HLW.out.size)⟩
      case measure => simp [intOf]
    · go_wp2_with fail
      refine (wopen_calls (.pointer none) _ _ _ (.inl rfl)).mono ?_
      rintro e w2 ⟨rfl, hb2⟩
      go_wp2_with fail
      refine (wopen_calls (.pointer (some ⟨w2.heap.size, 0, none⟩)) _ _ _ (.inr ⟨_, rfl, (Blk.new w2 [.int .i64 0, .map none, .slice none 0 0] 50).cell 1⟩)).mono ?_
      rintro e w3 ⟨rfl, hb3⟩
      go_wp2_with fail
      go_ret
      have hb4 : Below w2.heap.size w2 (w2.alloc (.cells #[.int .i64 0, .map none, .slice none 0 0] 50)) := (Below.refl w2.heap.size w2).alloc (Nat.le_refl _) _
      have hA : Below B w wr := HBEL.out.trans (HLW.out.mono (by have := g2.lt; omega))
      have hBs : B ≤ wr.heap.size := by have := G2.lt; omega
      have hB2 : Below B w w2 := hA.trans (hb2.mono hBs)
      have hB4 := hB2.trans (hb4.mono (by have := hb2.size; omega))
      rw [HB.out]
      exact ⟨rfl, hB4.trans (hb3.mono (by have := hb2.size; simp; omega))⟩
end Go.Proofs.YtjgbmkmkhngddaaGreatDoor.Nob
