/- The law package's lent: a proof with digests of its own. -/
import Derived.Test.YtfefcfjedlidnaaDoorWirR
namespace Go.Proofs.YtfefcfjedlidnaaDoor.Wir
open Go Go.RowKit Go.Proofs.YtfefcfjedlidnaaDoor.Cop Go.Proofs.YtfefcfjedlidnaaDoor.Ver Go.Proofs.YtfefcfjedlidnaaDoor.Oct Go.Proofs.YtfefcfjedlidnaaDoor.Dsl
set_option linter.unusedVariables false
set_option linter.unusedSimpArgs false
theorem results_blk1 {P : Program} {w : World} {fn : Func} {p : Tmp} {ty : TypeId} (h : fn.results = #[.cell p ty]) (hagg : ∀ w, (isAgg ty).run P w = .ok true w) {sz : Nat} (hs : (P.info? ty).map (fun i => i.size) = some sz)
    (tmps : Array Value) {g : Nat} (hp : tmps.getD p undef = .pointer (some ⟨g, 0, none⟩)) {t' : TypeId} {cs : List Value} (hb : Blk w g t' cs) (hl : cs.length = sz) :
    (results fn tmps).run P w = .ok (.agg cs.toArray) w := by
  have hld := run_loadCells_list (P := P) w ⟨g, 0, none⟩ cs (fun j u hu => by rw [addr_add, hb.cell]; exact hu)
  rw [hl] at hld
  have hp' : tmps[p]?.getD undef = .pointer (some ⟨g, 0, none⟩) := by simpa using hp
  simp [results, h, hp', asAddr, loadVar, hagg, Go.Proofs.YtfefcfjedlidnaaDoor.Cop.run_sizeOf hs, hld, Result.andThen]
theorem infoD : (Tryd.prog.info? 28).map (fun i => (i.zero, i.size, i.bytes)) = some (some (dg dz), 32, 32) := by kernel_rfl
theorem sizeDs : (Tryd.prog.info? 74).map (fun i => i.size) = some 1 := by kernel_rfl
theorem zeroPr (w : World) : (zeroValue 76).run Tryd.prog w = .ok (prV 0 0 0 (.slice none 0 0)) w := by kernel_rfl
theorem made0 (w : World) : (w.alloc (.cells #[] 28)).ownsRow w.heap.size 28 32 (.slice (some ⟨w.heap.size, 0, none⟩) 0 0) 0 [] := World.ownsRow_made w #[] 0 (Nat.le_refl _) (Nat.zero_le _) rfl
theorem pr_one (k f s : Int) (a : Option Addr) (n c : Nat) : ∀ u ∈ prL k f s (.slice a n c), u.oneCell' = true := by
  intro u hu
  simp only [prL, List.mem_cons, List.not_mem_nil, or_false] at hu
  rcases hu with rfl | rfl | rfl | rfl <;> rfl
set_option maxRecDepth 100000 in
set_option maxHeartbeats 1000000 in
theorem lent_calls (k f s : Int) (vp : Value) (ds : List (List UInt8)) (w : World) (hp : Ds w vp ds) (hl : ds.length * 32 ≤ 140737488355328) : Calls Tryd.prog 46 #[prV k f s vp] w fun e w' => ∃ v', e = .returned (prV k f s v') ∧ Ds w' v' ds ∧ Below w.heap.size w w' := by
  obtain ⟨pa, pc, rfl⟩ := hp.open
  have HP := Lib.hid hp
  have HL := Lib.hid hl
  clear hp hl
  go_enter Tryd.func46, Tryd.ntmps46
  go_wp2_with (first | (((with_reducible refine gate_dst (N := 1) rfl ?_); go_loud (refine wp_box rfl _ _ rfl (v := prV k f s (.slice pa ds.length pc)) rfl ?_); intro w1 hk1 hb1 hz1); rw [pr_cells] at hk1) | (((with_reducible refine gate_dst (N := 2) rfl ?_); go_loud (refine wp_alloc rfl _ rfl zeroPr ?_); intro w2 hk2 hb2 hz2); rw [pr_cells] at hk2; go_loud (have hk12 := hk1.below hb2); go_loud (have hk13 := hk12.below ((Below.refl w2.heap.size w2).alloc (Nat.le_refl _) (.cells #[] 28))); go_loud (have c3 : (w2.alloc (.cells #[] 28)).cell? ⟨w.heap.size, 3, none⟩ = some (.slice pa ds.length pc) := hk13.cell 3); go_loud (have hk23 := hk2.below ((Below.refl w2.heap.size w2).alloc (Nat.le_refl _) (.cells #[] 28)))) | ((with_reducible refine gate_dst (N := 6) rfl ?_); go_loud (refine wp_append rfl _ _ 74 28 rfl Tryd.underlying74 infoD (dg_size dz_length) (by decide) rfl (made0 w2) rfl ((HP.out.below (hb1.trans (hb2.mono hb1.size))).1.below ((Below.refl _ _).alloc (Nat.le_refl _) _)) (dcs_len ds HP.out.2) (dcs_one ds) (by have := HL.out; unfold maxLen; omega) (by have := HL.out; omega) (by simp) ?_); intro v3 w3 hown3 hg3; go_loud (have hg3' : (w2.alloc (.cells #[] 28)).grownBy w3 (some w2.heap.size) := hg3); go_loud (have hD3 : Ds w3 v3 ds := ⟨by have := Row.of_own hown3; rwa [Nat.zero_add, List.nil_append] at this, HP.out.2⟩); obtain ⟨a3, cc3, rfl⟩ := hD3.open; go_loud (have hs2 := hb2.size); go_loud (have hs3 := hg3'.size); go_loud (have hk33 := hk13.grown hg3' (fun e => by injection e with e; omega)); go_loud (have hk34 := hk23.grown hg3' (fun e => by injection e with e; omega))) | ((with_reducible refine gate_store (t := 74) (p := 7) rfl ?_); go_loud (refine wp_store_cell rfl 74 _ _ rfl rfl sizeDs rfl hk33 (i := 3) (by simp [prL]) (v := .slice a3 ds.length cc3) rfl rfl rfl ?_); intro w4 hk4 hg4; go_loud (have hk44 := hk34.grown hg4 (fun e => by injection e with e; omega)); go_loud (have hown4 := World.ownsRow.kept hown3 hg4 (.inr (fun e => by have := (World.ownsRow.lt hown3 _ e).1; omega)))) | (((with_reducible refine gate_dst (N := 8) rfl ?_); go_loud (refine wp_load_blk rfl 76 _ rfl aggPr sizePr rfl hk4 (rfl) ?_))) | (((with_reducible refine gate_store (t := 76) (p := 2) rfl ?_); go_loud (refine wp_store_blk rfl 76 _ _ rfl rfl sizePr rfl hk44 (rfl) (v := prV k f s (.slice a3 ds.length cc3)) rfl (rfl) ((by rw [pr_cells]; exact pr_one k f s _ _ _)) ?_); intro w5 hk5 hg5); rw [pr_cells] at hk5; go_loud (have hown5 := World.ownsRow.kept hown4 hg5 (.inr (fun e => by have := (World.ownsRow.lt hown4 _ e).1; omega)))))
  have hb12 : Below w.heap.size w (w2.alloc (.cells #[] 28)) := (hb1.trans (hb2.mono hb1.size)).alloc (by have := hb1.size; have := hb2.size; omega) _
  have hs4 := hg4.size
  have hsa : (w2.alloc (.cells #[] 28)).heap.size = w2.heap.size + 1 := by simp
  have hb3 : Below w.heap.size w w3 := hb12.grown hg3' (by omega) (fun r e => by injection e with e; omega)
  have hb4 : Below w.heap.size w w4 := hb3.grown hg4 (by omega) (fun r e => by injection e with e; omega)
  have hb5 : Below w.heap.size w w5 := hb4.grown hg5 (by omega) (fun r e => by injection e with e; omega)
  refine bodyPost_ret (results_blk1 (cs := prL k f s (.slice a3 ds.length cc3)) rfl aggPr sizePr _ rfl hk5 rfl) rfl ?_
  exact ⟨_, rfl, ⟨by have := Row.of_own hown5; rwa [Nat.zero_add, List.nil_append] at this, HP.out.2⟩, hb5⟩
end Go.Proofs.YtfefcfjedlidnaaDoor.Wir
