/- The walk of tile.Need: its contract. -/
import Derived.Test.YtmiffljcggfcgaaNeedP
import Derived.Test.YtmiffljcggfcgaaTile
namespace Go.Proofs.Ytmiffljcggfcgaa.Til
open Go Go.RowKit Go.Proofs.Ytmiffljcggfcgaa.Cop
set_option linter.unusedVariables false
set_option linter.unusedSimpArgs false
theorem infoS : (Try.prog.info? 25).map (fun i => (i.zero, i.size, i.bytes)) = some (some (.agg #[.int .i64 0, .int .i64 0, .int .i64 0, .int .i64 0]), 4, 32) := by kernel_rfl
theorem sizeS : (Try.prog.info? 25).map (fun i => i.size) = some 4 := by kernel_rfl
theorem sizeNd : (Try.prog.info? 23).map (fun i => i.size) = some 2 := by kernel_rfl
theorem aggNd (w : World) : (isAgg 23).run Try.prog w = .ok true w := by kernel_rfl
theorem aggS (w : World) : (isAgg 25).run Try.prog w = .ok true w := by kernel_rfl
/-- The cells of nodes. -/
def ncl (n : Int × Int) : List Value := [.int .i64 n.1, .int .i64 n.2]
theorem ncl_len (L : List (Int × Int)) : (L.flatMap ncl).length = L.length * 2 := by
  induction L with
  | nil => rfl
  | cons x r ih => rw [List.flatMap_cons, List.length_append, ih, List.length_cons]; simp [ncl]; omega
theorem ncl_at : ∀ (L : List (Int × Int)) (k : Nat) (hk : k < L.length), ((L.flatMap ncl).drop (k * 2)).take 2 = ncl L[k]
  | [], k, hk => by simp at hk
  | x :: L, 0, hk => by simp [ncl]
  | x :: L, k + 1, hk => by
    have := ncl_at L k (by simpa using hk)
    have e : (k + 1) * 2 = k * 2 + 1 + 1 := by omega
    rw [List.flatMap_cons, e]
    exact this
def OwnS (base : Nat) (w : World) (h : Int) (v : Value) (s : List Tl) : Prop := w.ownsRow base 25 4 v s.length (s.flatMap (tcl h))
theorem OwnS.nil (base : Nat) (w : World) (h : Int) : OwnS base w h (.slice none 0 0) [] := World.ownsRow_nil _ _ _ _
section
variable {P : Program} {ops : Array Oper} {rest : List Oper} {o : Oper} {a : Act} {Q : Exit → Act → World → Prop} {w : World}
/-- An element of several cells is read: its address, then the load. -/
theorem wp_index_load_agg {o2 : Oper} {rest2 : List Oper} (hg : Region.wanted o (yielded ops a.tmps) = true) (hg2 : ∀ p, Region.wanted o2 (yielded ops (a.put o.dst p).tmps) = true) (t e : TypeId) (x i : Operand) (d : Tmp) (ho : o.op = .indexAddr t x i) (hd : o.dst = some d) (ho2 : o2.op = .load e (.tmp d))
    (ht : P.underlying t = some (.slice e)) {sz : Nat} (hs : (P.info? e).map (fun i => i.size) = some sz) (hsz : 0 < sz) (hagg : ∀ w, (isAgg e).run P w = .ok true w)
    {v : Value} {n : Nat} {cs : List Value} {k : IntKind} {iv : Int} (hx : a.eval x = v) (hi : a.eval i = .int k iv) (hr : Row w v n cs) (hl : cs.length = n * sz) (hd2 : ∀ p, (a.put (some d) p).eval (.tmp d) = p)
    {us : List Value} (h0 : 0 ≤ iv) (h1 : iv < (n : Int)) (hu : (cs.drop (iv.toNat * sz)).take sz = us)
    (h : ∀ p, wpList P ops Q rest2 ((a.put (some d) p).put o2.dst (.agg us.toArray)) w) : wpList P ops Q (o :: o2 :: rest2) a w := by
  obtain ⟨ad, cap, rfl, hc⟩ := hr.at (sz := sz) (by omega) hsz (i := iv.toNat) (by omega)
  have hrun := run_indexAt_row (P := P) ht hs (ad := ad) (n := n) (cap := cap) (k := k) h0 h1 w
  have hb : iv.toNat * sz + sz ≤ n * sz := by
    have : iv.toNat + 1 ≤ n := by omega
    have := Nat.mul_le_mul_right sz this
    rw [Nat.add_mul] at this
    omega
  have hul : us.length = sz := by rw [← hu, List.length_take, List.length_drop]; omega
  have hcells : ∀ j u, us[j]? = some u → w.cell? ((ad.add (iv.toNat * sz)).add j) = some u := by
    intro j u hj
    rw [← hu, List.getElem?_take] at hj
    split at hj
    · rw [List.getElem?_drop] at hj
      have := hc _ _ hj
      rwa [show (ad.add (iv.toNat * sz)).add j = ad.add (iv.toNat * sz + j) from by unfold Addr.add; by_cases ha : iv.toNat * sz = 0 <;> by_cases hb : j = 0 <;> simp [ha, hb, Nat.add_assoc]]
    · cases hj
  have hld := run_loadCells_list (P := P) w (ad.add (iv.toNat * sz)) us hcells
  rw [hul] at hld
  refine wp_run hg (v := .pointer (some (ad.add (iv.toNat * sz)))) (w' := w) ?_ ?_
  · unfold execOp; simp [ho, hx, hi, hrun, Result.andThen]
  · have hg2' := hg2
    rw [hd] at hg2' ⊢
    have he := hd2 (.pointer (some (ad.add (iv.toNat * sz))))
    refine wp_run (hg2' _) (v := .agg us.toArray) (w' := w) ?_ (h _)
    unfold execOp
    simp [ho2, he, Instr.loadAt, Instr.sureAddr, loadVar, hagg w, Go.Proofs.Ytmiffljcggfcgaa.Cop.run_sizeOf hs, hld, Result.andThen]
end
section
variable {ops : Array Oper} {rest : List Oper} {o : Oper} {a : Act} {Q : Exit → Act → World → Prop} {w : World}
/-- What a look-up tells. -/
def lookRes : Option (Nat × Value) → Value
  | some (_, v) => .tuple #[v, .bool true]
  | none => .tuple #[.int .i64 0, .bool false]
/-- m[k] with ok. -/
theorem wp_look (hg : Region.wanted o (yielded ops a.tmps) = true) (x k : Operand) (ho : o.op = .lookup 95 x k true) {r : Nat} (hx : a.eval x = .map (some r)) {p q : Int} (hk : a.eval k = kv p q) {es : Array MapEntry} {clock : Nat} (hr : w.heap[r]? = some (.map es clock))
    {L : List (Int × Int × Value)} (hL : es.toList.map (fun e => (e.key, e.val)) = L.map (fun x => (kv x.1 x.2.1, x.2.2))) {res : Value} (hres : lookRes (pfind p q L 0) = res)
    (h : wpList Try.prog ops Q rest (a.put o.dst res) w) : wpList Try.prog ops Q (o :: rest) a w := by
  have hrun : (Instr.lookup 95 (.map (some r)) (kv p q) true).run Try.prog w = .ok res w := by
    rw [run_look w r es clock hr p q L hL, ← hres]
    cases pfind p q L 0 <;> rfl
  refine wp_run hg (v := res) (w' := w) ?_ h
  unfold execOp
  simp [ho, hx, hk, hrun, Result.andThen]
/-- m[k] = v of a new key. -/
theorem wp_mput (hg : Region.wanted o (yielded ops a.tmps) = true) (x k y : Operand) (ho : o.op = .mapUpdate 95 x k y) (hd : o.dst = none) {r : Nat} (hx : a.eval x = .map (some r)) {p q : Int} (hk : a.eval k = kv p q) {v : Value} (hy : a.eval y = v) {es : Array MapEntry} {clock : Nat} (hr : w.heap[r]? = some (.map es clock))
    {L : List (Int × Int × Value)} (hL : es.toList.map (fun e => (e.key, e.val)) = L.map (fun x => (kv x.1 x.2.1, x.2.2))) (hno : pfind p q L 0 = none)
    (h : ∀ w', w'.heap[r]? = some (.map (es.push { key := kv p q, val := v, born := clock }) (clock + 1)) → w.grownBy w' (some r) → wpList Try.prog ops Q rest a w') : wpList Try.prog ops Q (o :: rest) a w := by
  have hrun := run_put w r es clock hr p q v L hL hno
  have hlt : r < w.heap.size := (Array.getElem?_eq_some_iff.1 hr).1
  refine wp_run_skip hg (w' := w.putObj r (.map (es.push { key := kv p q, val := v, born := clock }) (clock + 1))) ?_ ?_
  · unfold execOp
    simp [ho, hx, hk, hy, hrun, Result.andThen]
  · rw [hd]
    exact h _ (World.putObj_heap_same hlt) ⟨rfl, rfl, rfl, by simp [World.putObj], fun j _ hj => World.putObj_heap_other (fun e => hj (by rw [e]))⟩
theorem gate_mput {t : TypeId} {m k v : Operand} (_ho : o.op = .mapUpdate t m k v) (h : wpList Try.prog ops Q (o :: rest) a w) : wpList Try.prog ops Q (o :: rest) a w := h
end
/-- What Need hands back. -/
def NeedRet (h : Int) (L : List (Int × Int)) (w : World) (e : Ending) (w' : World) : Prop :=
  Below w.heap.size w w' ∧ match needs h L [] with
    | none => e = .returned (.tuple #[.slice none 0 0, .int .i64 2])
    | some s => ∃ v, e = .returned (.tuple #[v, .int .i64 0]) ∧ OwnS w.heap.size w' h v s
theorem OwnS.below {base : Nat} {w w' : World} {h : Int} {v : Value} {s : List Tl} (ho : OwnS base w h v s) (hb : Below w.heap.size w w') : OwnS base w' h v s := own_below ho hb
theorem of_calls (h : Int) (n : Int × Int) : (ofN h n = none ∧ ∀ w, Calls Try.prog 14 #[.int .i64 h, .agg #[.int .i64 n.1, .int .i64 n.2]] w fun e w' => e = .returned (.tuple #[.agg #[.int .i64 0, .int .i64 0, .int .i64 0, .int .i64 0], .int .i64 0, .int .i64 0, .int .i64 2]) ∧ Below w.heap.size w w') ∨
    ∃ a b c x y, ofN h n = some (a, b, c) ∧ ∀ w, Calls Try.prog 14 #[.int .i64 h, .agg #[.int .i64 n.1, .int .i64 n.2]] w fun e w' => e = .returned (.tuple #[.agg #[.int .i64 h, .int .i64 a, .int .i64 b, .int .i64 c], .int .i64 x, .int .i64 y, .int .i64 0]) ∧ Below w.heap.size w w' := by
  rcases of_two h n with ⟨h1, h2⟩ | ⟨a, b, c, x, y, h1, h2⟩
  · exact .inl ⟨h1, fun w => PTileOf.tile_Of.calls _ _ _ _ _ _ _ _ _ _ w h2⟩
  · exact .inr ⟨a, b, c, x, y, h1, fun w => PTileOf.tile_Of.calls _ _ _ _ _ _ _ _ _ _ w h2⟩
theorem need_bad (h : Int) (v : Value) (w : World) (hh : ht h = false) : Calls Try.prog 17 #[.int .i64 h, v] w fun e w' => e = .returned (.tuple #[.slice none 0 0, .int .i64 2]) ∧ Below w.heap.size w w' := by
  have HH := Lib.hid hh
  clear hh
  go_enter Try.func17, Try.ntmps17
  go_wp2_with fail
  refine (height_calls h w).mono ?_
  rintro e w' ⟨rfl, rfl⟩
  rw [HH.out]
  go_wp2
  go_ret2
  exact ⟨rfl, Below.refl _ _⟩
theorem max2_int' (k k' : IntKind) (x y : Int) : Builtin.max2 (.int k x) (.int k' y) = pure (.int k (if x < y then y else x)) := by simp only [Builtin.max2, gt_iff_lt]
theorem max_two' (ats : Array TypeId) (ty : TypeId) (a b : Value) : Builtin.max_ ats ty #[a, b] = (Builtin.max2 a b >>= fun s => pure s) := by simp only [Builtin.max_, List.foldlM_cons, List.foldlM_nil]
attribute [local go_sem] max2_int' max_two'
theorem zeroS (w : World) : (zeroValue 25).run Try.prog w = .ok (.agg #[.int .i64 0, .int .i64 0, .int .i64 0, .int .i64 0]) w := by kernel_rfl
theorem four_one (h a b c : Int) : ∀ u ∈ (Value.agg #[.int .i64 h, .int .i64 a, .int .i64 b, .int .i64 c]).cells.toList, u.oneCell' = true := by
  intro u hu
  simp only [Value.cells, List.mem_cons, List.not_mem_nil, or_false] at hu
  rcases hu with rfl | rfl | rfl | rfl <;> rfl
/-- The tile's variable is laid: what was there is as it was. -/
theorem step4 {B : Nat} {w w0 w2 w3 w4 : World} {h : Int} {u : Value} {s : List Tl} {o : Obj} {es : Array MapEntry} {clock : Nat} (hbel : Below B w w0) (hBs : B < w0.heap.size) (hown : OwnS (B + 1) w0 h u s) (hmap : w0.heap[B]? = some (.map es clock))
    (hb2 : Below (w0.alloc o).heap.size (w0.alloc o) w2) (hb3 : Below w2.heap.size w2 w3) (hz : w2.heap.size < w3.heap.size) (hg4 : w3.grownBy w4 (some w2.heap.size)) :
    OwnS (B + 1) w4 h u s ∧ w4.heap[B]? = some (.map es clock) ∧ Below B w w4 ∧ B < w2.heap.size ∧ w2.heap.size < w4.heap.size := by
  have s2 := hb2.size
  simp at s2
  have s4 := hg4.size
  have hown2 : OwnS (B + 1) w2 h u s := own_below (World.ownsRow.alloc hown o) hb2
  have hown3 : OwnS (B + 1) w3 h u s := own_below hown2 hb3
  have m2 : w2.heap[B]? = some (.map es clock) := (hb2.block B (by simp; omega)).trans ((Lib.alloc_old w0 o B hBs).trans hmap)
  have m3 : w3.heap[B]? = some (.map es clock) := (hb3.block B (by omega)).trans m2
  refine ⟨World.ownsRow.kept hown3 hg4 ?_, (hg4.block B (by omega) (by simp; omega)).trans m3, ?_, by omega, by omega⟩
  · cases hv : u.ownBlock with
    | none => exact .inl rfl
    | some g =>
      right
      have := (World.ownsRow.lt hown2 g hv).2
      intro e
      injection e with e
      omega
  · have b2 : Below B w w2 := (hbel.alloc (by omega) o).trans (hb2.mono (by simp; omega))
    have b3 : Below B w w3 := b2.trans (hb3.mono (by omega))
    exact b3.grown hg4 (by omega) (fun r e => by injection e with e; omega)
theorem OwnS.at {base : Nat} {w : World} {h : Int} {v : Value} {s : List Tl} (ho : OwnS base w h v s) {k : Nat} {a b c : Int} (hk : s[k]? = some (a, b, c)) :
    ∃ g cap, v = .slice (some ⟨g, 0, none⟩) s.length cap ∧ base ≤ g ∧ g < w.heap.size ∧ (∀ j u, j < 4 → (tcl h (a, b, c))[j]? = some u → w.cell? ⟨g, k * 4 + j, none⟩ = some u) ∧ ∀ j, w.frozen? ⟨g, j, none⟩ = false := by
  have hlt := (List.getElem?_eq_some_iff.1 hk).1
  have ho' := ho
  rcases ho.2 with ⟨_, h0⟩ | ⟨g, cap, cur, rfl, hb, hg, _, _, _, htk⟩
  · omega
  · refine ⟨g, cap, rfl, hb, (Array.getElem?_eq_some_iff.1 hg).1, fun j u hj hu => ?_, fun j => frozen_of_row w g j cur _ hg⟩
    have hfm := tcl_at h s k _ hk j hj
    rw [hu, ← htk, List.getElem?_take] at hfm
    split at hfm
    · rw [cell_of_row w g _ cur 25 _ hg]
      simpa using hfm
    · cases hfm
theorem step5 {B G : Nat} {w w4 w5 : World} {h : Int} {u : Value} {s : List Tl} {cs : List Value} (hown : OwnS (B + 1) w4 h u s) (hk : Blk w4 G 25 cs) (hbel : Below B w w4) (hG : B < G) (hg : w4.grownBy w5 (some B)) :
    OwnS (B + 1) w5 h u s ∧ Blk w5 G 25 cs ∧ Below B w w5 := by
  refine ⟨World.ownsRow.kept hown hg ?_, hk.grown hg (by simp; omega), hbel.grown hg ?_ (fun r e => by injection e with e; omega)⟩
  · cases hv : u.ownBlock with
    | none => exact .inl rfl
    | some g =>
      right
      have := (World.ownsRow.lt hown g hv).1
      intro e
      injection e with e
      omega
  · have := hk.lt; omega
theorem step6 {B : Nat} {w w4 w5 w6 : World} {h a b c : Int} {u v' : Value} {s : List Tl} {o o' : Obj} (hown5 : OwnS (B + 1) w5 h u s) (hmap5 : w5.heap[B]? = some o) (hbel5 : Below B w w5) (hg5 : w4.grownBy w5 (some B))
    (hown6 : w6.ownsRow (B + 1) 25 4 v' (s.length + 1) (s.flatMap (tcl h) ++ [.int .i64 h, .int .i64 a, .int .i64 b, .int .i64 c])) (hgrow6 : (w5.alloc o').grownBy w6 u.ownBlock) :
    OwnS (B + 1) w6 h v' (s ++ [(a, b, c)]) ∧ w6.heap[B]? = some o ∧ Below B w w6 ∧ B < w6.heap.size := by
  have hlt : B < w5.heap.size := (Array.getElem?_eq_some_iff.1 hmap5).1
  have hs := hgrow6.size
  simp at hs
  have hne : some B ≠ u.ownBlock := by
    intro e
    have := (World.ownsRow.lt hown5 B e.symm).1
    omega
  refine ⟨?_, (hgrow6.block B (by simp; omega) hne).trans ((Lib.alloc_old w5 o' B hlt).trans hmap5), ?_, by omega⟩
  · unfold OwnS
    rw [List.length_append, List.flatMap_append]
    exact hown6
  · exact (hbel5.alloc (by omega) o').grown hgrow6 (by simp; omega) (fun r e => by have := (World.ownsRow.lt hown5 r e).1; omega)
def NRel (B M : Nat) (h : Int) (L : List (Int × Int)) (w : World) (k : Nat) (s : List Tl) (es : Array MapEntry) (clock : Nat) (v : Value) (wr : World) : Prop :=
  OwnS (B + 1) wr h v s ∧ wr.heap[M]? = some (.map es clock) ∧ Hid (es.toList.map (fun e => (e.key, e.val)) = (keyed 0 s).map (fun x => (kv x.1 x.2.1, x.2.2))) ∧ Hid (needs h L [] = needs h (L.drop k) s) ∧ s.length ≤ k ∧ Below B w wr ∧ B < wr.heap.size
theorem upd_at {s : List Tl} {a b c c0 : Int} {kk : Nat} (hf : sfind a b s = some kk) (hc : s[kk]? = some (a, b, c0)) : upd s (a, b, c) = s.set kk (a, b, max c0 c) := by
  unfold upd
  simp only [hf]
  rw [List.getD_eq_getElem?_getD, hc]
  rfl
theorem step7 {B k kk g cap clock : Nat} {h a b c0 c' : Int} {L : List (Int × Int)} {s : List Tl} {w w4 w5 : World} {es : Array MapEntry} (hc : s[kk]? = some (a, b, c0))
    (hst : w5.ownsRow (B + 1) 25 4 (.slice (some ⟨g, 0, none⟩) s.length cap) s.length ((s.flatMap (tcl h)).set (kk * 4 + 3) (.int .i64 c')) ∧ w4.grownBy w5 (some g))
    (hown : OwnS (B + 1) w4 h (.slice (some ⟨g, 0, none⟩) s.length cap) s) (hmap : w4.heap[B]? = some (.map es clock)) (hbel : Below B w w4) (hB : B < w4.heap.size) (hgB : B + 1 ≤ g)
    (HES : Hid (es.toList.map (fun e => (e.key, e.val)) = (keyed 0 s).map (fun x => (kv x.1 x.2.1, x.2.2)))) (hN : needs h L [] = needs h (L.drop (k + 1)) (s.set kk (a, b, c'))) (hsk : s.length ≤ k) :
    NRel B B h L w (k + 1) (s.set kk (a, b, c')) es clock (.slice (some ⟨g, 0, none⟩) s.length cap) w5 := by
  obtain ⟨h1, h2⟩ := hst
  refine ⟨?_, (h2.block B hB (by simp; omega)).trans hmap, ?_, Lib.hid hN, by simp; omega, hbel.grown h2 (by omega) (fun r e => by injection e with e; omega), by have := h2.size; omega⟩
  · unfold OwnS
    rw [List.length_set, tcl_set h s kk a b c0 c' hc]
    exact h1
  · rw [keyed_set s 0 kk hc]
    exact HES
set_option maxHeartbeats 4000000 in
set_option maxRecDepth 100000 in
theorem need_yes (h : Int) (v : Value) (L : List (Int × Int)) (w : World) (hh : ht h = true) (hr : Row w v L.length (L.flatMap ncl)) (hL : L.length ≤ 1048576) :
    Calls Try.prog 17 #[.int .i64 h, v] w (NeedRet h L w) := by
  have HH := Lib.hid hh
  clear hh
  obtain ⟨B, hB⟩ : ∃ B, w.heap.size = B := ⟨_, rfl⟩
  have HB := Lib.hid hB
  have hnl := ncl_len L
  have HNL := Lib.hid hnl
  have hlen := hr.small
  obtain ⟨va, vc, rfl, hro⟩ := Row.open hr
  clear hB hnl hr
  have hmm := @run_makeMap Try.prog
  go_enter Try.func17, Try.ntmps17
  go_wp2_with fail
  refine (height_calls h w).mono ?_
  rintro e w' ⟨rfl, rfl⟩
  rw [HH.out]
  go_wp2_with fail
  rw [HB.out]
  go_loopw [7, 22] (fun u i wr => ∃ (k : Nat) (s : List Tl) (es : Array MapEntry) (clock : Nat), k ≤ L.length ∧ i = .int .i64 (k : Int) ∧ NRel B B h L w k s es clock u wr) (fun _ i _ => L.length - (intOf i).toNat)
  case atStart =>
    refine ⟨0, [], #[], 0, Nat.zero_le _, rfl, OwnS.nil _ _ _, ?_, Lib.hid rfl, Lib.hid rfl, Nat.zero_le _, ?_, ?_⟩
    · rw [← HB.out]; exact heap_alloc_new w _
    · rw [← HB.out]; exact (Below.refl _ _).alloc (Nat.le_refl _) _
    · rw [← HB.out]; simp
  case round =>
    obtain ⟨k, s, es, clock, hk, rfl, hown, hmap, HES, HND, hsk, hbel, hBs⟩ := hrel
    obtain ⟨w0, hw0⟩ : ∃ w0 : World, w0 = wr := ⟨_, rfl⟩
    subst hw0
    have hrow : Row w0 (.slice va L.length vc) L.length (L.flatMap ncl) := hro.below (by rw [HB.out]; exact hbel)
    by_cases hlt : k < L.length
    · have d1 : decide ((k : Int) < (L.length : Int)) = true := decide_eq_true (by omega)
      have hne := ncl_at L k hlt
      have hdr := List.drop_eq_getElem_cons hlt
      obtain ⟨⟨n1, n2⟩, hn⟩ : ∃ n, L[k] = n := ⟨_, rfl⟩
      rw [hn] at hne hdr
      have hnd := HND.out
      rw [hdr] at hnd
      have HNE := Lib.hid hne
      rcases of_calls h (n1, n2) with ⟨ho, hc⟩ | ⟨a, b, c, x, y, ho, hc⟩
      · rw [needs, ho] at hnd
        have HN := Lib.hid hnd
        have HC := Lib.hid hc
        clear hne hdr hn hnd ho hc
        go_wp2_with (first | ((with_reducible refine gate_dst (N := 24) rfl ?_); go_loud (refine wp_index_load_agg rfl (fun _ => rfl) 33 23 _ _ 24 rfl rfl rfl Try.underlying33 sizeNd (by decide) aggNd rfl rfl hrow (ncl_len L) (fun _ => rfl) (us := [.int .i64 n1, .int .i64 n2]) (by omega) (by omega) HNE.out ?_); intro _) | (go_at_call 14; go_loud (refine (HC.out _).mono ?_); rintro e w2 ⟨rfl, hb2⟩))
        go_ret2
        refine ⟨?_, ?_⟩
        · rw [HB.out]
          exact (((hbel.alloc (by omega) _).trans (hb2.mono (by simp; omega))).alloc (by have := hb2.size; simp at this; omega) _)
        · rw [HN.out]
          rfl
      · rw [needs, ho] at hnd
        have HN := Lib.hid hnd
        have HC := Lib.hid hc
        clear hne hdr hn hnd ho hc
        cases hf : sfind a b s with
        | none =>
          have hlk : lookRes (pfind a b (keyed 0 s) 0) = .tuple #[.int .i64 0, .bool false] := by rw [keyed_find, hf]; rfl
          have HLK := Lib.hid hlk
          have hno : pfind a b (keyed 0 s) 0 = none := by rw [keyed_find, hf]; rfl
          have HNO := Lib.hid hno
          have HF := Lib.hid hf
          clear hf hlk hno
          go_wp2_with (first | ((with_reducible refine gate_dst (N := 24) rfl ?_); go_loud (refine wp_index_load_agg rfl (fun _ => rfl) 33 23 _ _ 24 rfl rfl rfl Try.underlying33 sizeNd (by decide) aggNd rfl rfl hrow (ncl_len L) (fun _ => rfl) (us := [.int .i64 n1, .int .i64 n2]) (by omega) (by omega) HNE.out ?_); intro _) | (go_at_call 14; go_loud (refine (HC.out _).mono ?_); rintro e w2 ⟨rfl, hb2⟩) | ((with_reducible refine gate_dst (N := 10) rfl ?_); go_loud (refine wp_alloc rfl _ rfl zeroS ?_); intro w3 hk3 hb3 hz3) | (((with_reducible refine gate_store (t := 25) (p := 10) rfl ?_); go_loud (refine wp_store_blk rfl 25 _ _ rfl rfl sizeS rfl hk3 (rfl) (v := .agg #[.int .i64 h, .int .i64 a, .int .i64 b, .int .i64 c]) rfl (rfl) ((four_one h a b c)) ?_); intro w4 hk4 hg4); obtain ⟨hown4, hmap4, hbel4, hB2, hz4⟩ := step4 hbel hBs hown hmap hb2 hb3 hz3 hg4; have cA := hk4.cell 0; have cB := hk4.cell 1; have cC := hk4.cell 2; have cD := hk4.cell 3; simp only [Value.cells, List.getElem?_cons_zero, List.getElem?_cons_succ] at cA cB cC cD) | ((with_reducible refine gate_dst (N := 44) rfl ?_); go_loud (refine wp_look rfl _ _ rfl rfl (p := a) (q := b) rfl (es := es) (clock := clock) hmap4 HES.out HLK.out ?_)) | ((with_reducible refine gate_dst (N := 56) rfl ?_); go_loud (refine wp_len rfl _ 34 25 rfl Try.underlying34 rfl (Row.of_own hown4) ?_)) | ((with_reducible refine gate_mput rfl ?_); go_loud (refine wp_mput rfl _ _ _ rfl rfl rfl (p := a) (q := b) rfl (v := .int .i64 (s.length : Int)) rfl (es := es) (clock := clock) hmap4 HES.out HNO.out ?_); intro w5 hmap5 hg5; obtain ⟨hown5, hk5, hbel5⟩ := step5 hown4 hk4 hbel4 hB2 hg5) | ((with_reducible refine gate_dst (N := 58) rfl ?_); go_loud (refine wp_load_blk rfl 25 _ rfl aggS sizeS rfl hk5 (rfl) ?_)) | ((with_reducible refine gate_dst (N := 60) rfl ?_); (refine wp_append rfl (.tmp 57) (.tmp 59) 34 25 rfl Try.underlying34 infoS rfl (by decide) (base := B + 1) (n := s.length) (xs := s.flatMap (tcl h)) rfl (World.ownsRow.alloc hown5 _) (m := 1) (cs := [.int .i64 h, .int .i64 a, .int .i64 b, .int .i64 c]) rfl (Row.lit _ [.int .i64 h, .int .i64 a, .int .i64 b, .int .i64 c] _ 1 (by unfold maxLen; omega)) rfl (by intro u hu; simp only [List.mem_cons, List.not_mem_nil, or_false] at hu; rcases hu with rfl | rfl | rfl | rfl <;> rfl) (by unfold maxLen; omega) (by omega) (by have := hg5.size; simp; omega) ?_); intro v' w6 hown6 hgrow6))
          have e1 : upd s (a, b, c) = s ++ [(a, b, c)] := by unfold upd; rw [HF.out]
          obtain ⟨hown7, hmap7, hbel7, hB7⟩ := step6 (c := c) hown5 hmap5 hbel5 hg5 hown6 hgrow6
          go_roundw
          case rel =>
            refine ⟨k + 1, s ++ [(a, b, c)], _, _, by omega, by first | rfl | go_num, hown7, hmap7, ?_, ?_, by simp; omega, hbel7, hB7⟩
            · refine Lib.hid ?_
              rw [keyed_app, List.map_append, Array.toList_push, List.map_append, HES.out]
              simp
            · rw [← e1]; exact HN
          case measure => simp [intOf]; omega
        | some kk =>
          obtain ⟨c0, hc0⟩ := sfind_some hf
          have hkl := sfind_lt hf
          have hlk : lookRes (pfind a b (keyed 0 s) 0) = .tuple #[.int .i64 (kk : Int), .bool true] := by rw [keyed_find, hf]; simp [lookRes]
          have HLK := Lib.hid hlk
          have HF := Lib.hid hf
          have HC0 := Lib.hid hc0
          obtain ⟨g, cap, rfl, hgB, hgw, hcl0, hfr0⟩ := OwnS.at hown hc0
          have HCL := Lib.hid hcl0
          have i1 : (kk : Int) < (s.length : Int) := by omega
          clear hf hlk hc0 hcl0 hfr0
          go_wp2_with (first | ((with_reducible refine gate_dst (N := 24) rfl ?_); go_loud (refine wp_index_load_agg rfl (fun _ => rfl) 33 23 _ _ 24 rfl rfl rfl Try.underlying33 sizeNd (by decide) aggNd rfl rfl hrow (ncl_len L) (fun _ => rfl) (us := [.int .i64 n1, .int .i64 n2]) (by omega) (by omega) HNE.out ?_); intro _) | (go_at_call 14; go_loud (refine (HC.out _).mono ?_); rintro e w2 ⟨rfl, hb2⟩) | ((with_reducible refine gate_dst (N := 10) rfl ?_); go_loud (refine wp_alloc rfl _ rfl zeroS ?_); intro w3 hk3 hb3 hz3) | (((with_reducible refine gate_store (t := 25) (p := 10) rfl ?_); go_loud (refine wp_store_blk rfl 25 _ _ rfl rfl sizeS rfl hk3 (rfl) (v := .agg #[.int .i64 h, .int .i64 a, .int .i64 b, .int .i64 c]) rfl (rfl) ((four_one h a b c)) ?_); intro w4 hk4 hg4); obtain ⟨hown4, hmap4, hbel4, hB2, hz4⟩ := step4 hbel hBs hown hmap hb2 hb3 hz3 hg4; have cA := hk4.cell 0; have cB := hk4.cell 1; have cC := hk4.cell 2; have cD := hk4.cell 3; simp only [Value.cells, List.getElem?_cons_zero, List.getElem?_cons_succ] at cA cB cC cD) | ((with_reducible refine gate_dst (N := 44) rfl ?_); go_loud (refine wp_look rfl _ _ rfl rfl (p := a) (q := b) rfl (es := es) (clock := clock) hmap4 HES.out HLK.out ?_)))
          obtain ⟨g', cap', hv', hgB', hgw', hcl, hfr⟩ := OwnS.at hown4 HC0.out
          simp only [Value.slice.injEq, Option.some.injEq, Addr.mk.injEq, and_true, true_and] at hv'
          obtain ⟨rfl, rfl⟩ := hv'
          have hcw := hcl 3 _ (by omega) rfl
          have hfw := hfr (kk * 4 + 3)
          have hfin : ∀ u, (w4.setCell ⟨g, kk * 4 + 3, none⟩ u).drew.ownsRow (B + 1) 25 4 (.slice (some ⟨g, 0, none⟩) s.length cap) s.length ((s.flatMap (tcl h)).set (kk * 4 + 3) u) ∧ w4.grownBy (w4.setCell ⟨g, kk * 4 + 3, none⟩ u).drew (some g) := by
            intro u
            obtain ⟨q1, q2⟩ := World.ownsRow.stored hown4 (kk * 4 + 3) u
            exact ⟨q1, ⟨q2.os, q2.tape, q2.output, q2.size, q2.block⟩⟩
          have HFIN := Lib.hid hfin
          clear hfin
          clear hcl hfr hgw'
          by_cases hmx : c0 < c
          · have d2 : decide (c0 < c) = true := decide_eq_true hmx
            go_region
            all_goals
              go_wp2_with fail
              go_roundw
              case rel =>
                refine ⟨k + 1, s.set kk (a, b, c), es, clock, by omega, by first | rfl | go_num, ?_⟩
                refine step7 (c' := c) HC0.out (HFIN.out _) hown4 hmap4 hbel4 (by omega) hgB HES (by rw [HN.out, upd_at HF.out HC0.out, Int.max_eq_right (by omega)]) hsk
              case measure => simp [intOf]; omega
          · have d2 : decide (c0 < c) = false := decide_eq_false hmx
            go_region
            all_goals
              go_wp2_with fail
              go_roundw
              case rel =>
                refine ⟨k + 1, s.set kk (a, b, c0), es, clock, by omega, by first | rfl | go_num, ?_⟩
                refine step7 (c' := c0) HC0.out (HFIN.out _) hown4 hmap4 hbel4 (by omega) hgB HES (by rw [HN.out, upd_at HF.out HC0.out, Int.max_eq_left (by omega)]) hsk
              case measure => simp [intOf]; omega
    · have hke : k = L.length := by omega
      have hnd := HND.out
      rw [hke, List.drop_length, needs] at hnd
      have HN := Lib.hid hnd
      clear hnd hke
      have d1 : decide ((k : Int) < (L.length : Int)) = false := decide_eq_false (by omega)
      go_wp2_with fail
      go_ret2
      refine ⟨by rw [HB.out]; exact hbel, ?_⟩
      rw [HN.out]
      exact ⟨_, rfl, by rw [HB.out]; exact own_mono hown (by omega)⟩
end Go.Proofs.Ytmiffljcggfcgaa.Til
