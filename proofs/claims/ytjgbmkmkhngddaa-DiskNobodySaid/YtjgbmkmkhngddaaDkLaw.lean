/- The law DiskNobody: its walk. -/
import Derived.RangeFuncNested
import Derived.RangeFuncBound
import Derived.RangeFuncCalls
import Derived.RangeFuncLeaves
import Derived.Shelf.Abstract
import Derived.WalkKit
import Derived.OwnWalkIn
import Derived.TacticsInMore
import Derived.LoopNIn
import Derived.LoopIn
import Derived.BigRegionIn
import Derived.Test.YtjgbmkmkhngddaaDkNob
import Derived.Test.YtjgbmkmkhngddaaFn
namespace Go.Proofs.Ytjgbmkmkhngddaa.Nob
open Go Go.RowKit Go.Shelf Go.Proofs.Ytjgbmkmkhngddaa.Cop Go.Proofs.Ytjgbmkmkhngddaa.Oct
set_option linter.unusedVariables false
set_option linter.unusedSimpArgs false
attribute [local go_sem] Oper.semAt_some

theorem list_calls (v : Value) (w : World) (hv : NoDisk w v) : Calls Try.prog 6 #[v] w fun e w' => e = .returned (.func (.func 24) #[] #[.pointer (some ⟨w.heap.size, 0, none⟩)]) ∧ Blk w' w.heap.size 25 [v] ∧ Below w.heap.size w w' := by
  go_enter Try.func6, Try.ntmps6
  go_wp2_with ((with_reducible refine gate_dst (N := 1) rfl ?_); go_loud (refine wp_box rfl _ _ rfl (v := v) rfl ?_); intro w1 hk1 hb1 hz1)
  go_ret
  refine ⟨rfl, ?_, hb1⟩
  rcases hv with rfl | ⟨b, rfl, _⟩ <;> exact hk1
set_option maxRecDepth 100000 in
/-- The loop over the names of a disk that no call made: there are none. -/
theorem list_stops (Bs : Nat) (v : Value) (w : World) (h1 : Bs < w.heap.size) (hv : NoDisk w v) (hBs : w.cell? ⟨Bs, 0, none⟩ = some v) :
    SeqStopsK Fence.wide 2 Try.prog 24 #[.pointer (some ⟨Bs, 0, none⟩)] (fun x : ByteArray => #[.string x]) (fun _ _ => True) (fun ys => ys = []) (fun _ => True) 0 w := by
  intro l J Jx W hW hJ hJx hY h0
  have hc1 := (hW.cell (p := ⟨Bs, 0, none⟩) h1).trans hBs
  have hv1 := hv.below hW
  refine callsIn_of_wp Try.func24 rfl trivial ?_ rfl
  simp only [Try.ntmps24, List.size_toArray, List.length_cons, List.length_nil, Nat.reduceAdd, Nat.reduceSub, Array.replicate_succ, Array.replicate_zero, List.push_toArray, List.append_toArray, List.nil_append, List.cons_append]
  gi_wp2_with (refine ⟨trivial, ?_⟩; gi_at_call 25; refine (callsIn_wide.2 (none_calls v _ hv1)).mono ?_; rintro e w' ⟨rfl, rfl⟩)
  exact bodyPost_ret (results_none rfl _ _ _) rfl ⟨⟨_, rfl⟩, .inl ⟨[], rfl, h0⟩⟩


theorem frame_ex {F : (Nat → Value) → Act} {a : Act} (h : a = F (fun i => a.tmps.getD i undef)) : ∃ u, a = F u := ⟨_, h⟩
/-- What is put off to the function's end: an empty heap of deferred calls for each loop that is through. -/
def Dk (b rd : Nat) (D : List Deferred) (W : World) : Prop :=
  (rd = 0 ∧ D = []) ∨ (rd = 1 ∧ ∃ k, D = [{ target := .collected k, args := #[] }] ∧ b ≤ k ∧ W.heap[k]? = some (.deferred (some []))) ∨
  (rd = 2 ∧ ∃ k m, D = [{ target := .collected m, args := #[] }, { target := .collected k, args := #[] }] ∧ b ≤ k ∧ k < m ∧ W.heap[k]? = some (.deferred (some [])) ∧ W.heap[m]? = some (.deferred (some [])))
theorem dk_more {b nb rd m : Nat} {D : List Deferred} {W V : World} (h1 : rd < 2) (hb : b ≤ m) (hD : Dk b rd D W) (hV : Below nb W V) (hm : nb ≤ m) (hd : V.heap[m]? = some (.deferred (some []))) (hnb : W.heap.size = nb := by omega) :
    Dk b (rd + 1) ({ target := .collected m, args := #[] } :: D) V := by
  have keep : ∀ k, W.heap[k]? = some (.deferred (some [])) → k < nb ∧ V.heap[k]? = some (.deferred (some [])) := by
    intro k hk
    have hlt : k < nb := by rw [← hnb]; exact (Array.getElem?_eq_some_iff.1 hk).1
    exact ⟨hlt, (hV.block k hlt).trans hk⟩
  rcases hD with ⟨rfl, rfl⟩ | ⟨rfl, k, rfl, hk1, hk2⟩ | ⟨rfl, _⟩
  · exact .inr (.inl ⟨rfl, m, rfl, hb, hd⟩)
  · obtain ⟨q1, q2⟩ := keep k hk2
    exact .inr (.inr ⟨rfl, k, m, rfl, hk1, by omega, q2, hd⟩)
  · omega

theorem dk_alloc {b rd : Nat} {D : List Deferred} {W : World} (h : Dk b rd D W) (o : Obj) : Dk b rd D (W.alloc o) := by
  have keep : ∀ k, W.heap[k]? = some (Obj.deferred (some [])) → (W.alloc o).heap[k]? = some (Obj.deferred (some [])) :=
    fun k hk => (Lib.alloc_old W o k (Array.getElem?_eq_some_iff.1 hk).1).trans hk
  rcases h with h | ⟨h1, k, h2, h3, h4⟩ | ⟨h1, k, m, h2, h3, h4, h5, h6⟩
  · exact .inl h
  · exact .inr (.inl ⟨h1, k, h2, h3, keep k h4⟩)
  · exact .inr (.inr ⟨h1, k, m, h2, h3, h4, keep k h5, keep m h6⟩)
theorem dk_set {b rd : Nat} {D : List Deferred} {W : World} (h : Dk b rd D W) {p : Addr} (hp : p.block < b) (v : Value) : Dk b rd D (W.setCell p v) := by
  have keep : ∀ k, b ≤ k → W.heap[k]? = some (Obj.deferred (some [])) → (W.setCell p v).heap[k]? = some (Obj.deferred (some [])) :=
    fun k hb hk => (Below.heap_setCell _ _ _ _ (by omega)).trans hk
  rcases h with h | ⟨h1, k, h2, h3, h4⟩ | ⟨h1, k, m, h2, h3, h4, h5, h6⟩
  · exact .inl h
  · exact .inr (.inl ⟨h1, k, h2, h3, keep k h3 h4⟩)
  · exact .inr (.inr ⟨h1, k, m, h2, h3, h4, keep k h3 h5, keep m (by omega) h6⟩)
theorem put_block (W : World) (k j : Nat) (o : Obj) (h : j ≠ k) : (W.putObj k o).heap[j]? = W.heap[j]? := by
  simp [World.putObj, Array.getElem?_setIfInBounds, Ne.symm h]
theorem put_below {B k : Nat} {w W : World} (h : Below B w W) (hk : B ≤ k) (o : Obj) : Below B w (W.putObj k o) := by
  exact ⟨h.1, h.2, h.3, by simpa [World.putObj] using h.4, fun j hj => (put_block W k j o (by omega)).trans (h.5 j hj)⟩


set_option maxRecDepth 100000 in
set_option maxHeartbeats 4000000 in
theorem disk_law (k a n : Int) (s t : ByteArray) (r : Value) (w : World) :
    Calls Try.prog 3 #[.agg #[.int .i64 k, .string s, .string t, r, .int .i64 a, .int .i64 n]] w fun e w' => e = .returned (.bool true) ∧ Below w.heap.size w w' := by
  refine (callsIn_wide (n := 3)).1 ?_
  refine callsIn_of_wp_marks Try.func3 rfl trivial ?_ rfl
  simp only [Try.ntmps3, List.size_toArray, List.length_cons, List.length_nil, Nat.reduceAdd, Nat.reduceSub, Array.replicate_succ, Array.replicate_zero, List.push_toArray, List.append_toArray, List.nil_append, List.cons_append]
  gi_wp2_with (first | (refine ⟨trivial, ?_⟩; gi_at_call 5; refine (callsIn_wide.2 (new_calls _)).mono ?_; rintro e w1 ⟨own, rfl, hm1, hb1⟩))
  -- LOOP
  obtain ⟨B, hB⟩ : ∃ B, w.heap.size = B := ⟨_, rfl⟩
  obtain ⟨C, hC⟩ : ∃ C, w1.heap.size = C := ⟨_, rfl⟩
  have hBC : B + 1 ≤ C := by
    have := hb1.size
    rw [World.size_alloc, hB, hC] at this
    omega
  have hx1 : Blk w1 B 24 [.int .i64 k, .string s, .string t, r, .int .i64 a, .int .i64 n] := by
    rw [← hB]; exact (Blk.new w _ _).below hb1
  have hbw1 : Below B w w1 := by
    rw [← hB]; exact ((Below.refl _ w).alloc (Nat.le_refl _) _).trans (hb1.mono (by simp))
  obtain ⟨X, hXe⟩ : ∃ X, ((w1.alloc (.cells #[.int .i64 0, .map none, .slice none 0 0] 32)).alloc (.cells #[.pointer none, .pointer (some ⟨w1.heap.size, 0, none⟩)] 25)) = X := ⟨_, rfl⟩
  have hXs : X.heap.size = C + 2 := by rw [← hXe, World.size_alloc, World.size_alloc, hC]
  have hXb : Below C w1 X := by rw [← hXe, ← hC]; exact ((Below.refl _ w1).alloc (Nat.le_refl _) _).alloc (by simp) _
  have X1 : Blk X B 24 [.int .i64 k, .string s, .string t, r, .int .i64 a, .int .i64 n] := (hXb.block B (by omega)).trans hx1
  have XM : Made X own := hm1.below (by rw [hC]; exact hXb)
  have X3 : Blk X C 32 [.int .i64 0, .map none, .slice none 0 0] := by
    rw [← hXe, ← hC]; exact (Blk.new w1 _ _).below ((Below.refl _ _).alloc (Nat.le_refl _) _)
  have X4 : Blk X (C + 1) 25 [.pointer none, .pointer (some ⟨C, 0, none⟩)] := by
    rw [← hXe, ← hC]
    have h := Blk.new (w1.alloc (.cells #[.int .i64 0, .map none, .slice none 0 0] 32)) [.pointer none, .pointer (some ⟨w1.heap.size, 0, none⟩)] 25
    rwa [World.size_alloc] at h
  have XB : Below B w X := hbw1.trans (hXb.mono (by omega))
  rw [hXe, hB, hC]
  have HBW := Lib.hid hB
  clear hXe hXb hx1 hbw1 hm1 hb1 hB hC
  refine wpIn_loop (fun a' W => ∃ (kk : Nat) (D : List Deferred), kk ≤ 2 ∧ Below (C + 2) X W ∧ Dk (C + 2) kk D W ∧ ∃ u : Nat → Value, a' = { tmps := #[.agg #[.int .i64 k, .string s, .string t, r, .int .i64 a, .int .i64 n], .pointer (some ⟨B, 0, none⟩), .bool false, own, .int .i64 0, undef, u 6, u 7, u 8, u 9, u 10, u 11, u 12, u 13, u 14, u 15, undef, .tuple #[own, .int .i64 0], .tuple #[own, .int .i64 0], own, .int .i64 0, .agg #[.int .i64 0, .map none, .slice none 0 0], .pointer (some ⟨C, 0, none⟩), .slice (some ⟨C + 1, 0, none⟩) 2 2, .int .i64 2, .int .i64 (kk : Int), u 26, u 27, u 28, u 29, u 30, u 31, u 32, u 33, u 34, u 35, u 36, u 37, u 38, u 39, u 40, u 41, u 42, u 43, u 44, u 45, u 46, u 47, u 48, u 49, u 50, u 51, u 52, u 53, u 54, u 55, u 56, u 57, u 58, u 59, u 60, u 61, u 62, u 63, u 64, u 65, u 66, u 67, u 68, u 69, u 70, u 71, u 72, u 73, u 74, u 75, u 76, u 77, u 78, u 79, u 80, u 81, u 82, u 83, u 84, u 85, u 86, u 87, u 88, u 89, u 90, u 91, u 92, u 93, u 94, u 95, u 96, u 97, u 98, u 99, u 100, u 101, u 102, u 103, u 104, u 105, u 106, u 107, u 108, u 109, u 110, u 111, u 112, u 113, u 114, u 115, u 116, u 117, u 118, u 119, u 120, u 121, u 122, u 123, u 124, u 125, u 126, u 127, u 128, u 129, u 130, u 131, u 132, u 133, u 134, u 135, u 136, u 137, u 138, u 139, u 140, u 141, u 142, u 143, u 144, u 145, u 146, u 147, u 148, u 149, u 150, u 151, u 152, u 153, u 154, u 155, u 156, u 157, u 158, u 159, u 160, u 161, u 162, u 163, u 164, u 165, undef, undef], defers := D }) (fun a' _ => (2 - intOf (a'.tmps.getD 25 undef)).toNat) ?start ?round
  case start =>
    exact ⟨0, [], by omega, Below.refl _ _, .inl ⟨rfl, rfl⟩, frame_ex rfl⟩
  case round =>
    rintro a' W ⟨kk, D, hkk, hX, hD, u, rfl⟩
    have hWs : C + 2 ≤ W.heap.size := by have := hX.size; omega
    have G1 : Blk W B 24 [.int .i64 k, .string s, .string t, r, .int .i64 a, .int .i64 n] := (hX.block B (by omega)).trans X1
    have G3 : Blk W C 32 [.int .i64 0, .map none, .slice none 0 0] := (hX.block C (by omega)).trans X3
    have G4 : Blk W (C + 1) 25 [.pointer none, .pointer (some ⟨C, 0, none⟩)] := (hX.block (C + 1) (by omega)).trans X4
    have GM : Made W own := XM.below (by rw [hXs]; exact hX)
    have n0 : NoDisk W (.pointer none) := .inl rfl
    have n1 : NoDisk W (.pointer (some ⟨C, 0, none⟩)) := .inr ⟨_, rfl, G3.cell 1⟩
    have c0 := G4.cell 0
    have c1 := G4.cell 1
    rw [List.getElem?_cons_zero] at c0
    rw [List.getElem?_cons_succ, List.getElem?_cons_zero] at c1
    have NB := Lib.hid n0
    have NC := Lib.hid n1
    have HG1 := Lib.hid G1
    have HGM := Lib.hid GM
    have HX := Lib.hid hX
    have HD := Lib.hid hD
    clear n0 n1 G1 G3 G4 GM hX hD X1 XM X3 X4
    rcases (show kk = 0 ∨ kk = 1 ∨ kk = 2 by omega) with rfl | rfl | rfl
    · gi_wp2_with fail
      obtain ⟨nb, hnb⟩ : ∃ nb, W.heap.size = nb := ⟨_, rfl⟩
      have hb0 : Below W.heap.size W (W.alloc (.cells #[.int .i64 0] 3)) := (Below.refl _ _).alloc (Nat.le_refl _) _
      have hk0 : Blk (W.alloc (.cells #[.int .i64 0] 3)) nb 3 [.int .i64 0] := by rw [← hnb]; exact Blk.new W [.int .i64 0] 3
      rw [hnb] at hWs
      refine ⟨trivial, (callsIn_wide.2 (list_calls (.pointer none) _ (NB.out.below hb0))).mono ?_⟩
      rintro e w2 ⟨rfl, hl2, hb2⟩
      gi_wp2_with ((with_reducible refine gateI (N := 31) rfl ?_); go_loud (refine wpI_eql_func (fun _ => trivial) rfl _ _ _ rfl Try.underlying35 rfl ?_))
      have hb02 := hb0.trans (hb2.mono hb0.size)
      have nv2 := NB.out.below hb02
      refine ⟨trivial, (callsIn_wide.2 (list_calls (.pointer none) w2 nv2)).mono ?_⟩
      rintro e w3 ⟨rfl, hl3, hb3⟩
      have hb03 : Below nb W w3 := by rw [← hnb]; exact hb02.trans (hb3.mono hb02.size)
      have hk3 : Blk w3 nb 3 [.int .i64 0] := (hk0.below hb2).below hb3
      have nv3 := nv2.below hb3
      have hm3 : Made w3 own := HGM.out.below (by rw [hnb]; exact hb03)
      have ha3 : Blk w3 B 24 [.int .i64 k, .string s, .string t, r, .int .i64 a, .int .i64 n] := HG1.out.below (by rw [hnb]; exact hb03)
      obtain ⟨b3, hb3e⟩ : ∃ b3, w2.heap.size = b3 := ⟨_, rfl⟩
      rw [hb3e] at hl3 ⊢
      have hc3 : w3.cell? ⟨b3, 0, none⟩ = some (.pointer none) := by simpa using hl3.cell 0
      have hlt3 := hl3.lt
      have FACT : ∀ V, Below w3.heap.size w3 V → NoDisk V (.pointer none) ∧ Made V own ∧ V.cell? ⟨B, 1, none⟩ = some (.string s) ∧ V.cell? ⟨B, 2, none⟩ = some (.string t) ∧ V.cell? ⟨B, 3, none⟩ = some r ∧ V.cell? ⟨B, 4, none⟩ = some (.int .i64 a) ∧ V.cell? ⟨B, 5, none⟩ = some (.int .i64 n) ∧ V.cell? ⟨nb, 0, none⟩ = some (.int .i64 0) := by
        intro V hV
        have h1 := ha3.below hV
        exact ⟨nv3.below hV, hm3.below hV, h1.cell 1, h1.cell 2, h1.cell 3, h1.cell 4, h1.cell 5, (hk3.below hV).cell 0⟩
      have HFACT := Lib.hid FACT
      have HB03 := Lib.hid hb03
      have HNB := Lib.hid hnb
      have hs3 : nb < w3.heap.size := hk3.lt
      clear FACT hl2 hb2 hb02 nv2 hb3 hk0 hb0 hk3 hm3 ha3 hl3 hb03 hnb
      gi_wp2_with fail
      refine wpIn_rangeFunc_ownG rfl (by decide) (gf := 24) (lb := #[.pointer (some ⟨b3, 0, none⟩)]) rfl trivial (enters_of Try.func24 (by kernel_rfl) rfl)
        (list_stops b3 (.pointer none) w3 hlt3 nv3 hc3) (fun _ _ => trivial) (fun _ _ _ _ _ _ _ _ => trivial) (Below.refl _ _) (fun _ => rfl)
        (fun _ V => Below w3.heap.size w3 V) (fun _ _ _ => False) ?hI (fun _ _ _ _ _ hs _ _ => hs) (Below.refl _ _)
        (fun x => { tmps := #[.agg #[.int .i64 k, .string s, .string t, r, .int .i64 a, .int .i64 n], .pointer (some ⟨B, 0, none⟩), .bool false, own, .int .i64 0, undef, (.pointer none), .pointer (some ⟨nb, 0, none⟩), u 8, u 9, u 10, u 11, u 12, u 13, u 14, u 15, undef, .tuple #[own, .int .i64 0], .tuple #[own, .int .i64 0], own, .int .i64 0, .agg #[.int .i64 0, .map none, .slice none 0 0], .pointer (some ⟨C, 0, none⟩), .slice (some ⟨C + 1, 0, none⟩) 2 2, .int .i64 2, .int .i64 0, .bool true, .pointer (some ⟨C + 1, 0, none⟩), (.pointer none), (.pointer none), .func (.func 24) #[] #[.pointer (some ⟨nb + 1, 0, none⟩)], .bool false, (.pointer none), .func (.func 24) #[] #[.pointer (some ⟨b3, 0, none⟩)], .string x, u 35, u 36, u 37, u 38, u 39, u 40, u 41, u 42, u 43, u 44, u 45, u 46, u 47, u 48, u 49, u 50, u 51, u 52, u 53, u 54, u 55, u 56, u 57, u 58, u 59, u 60, u 61, u 62, u 63, u 64, u 65, u 66, u 67, u 68, u 69, u 70, u 71, u 72, u 73, u 74, u 75, u 76, u 77, u 78, u 79, u 80, u 81, u 82, u 83, u 84, u 85, u 86, u 87, u 88, u 89, u 90, u 91, u 92, u 93, u 94, u 95, u 96, u 97, u 98, u 99, u 100, u 101, u 102, u 103, u 104, u 105, u 106, u 107, u 108, u 109, u 110, u 111, u 112, u 113, u 114, u 115, u 116, u 117, u 118, u 119, u 120, u 121, u 122, u 123, u 124, u 125, u 126, u 127, u 128, u 129, u 130, u 131, u 132, u 133, u 134, u 135, u 136, u 137, u 138, u 139, u 140, u 141, u 142, u 143, u 144, u 145, u 146, u 147, u 148, u 149, u 150, u 151, u 152, u 153, u 154, u 155, u 156, u 157, u 158, u 159, u 160, u 161, u 162, u 163, u 164, u 165, undef, undef], defers := [] }) ?assign ?body ?done ?stop
      case hI =>
        intro pre V V' row hB hg hr
        exact hB.grown hg hB.size (fun k e => (hr k e).1)
      case assign =>
        intro l x V K hK
        gi_wp2_with fail
        exact hK
      case body =>
        intro l pre x V _ h
        exact absurd h (Nat.not_lt_zero _)
      case stop =>
        rintro Dn c pre V _ _ h _
        exact h.elim
      case done =>
        rintro Dn ys V hDn rfl hB hdf
        have hDlt : Dn < V.heap.size := (Array.getElem?_eq_some_iff.1 hdf).1
        have hBDn : ∀ V', Below V.heap.size V V' → V'.heap[Dn]? = some (.deferred (some [])) := fun V' h => (h.block Dn hDlt).trans hdf
        have HBDN := Lib.hid hBDn
        clear hBDn
        clear nv3 hc3
        obtain ⟨q1, q2, q3, q4, q5, q6, q7, q8⟩ := HFACT.out V hB
        gi_wp2_with fail
        refine ⟨trivial, (callsIn_wide.2 (read_calls (.pointer none) s a n V q1)).mono ?_⟩
        rintro e w' ⟨rfl, rfl⟩
        gi_wp2_with fail
        refine ⟨trivial, (callsIn_wide.2 (size_calls (.pointer none) s V q1)).mono ?_⟩
        rintro e w' ⟨rfl, rfl⟩
        gi_wp2_with fail
        have hraw := raw_calls (.pointer none) n V q1
        unfold rawz at hraw
        refine ⟨trivial, (callsIn_wide.2 hraw).mono ?_⟩
        rintro e V2 ⟨rfl, hB2⟩
        clear hraw q1 q2 q3 q4 q5 q6 q7 q8
        have hBV2 := hB.trans (hB2.mono hB.size)
        have hBV3 := hBV2.alloc (by have := hBV2.size; omega) (.cells #[.int .i64 0, .string ⟨#[]⟩, .slice none 0 0, .int .i64 0, .string ⟨#[]⟩] 42)
        obtain ⟨q1, q2, q3, q4, q5, q6, q7, q8⟩ := HFACT.out _ hBV3
        gi_wp2_with fail
        have hkr := Blk.new V2 [.int .i64 0, .string ⟨#[]⟩, .slice none 0 0, .int .i64 0, .string ⟨#[]⟩] 42
        obtain ⟨V3, hV3⟩ : ∃ V3, V2.alloc (.cells #[.int .i64 0, .string ⟨#[]⟩, .slice none 0 0, .int .i64 0, .string ⟨#[]⟩] 42) = V3 := ⟨_, rfl⟩
        have hkr3 : Blk V3 V2.heap.size 42 [.int .i64 0, .string ⟨#[]⟩, .slice none 0 0, .int .i64 0, .string ⟨#[]⟩] := by rw [← hV3]; exact hkr
        obtain ⟨rb, hrb⟩ : ∃ rb, V2.heap.size = rb := ⟨_, rfl⟩
        have hq3x : Below V.heap.size V V3 := by rw [← hV3]; exact hB2.alloc (by have := hB2.size; omega) _
        have HQ3x := Lib.hid hq3x
        clear hq3x
        rw [hV3] at hBV3 q1 q2 q3 q4 q5 q6 q7 q8
        rw [hV3, hrb]
        rw [hrb] at hkr3
        clear hkr hV3 hrb
        refine ⟨trivial, (callsIn_wide.2 (after_calls (.pointer none) n V3 q1)).mono ?_⟩
        rintro e w' ⟨rfl, rfl⟩
        gi_wp2_with fail
        refine ⟨trivial, (callsIn_wide.2 (create_calls (.pointer none) s V3 q1)).mono ?_⟩
        rintro e w' ⟨rfl, rfl⟩
        gi_wp2_with fail
        refine ⟨trivial, (callsIn_wide.2 (append_calls (.pointer none) s r V3 q1)).mono ?_⟩
        rintro e w' ⟨rfl, rfl⟩
        gi_wp2_with fail
        refine ⟨trivial, (callsIn_wide.2 (cut_calls (.pointer none) s a V3 q1)).mono ?_⟩
        rintro e w' ⟨rfl, rfl⟩
        gi_wp2_with fail
        refine ⟨trivial, (callsIn_wide.2 (remove_calls (.pointer none) s V3 q1)).mono ?_⟩
        rintro e w' ⟨rfl, rfl⟩
        gi_wp2_with fail
        refine ⟨trivial, (callsIn_wide.2 (rename_calls (.pointer none) s t V3 q1)).mono ?_⟩
        rintro e w' ⟨rfl, rfl⟩
        have r0 := hkr3.cell 0
        have r1 := hkr3.cell 1
        have r2 := hkr3.cell 2
        have r3 := hkr3.cell 3
        have r4 := hkr3.cell 4
        rw [List.getElem?_cons_zero] at r0
        rw [List.getElem?_cons_succ, List.getElem?_cons_zero] at r1
        rw [List.getElem?_cons_succ, List.getElem?_cons_succ, List.getElem?_cons_zero] at r2
        rw [List.getElem?_cons_succ, List.getElem?_cons_succ, List.getElem?_cons_succ, List.getElem?_cons_zero] at r3
        rw [List.getElem?_cons_succ, List.getElem?_cons_succ, List.getElem?_cons_succ, List.getElem?_cons_succ, List.getElem?_cons_zero] at r4
        gi_wp2_with fail
        have hraws := raws_calls V3
        unfold rawz at hraws
        refine ⟨trivial, (callsIn_wide.2 hraws).mono ?_⟩
        rintro e V4 ⟨rfl, hB4⟩
        clear hraws r0 r1 r2 r3 r4 q1 q2 q3 q4 q5 q6 q7 q8
        have hBV4 := hBV3.trans (hB4.mono hBV3.size)
        have hq4x : Below V.heap.size V V4 := HQ3x.out.trans (hB4.mono (by have := HQ3x.out.size; omega))
        obtain ⟨q1, q2, q3, q4, q5, q6, q7, q8⟩ := HFACT.out V4 hBV4
        clear q3 q4 q5 q6 q7 q8
        gi_wp2_with fail
        refine ⟨trivial, (callsIn_wide.2 (writes_calls (.pointer none) V4 q1)).mono ?_⟩
        rintro e w' ⟨rfl, rfl⟩
        gi_wp2_with fail
        refine ⟨trivial, (callsIn_wide.2 (sector_calls (.pointer none) V4 q1)).mono ?_⟩
        rintro e w' ⟨rfl, rfl⟩
        gi_wp2_with fail
        refine ⟨trivial, (callsIn_wide.2 (same_left (.pointer none) own V4 q1 q2)).mono ?_⟩
        rintro e w' ⟨rfl, rfl⟩
        gi_wp2_with fail
        refine ⟨trivial, (callsIn_wide.2 (same_right (.pointer none) own V4 q1 q2)).mono ?_⟩
        rintro e w' ⟨rfl, rfl⟩
        have hWV : Below nb W V4 := HB03.out.trans (hBV4.mono (by omega))
        have hD' : Dk (C + 2) (0 + 1) ({ target := .collected Dn, args := #[] } :: D) V4 := dk_more (by omega) (by omega) HD.out hWV (by omega) ((HBDN.out V4 hq4x)) HNB.out
        have HDD := Lib.hid hD'
        have hXV : Below (C + 2) X V4 := HX.out.trans (hWV.mono (by omega))
        have HXV := Lib.hid hXV
        clear hD' hXV hWV
        gi_wp2_with fail
        exact ⟨⟨0 + 1, _, by omega, HXV.out, HDD.out, frame_ex rfl⟩, by simp [intOf]⟩
    · gi_wp2_with fail
      obtain ⟨nb, hnb⟩ : ∃ nb, W.heap.size = nb := ⟨_, rfl⟩
      have hb0 : Below W.heap.size W (W.alloc (.cells #[.int .i64 0] 3)) := (Below.refl _ _).alloc (Nat.le_refl _) _
      have hk0 : Blk (W.alloc (.cells #[.int .i64 0] 3)) nb 3 [.int .i64 0] := by rw [← hnb]; exact Blk.new W [.int .i64 0] 3
      rw [hnb] at hWs
      refine ⟨trivial, (callsIn_wide.2 (list_calls (.pointer (some ⟨C, 0, none⟩)) _ (NC.out.below hb0))).mono ?_⟩
      rintro e w2 ⟨rfl, hl2, hb2⟩
      gi_wp2_with ((with_reducible refine gateI (N := 31) rfl ?_); go_loud (refine wpI_eql_func (fun _ => trivial) rfl _ _ _ rfl Try.underlying35 rfl ?_))
      have hb02 := hb0.trans (hb2.mono hb0.size)
      have nv2 := NC.out.below hb02
      refine ⟨trivial, (callsIn_wide.2 (list_calls (.pointer (some ⟨C, 0, none⟩)) w2 nv2)).mono ?_⟩
      rintro e w3 ⟨rfl, hl3, hb3⟩
      have hb03 : Below nb W w3 := by rw [← hnb]; exact hb02.trans (hb3.mono hb02.size)
      have hk3 : Blk w3 nb 3 [.int .i64 0] := (hk0.below hb2).below hb3
      have nv3 := nv2.below hb3
      have hm3 : Made w3 own := HGM.out.below (by rw [hnb]; exact hb03)
      have ha3 : Blk w3 B 24 [.int .i64 k, .string s, .string t, r, .int .i64 a, .int .i64 n] := HG1.out.below (by rw [hnb]; exact hb03)
      obtain ⟨b3, hb3e⟩ : ∃ b3, w2.heap.size = b3 := ⟨_, rfl⟩
      rw [hb3e] at hl3 ⊢
      have hc3 : w3.cell? ⟨b3, 0, none⟩ = some (.pointer (some ⟨C, 0, none⟩)) := by simpa using hl3.cell 0
      have hlt3 := hl3.lt
      have FACT : ∀ V, Below w3.heap.size w3 V → NoDisk V (.pointer (some ⟨C, 0, none⟩)) ∧ Made V own ∧ V.cell? ⟨B, 1, none⟩ = some (.string s) ∧ V.cell? ⟨B, 2, none⟩ = some (.string t) ∧ V.cell? ⟨B, 3, none⟩ = some r ∧ V.cell? ⟨B, 4, none⟩ = some (.int .i64 a) ∧ V.cell? ⟨B, 5, none⟩ = some (.int .i64 n) ∧ V.cell? ⟨nb, 0, none⟩ = some (.int .i64 0) := by
        intro V hV
        have h1 := ha3.below hV
        exact ⟨nv3.below hV, hm3.below hV, h1.cell 1, h1.cell 2, h1.cell 3, h1.cell 4, h1.cell 5, (hk3.below hV).cell 0⟩
      have HFACT := Lib.hid FACT
      have HB03 := Lib.hid hb03
      have HNB := Lib.hid hnb
      have hs3 : nb < w3.heap.size := hk3.lt
      clear FACT hl2 hb2 hb02 nv2 hb3 hk0 hb0 hk3 hm3 ha3 hl3 hb03 hnb
      gi_wp2_with fail
      refine wpIn_rangeFunc_ownG rfl (by decide) (gf := 24) (lb := #[.pointer (some ⟨b3, 0, none⟩)]) rfl trivial (enters_of Try.func24 (by kernel_rfl) rfl)
        (list_stops b3 (.pointer (some ⟨C, 0, none⟩)) w3 hlt3 nv3 hc3) (fun _ _ => trivial) (fun _ _ _ _ _ _ _ _ => trivial) (Below.refl _ _) (fun _ => rfl)
        (fun _ V => Below w3.heap.size w3 V) (fun _ _ _ => False) ?hI (fun _ _ _ _ _ hs _ _ => hs) (Below.refl _ _)
        (fun x => { tmps := #[.agg #[.int .i64 k, .string s, .string t, r, .int .i64 a, .int .i64 n], .pointer (some ⟨B, 0, none⟩), .bool false, own, .int .i64 0, undef, (.pointer (some ⟨C, 0, none⟩)), .pointer (some ⟨nb, 0, none⟩), u 8, u 9, u 10, u 11, u 12, u 13, u 14, u 15, undef, .tuple #[own, .int .i64 0], .tuple #[own, .int .i64 0], own, .int .i64 0, .agg #[.int .i64 0, .map none, .slice none 0 0], .pointer (some ⟨C, 0, none⟩), .slice (some ⟨C + 1, 0, none⟩) 2 2, .int .i64 2, .int .i64 1, .bool true, .pointer (some ⟨C + 1, 1, none⟩), (.pointer (some ⟨C, 0, none⟩)), (.pointer (some ⟨C, 0, none⟩)), .func (.func 24) #[] #[.pointer (some ⟨nb + 1, 0, none⟩)], .bool false, (.pointer (some ⟨C, 0, none⟩)), .func (.func 24) #[] #[.pointer (some ⟨b3, 0, none⟩)], .string x, u 35, u 36, u 37, u 38, u 39, u 40, u 41, u 42, u 43, u 44, u 45, u 46, u 47, u 48, u 49, u 50, u 51, u 52, u 53, u 54, u 55, u 56, u 57, u 58, u 59, u 60, u 61, u 62, u 63, u 64, u 65, u 66, u 67, u 68, u 69, u 70, u 71, u 72, u 73, u 74, u 75, u 76, u 77, u 78, u 79, u 80, u 81, u 82, u 83, u 84, u 85, u 86, u 87, u 88, u 89, u 90, u 91, u 92, u 93, u 94, u 95, u 96, u 97, u 98, u 99, u 100, u 101, u 102, u 103, u 104, u 105, u 106, u 107, u 108, u 109, u 110, u 111, u 112, u 113, u 114, u 115, u 116, u 117, u 118, u 119, u 120, u 121, u 122, u 123, u 124, u 125, u 126, u 127, u 128, u 129, u 130, u 131, u 132, u 133, u 134, u 135, u 136, u 137, u 138, u 139, u 140, u 141, u 142, u 143, u 144, u 145, u 146, u 147, u 148, u 149, u 150, u 151, u 152, u 153, u 154, u 155, u 156, u 157, u 158, u 159, u 160, u 161, u 162, u 163, u 164, u 165, undef, undef], defers := [] }) ?assign ?body ?done ?stop
      case hI =>
        intro pre V V' row hB hg hr
        exact hB.grown hg hB.size (fun k e => (hr k e).1)
      case assign =>
        intro l x V K hK
        gi_wp2_with fail
        exact hK
      case body =>
        intro l pre x V _ h
        exact absurd h (Nat.not_lt_zero _)
      case stop =>
        rintro Dn c pre V _ _ h _
        exact h.elim
      case done =>
        rintro Dn ys V hDn rfl hB hdf
        have hDlt : Dn < V.heap.size := (Array.getElem?_eq_some_iff.1 hdf).1
        have hBDn : ∀ V', Below V.heap.size V V' → V'.heap[Dn]? = some (.deferred (some [])) := fun V' h => (h.block Dn hDlt).trans hdf
        have HBDN := Lib.hid hBDn
        clear hBDn
        clear nv3 hc3
        obtain ⟨q1, q2, q3, q4, q5, q6, q7, q8⟩ := HFACT.out V hB
        gi_wp2_with fail
        refine ⟨trivial, (callsIn_wide.2 (read_calls (.pointer (some ⟨C, 0, none⟩)) s a n V q1)).mono ?_⟩
        rintro e w' ⟨rfl, rfl⟩
        gi_wp2_with fail
        refine ⟨trivial, (callsIn_wide.2 (size_calls (.pointer (some ⟨C, 0, none⟩)) s V q1)).mono ?_⟩
        rintro e w' ⟨rfl, rfl⟩
        gi_wp2_with fail
        have hraw := raw_calls (.pointer (some ⟨C, 0, none⟩)) n V q1
        unfold rawz at hraw
        refine ⟨trivial, (callsIn_wide.2 hraw).mono ?_⟩
        rintro e V2 ⟨rfl, hB2⟩
        clear hraw q1 q2 q3 q4 q5 q6 q7 q8
        have hBV2 := hB.trans (hB2.mono hB.size)
        have hBV3 := hBV2.alloc (by have := hBV2.size; omega) (.cells #[.int .i64 0, .string ⟨#[]⟩, .slice none 0 0, .int .i64 0, .string ⟨#[]⟩] 42)
        obtain ⟨q1, q2, q3, q4, q5, q6, q7, q8⟩ := HFACT.out _ hBV3
        gi_wp2_with fail
        have hkr := Blk.new V2 [.int .i64 0, .string ⟨#[]⟩, .slice none 0 0, .int .i64 0, .string ⟨#[]⟩] 42
        obtain ⟨V3, hV3⟩ : ∃ V3, V2.alloc (.cells #[.int .i64 0, .string ⟨#[]⟩, .slice none 0 0, .int .i64 0, .string ⟨#[]⟩] 42) = V3 := ⟨_, rfl⟩
        have hkr3 : Blk V3 V2.heap.size 42 [.int .i64 0, .string ⟨#[]⟩, .slice none 0 0, .int .i64 0, .string ⟨#[]⟩] := by rw [← hV3]; exact hkr
        obtain ⟨rb, hrb⟩ : ∃ rb, V2.heap.size = rb := ⟨_, rfl⟩
        have hq3x : Below V.heap.size V V3 := by rw [← hV3]; exact hB2.alloc (by have := hB2.size; omega) _
        have HQ3x := Lib.hid hq3x
        clear hq3x
        rw [hV3] at hBV3 q1 q2 q3 q4 q5 q6 q7 q8
        rw [hV3, hrb]
        rw [hrb] at hkr3
        clear hkr hV3 hrb
        refine ⟨trivial, (callsIn_wide.2 (after_calls (.pointer (some ⟨C, 0, none⟩)) n V3 q1)).mono ?_⟩
        rintro e w' ⟨rfl, rfl⟩
        gi_wp2_with fail
        refine ⟨trivial, (callsIn_wide.2 (create_calls (.pointer (some ⟨C, 0, none⟩)) s V3 q1)).mono ?_⟩
        rintro e w' ⟨rfl, rfl⟩
        gi_wp2_with fail
        refine ⟨trivial, (callsIn_wide.2 (append_calls (.pointer (some ⟨C, 0, none⟩)) s r V3 q1)).mono ?_⟩
        rintro e w' ⟨rfl, rfl⟩
        gi_wp2_with fail
        refine ⟨trivial, (callsIn_wide.2 (cut_calls (.pointer (some ⟨C, 0, none⟩)) s a V3 q1)).mono ?_⟩
        rintro e w' ⟨rfl, rfl⟩
        gi_wp2_with fail
        refine ⟨trivial, (callsIn_wide.2 (remove_calls (.pointer (some ⟨C, 0, none⟩)) s V3 q1)).mono ?_⟩
        rintro e w' ⟨rfl, rfl⟩
        gi_wp2_with fail
        refine ⟨trivial, (callsIn_wide.2 (rename_calls (.pointer (some ⟨C, 0, none⟩)) s t V3 q1)).mono ?_⟩
        rintro e w' ⟨rfl, rfl⟩
        have r0 := hkr3.cell 0
        have r1 := hkr3.cell 1
        have r2 := hkr3.cell 2
        have r3 := hkr3.cell 3
        have r4 := hkr3.cell 4
        rw [List.getElem?_cons_zero] at r0
        rw [List.getElem?_cons_succ, List.getElem?_cons_zero] at r1
        rw [List.getElem?_cons_succ, List.getElem?_cons_succ, List.getElem?_cons_zero] at r2
        rw [List.getElem?_cons_succ, List.getElem?_cons_succ, List.getElem?_cons_succ, List.getElem?_cons_zero] at r3
        rw [List.getElem?_cons_succ, List.getElem?_cons_succ, List.getElem?_cons_succ, List.getElem?_cons_succ, List.getElem?_cons_zero] at r4
        gi_wp2_with fail
        have hraws := raws_calls V3
        unfold rawz at hraws
        refine ⟨trivial, (callsIn_wide.2 hraws).mono ?_⟩
        rintro e V4 ⟨rfl, hB4⟩
        clear hraws r0 r1 r2 r3 r4 q1 q2 q3 q4 q5 q6 q7 q8
        have hBV4 := hBV3.trans (hB4.mono hBV3.size)
        have hq4x : Below V.heap.size V V4 := HQ3x.out.trans (hB4.mono (by have := HQ3x.out.size; omega))
        obtain ⟨q1, q2, q3, q4, q5, q6, q7, q8⟩ := HFACT.out V4 hBV4
        clear q3 q4 q5 q6 q7 q8
        gi_wp2_with fail
        refine ⟨trivial, (callsIn_wide.2 (writes_calls (.pointer (some ⟨C, 0, none⟩)) V4 q1)).mono ?_⟩
        rintro e w' ⟨rfl, rfl⟩
        gi_wp2_with fail
        refine ⟨trivial, (callsIn_wide.2 (sector_calls (.pointer (some ⟨C, 0, none⟩)) V4 q1)).mono ?_⟩
        rintro e w' ⟨rfl, rfl⟩
        gi_wp2_with fail
        refine ⟨trivial, (callsIn_wide.2 (same_left (.pointer (some ⟨C, 0, none⟩)) own V4 q1 q2)).mono ?_⟩
        rintro e w' ⟨rfl, rfl⟩
        gi_wp2_with fail
        refine ⟨trivial, (callsIn_wide.2 (same_right (.pointer (some ⟨C, 0, none⟩)) own V4 q1 q2)).mono ?_⟩
        rintro e w' ⟨rfl, rfl⟩
        have hWV : Below nb W V4 := HB03.out.trans (hBV4.mono (by omega))
        have hD' : Dk (C + 2) (1 + 1) ({ target := .collected Dn, args := #[] } :: D) V4 := dk_more (by omega) (by omega) HD.out hWV (by omega) ((HBDN.out V4 hq4x)) HNB.out
        have HDD := Lib.hid hD'
        have hXV : Below (C + 2) X V4 := HX.out.trans (hWV.mono (by omega))
        have HXV := Lib.hid hXV
        clear hD' hXV hWV
        gi_wp2_with fail
        exact ⟨⟨1 + 1, _, by omega, HXV.out, HDD.out, frame_ex rfl⟩, by simp [intOf]⟩
    · have hb2 := HX.out
      obtain ⟨h0, _⟩ | ⟨h0, _⟩ | ⟨_, k1, m1, hDe, q1, q2, q3, q4⟩ := HD.out
      · omega
      · omega
      have hq3 : (W.putObj m1 (.deferred none)).heap[k1]? = some (.deferred (some [])) := by rw [put_block _ _ _ _ (by omega)]; exact q3
      have hBf : Below B w ((W.putObj m1 (.deferred none)).putObj k1 (.deferred none)) := put_below (put_below (XB.trans (hb2.mono (by omega))) (by omega) _) (by omega) _
      have HQ3 := Lib.hid hq3
      have HQ4 := Lib.hid q4
      have HBF := Lib.hid hBf
      have HDE := Lib.hid hDe
      clear hq3 q3 q4 hBf hb2 hDe c0 c1
      gi_wp2_with fail
      refine ⟨trivial, (callsIn_wide.2 (same_nil W)).mono ?_⟩
      rintro e w' ⟨rfl, rfl⟩
      gi_wp2_with fail
      rw [HDE.out]
      refine ⟨by simp, .inl ⟨_, _, rfl, run_takeDeferred HQ4.out, ?_⟩⟩
      refine ⟨by simp, .inl ⟨_, _, rfl, run_takeDeferred HQ3.out, ?_⟩⟩
      exact ⟨_, results_tmp rfl _ _ _, rfl, by rw [HBW.out]; exact HBF.out⟩
end Go.Proofs.Ytjgbmkmkhngddaa.Nob
