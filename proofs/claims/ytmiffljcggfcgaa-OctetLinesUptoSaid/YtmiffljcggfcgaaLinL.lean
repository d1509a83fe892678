/- The law OctetLines: its walk (texts of at most 2^20). -/
import Derived.Test.YtmiffljcggfcgaaLinI
import Derived.Test.YtmiffljcggfcgaaLinR
import Derived.Test.YtmiffljcggfcgaaFn
namespace Go.Proofs.Ytmiffljcggfcgaa.Lin
open Go Go.RowKit Go.Shelf Go.Proofs.Ytmiffljcggfcgaa.Cop Go.Proofs.Ytmiffljcggfcgaa.Oct Go.Proofs.Ytmiffljcggfcgaa.Hex
set_option linter.unusedVariables false
set_option linter.unusedSimpArgs false
attribute [local go_sem] Oper.semAt_some

/-- What is put off to the function's end: an empty heap of deferred calls for each loop that is through. -/
def Dk (b rd : Nat) (D : List Deferred) (W : World) : Prop :=
  (rd = 0 ∧ D = []) ∨ (rd = 1 ∧ ∃ k, D = [{ target := .collected k, args := #[] }] ∧ b ≤ k ∧ W.heap[k]? = some (.deferred (some []))) ∨
  (rd = 2 ∧ ∃ k m, D = [{ target := .collected m, args := #[] }, { target := .collected k, args := #[] }] ∧ b ≤ k ∧ k < m ∧ W.heap[k]? = some (.deferred (some [])) ∧ W.heap[m]? = some (.deferred (some [])))
/-- How many rounds are left, out of the round's variable. -/
def rdOf (n : Nat) (a : Act) (W : World) : Nat := match a.tmps.getD 7 undef with
  | .pointer (some p) => match W.cell? p with
    | some (.int _ i) => (n - i).toNat
    | _ => 0
  | _ => 0
theorem blk_set {w : World} {g : Nat} {t : TypeId} {v : Value} (h : Blk w g t [v]) (v' : Value) : Blk (w.setCell ⟨g, 0, none⟩ v') g t [v'] := by
  unfold Blk at h ⊢
  simp [World.setCell, Array.getElem?_modify, h]
theorem blk_keep {w : World} {g k : Nat} {t : TypeId} {cs : List Value} (h : Blk w g t cs) (p : Addr) (v : Value) (hn : g ≠ p.block) : Blk (w.setCell p v) g t cs := by
  unfold Blk at h ⊢
  rw [Below.heap_setCell _ _ _ _ hn]; exact h

/-- What holds between two rounds of the loop over the lines, and where it is left. -/
def LI (nb : Nat) (W : World) (E : List (Nat × List UInt8)) (pre : List (Nat × List UInt8)) (V : World) : Prop := (∃ t, pre ++ t = E) ∧ Blk V nb 3 [.int .i64 (pre.length : Int)] ∧ Below nb W V
def LX (rd nb : Nat) (stop : Int) (W : World) (E : List (Nat × List UInt8)) (c : Code) (pre : List (Nat × List UInt8)) (V : World) : Prop := (c = .exit 2 ∧ rd = 0 ∧ Blk V nb 3 [.int .i64 stop] ∧ Below nb W V) ∨ (c = .ret ∧ ¬ ∃ t, pre ++ t = E)
theorem from_set {B g : Nat} (h : g < B) (V : World) (o : Nat) (v : Value) : KeepsFrom B V (V.setCell ⟨g, o, none⟩ v) :=
  ⟨by simp [World.setCell], fun k o' hB hk _ => (Below.heap_setCell _ _ _ _ (by show k ≠ g; omega)).trans hk⟩

theorem dk_more {b nb rd m : Nat} {D : List Deferred} {W V : World} (h1 : rd < 2) (hb : b ≤ m) (hD : Dk b rd D W) (hV : Below nb W V) (hm : nb ≤ m) (hd : V.heap[m]? = some (.deferred (some []))) (hnb : W.heap.size = nb := by omega) :
    Dk b (rd + 1) ({ target := .collected m, args := #[] } :: D) V := by
  have keep : ∀ k, W.heap[k]? = some (.deferred (some [])) → k < nb ∧ V.heap[k]? = some (.deferred (some [])) := by
    intro k hk
    have hlt : k < nb := by rw [← hnb]; exact (Array.getElem?_eq_some_iff.1 hk).1
    exact ⟨hlt, (hV.block k hlt).trans hk⟩
  rcases hD with ⟨rfl, rfl⟩ | ⟨rfl, k, rfl, hk1, hk2⟩ | ⟨rfl, _⟩
  · exact .inr (.inl ⟨rfl, m, rfl, hb, hd⟩)
  · obtain ⟨q1, q2⟩ := keep k hk2
    exact .inr (.inr ⟨rfl, k, m, rfl, hk1, by omega, q2, hd⟩)
  · omega

theorem dk_alloc {b rd : Nat} {D : List Deferred} {W : World} (h : Dk b rd D W) (o : Obj) : Dk b rd D (W.alloc o) := by
  have keep : ∀ k, W.heap[k]? = some (Obj.deferred (some [])) → (W.alloc o).heap[k]? = some (Obj.deferred (some [])) :=
    fun k hk => (Lib.alloc_old W o k (Array.getElem?_eq_some_iff.1 hk).1).trans hk
  rcases h with h | ⟨h1, k, h2, h3, h4⟩ | ⟨h1, k, m, h2, h3, h4, h5, h6⟩
  · exact .inl h
  · exact .inr (.inl ⟨h1, k, h2, h3, keep k h4⟩)
  · exact .inr (.inr ⟨h1, k, m, h2, h3, h4, keep k h5, keep m h6⟩)
theorem dk_set {b rd : Nat} {D : List Deferred} {W : World} (h : Dk b rd D W) {p : Addr} (hp : p.block < b) (v : Value) : Dk b rd D (W.setCell p v) := by
  have keep : ∀ k, b ≤ k → W.heap[k]? = some (Obj.deferred (some [])) → (W.setCell p v).heap[k]? = some (Obj.deferred (some [])) :=
    fun k hb hk => (Below.heap_setCell _ _ _ _ (by omega)).trans hk
  rcases h with h | ⟨h1, k, h2, h3, h4⟩ | ⟨h1, k, m, h2, h3, h4, h5, h6⟩
  · exact .inl h
  · exact .inr (.inl ⟨h1, k, h2, h3, keep k h3 h4⟩)
  · exact .inr (.inr ⟨h1, k, m, h2, h3, h4, keep k h3 h5, keep m (by omega) h6⟩)
theorem rdOf_eq (n : Nat) {a : Act} {W : World} {b : Nat} {i : Int} (h : a.tmps.getD 7 undef = .pointer (some ⟨b, 0, none⟩)) (hc : W.cell? ⟨b, 0, none⟩ = some (.int .i64 i)) : rdOf n a W = ((n : Int) - i).toNat := by
  unfold rdOf
  rw [h]
  simp [hc]

theorem results_cell1 {fn : Func} {t : Tmp} {ty : TypeId} (h : fn.results = #[.cell t ty]) (tmps : Array Value) (P : Program) (w : World) {p : Addr} {v : Value} (hp : tmps.getD t undef = .pointer (some p)) (hagg : ∀ w, (isAgg ty).run P w = .ok false w) (hc : w.cell? p = some v) :
    (results fn tmps).run P w = .ok v w := by
  rw [Array.getD_eq_getD_getElem?] at hp
  simp [results, h, hp, asAddr, loadVar, hagg w, hc]
theorem aggB (w : World) : (isAgg 4).run Try.prog w = .ok false w := by kernel_rfl
theorem put_block (W : World) (k j : Nat) (o : Obj) (h : j ≠ k) : (W.putObj k o).heap[j]? = W.heap[j]? := by
  simp [World.putObj, Array.getElem?_setIfInBounds, Ne.symm h]
theorem put_below {B k : Nat} {w W : World} (h : Below B w W) (hk : B ≤ k) (o : Obj) : Below B w (W.putObj k o) := by
  exact ⟨h.1, h.2, h.3, by simpa [World.putObj] using h.4, fun j hj => (put_block W k j o (by omega)).trans (h.5 j hj)⟩

set_option maxRecDepth 100000 in
set_option maxHeartbeats 4000000 in
theorem lines_law (s : ByteArray) (stop : Int) (w : World) (hs : s.size ≤ 1048576) (hst : -9223372036854775808 ≤ stop ∧ stop ≤ 9223372036854775807) :
    Calls Try.prog 12 #[.string s, .int .i64 stop] w fun e w' => e = .returned (.bool true) ∧ Below w.heap.size w w' := by
  obtain ⟨l, rfl⟩ : ∃ l, s = str l := ⟨s.data.toList, rfl⟩
  have hll : l.length ≤ 1048576 := hs
  have hrl : ∀ w, Calls Try.prog 47 #[.string (str l)] w fun e w' => ∃ v, e = .returned v ∧ OwnS w.heap.size w' v (lines l) ∧ Below w.heap.size w w' := fun w => rlines_calls (str l) w hs
  have HRL := Lib.hid hrl
  clear hrl hs
  refine (callsIn_wide (n := 3)).1 ?_
  refine callsIn_of_wp_marks Try.func12 rfl trivial ?_ rfl
  simp only [Try.ntmps12, List.size_toArray, List.length_cons, List.length_nil, Nat.reduceAdd, Nat.reduceSub, Array.replicate_succ, Array.replicate_zero, List.push_toArray, List.append_toArray, List.nil_append, List.cons_append]
  gi_wp2_with (first | (refine ⟨trivial, ?_⟩; gi_at_call 47; refine (callsIn_wide.2 (HRL.out _)).mono ?_; rintro e w1 ⟨v, rfl, hv1, hb1⟩; obtain ⟨va, vc, rfl, _⟩ := Row.open (Row.of_own hv1)) | (refine ⟨trivial, ?_⟩; gi_at_call 48; refine (callsIn_wide.2 (lines_calls (str l) _)).mono ?_; rintro e w2 ⟨rfl, rfl⟩) | ((with_reducible refine gateI (N := 16) rfl ?_); go_loud (refine wpI_eql_func (fun _ => trivial) rfl _ _ _ rfl Try.underlying88 rfl ?_)))
  -- LOOP
  clear HRL
  obtain ⟨B, hB⟩ : ∃ B, w.heap.size = B := ⟨_, rfl⟩
  obtain ⟨C, hC⟩ : ∃ C, w1.heap.size = C := ⟨_, rfl⟩
  have hBC : B + 2 ≤ C := by
    have := hb1.size
    rw [World.size_alloc, World.size_alloc, hB, hC] at this
    omega
  have hx1 : Blk w1 B 3 [.int .i64 stop] := by
    rw [← hB]
    exact ((Blk.new w [.int .i64 stop] 3).below ((Below.refl _ _).alloc (Nat.le_refl _) (.cells #[.bool false] 4))).below hb1
  have hk2 : Blk w1 (B + 1) 4 [.bool false] := by
    rw [← hB]
    have h := (Blk.new (w.alloc (.cells #[.int .i64 stop] 3)) [.bool false] 4).below hb1
    rwa [World.size_alloc] at h
  have hbw1 : Below B w w1 := by
    rw [← hB]
    exact (((Below.refl _ w).alloc (Nat.le_refl _) _).alloc (by simp) _).trans (hb1.mono (by simp; omega))
  have hrow1 : Row w1 (.slice va (lines l).length vc) (lines l).length (scs (lines l)) := Row.of_own hv1
  rw [hB, hC]
  clear hv1 hb1
  obtain ⟨X, hXe⟩ : ∃ X, ((w1.alloc (.cells #[.slice va (lines l).length vc] 85)).alloc (.cells #[.string (str l)] 9)) = X := ⟨_, rfl⟩
  have hXs : X.heap.size = C + 2 := by rw [← hXe, World.size_alloc, World.size_alloc, hC]
  have hXb : Below C w1 X := by rw [← hXe, ← hC]; exact ((Below.refl _ w1).alloc (Nat.le_refl _) _).alloc (by simp) _
  have X1 : Blk X B 3 [.int .i64 stop] := (hXb.block B (by omega)).trans hx1
  have X2 : Blk X (B + 1) 4 [.bool false] := (hXb.block (B + 1) (by omega)).trans hk2
  have X3 : Blk X C 85 [.slice va (lines l).length vc] := by
    rw [← hXe, ← hC]
    exact (Blk.new w1 [.slice va (lines l).length vc] 85).below ((Below.refl _ _).alloc (Nat.le_refl _) _)
  have X4 : Blk X (C + 1) 9 [.string (str l)] := by
    rw [← hXe, ← hC]
    have h := Blk.new (w1.alloc (.cells #[.slice va (lines l).length vc] 85)) [.string (str l)] 9
    rwa [World.size_alloc] at h
  have XR : Row X (.slice va (lines l).length vc) (lines l).length (scs (lines l)) := hrow1.below (by rw [hC]; exact hXb)
  have XB : Below B w X := hbw1.trans (hXb.mono (by omega))
  rw [hXe, show C + 1 + 1 = C + 2 from rfl]
  have HBW := Lib.hid hB
  clear hXe hXb hx1 hk2 hbw1 hrow1 hB hC
  obtain ⟨E, hE⟩ : ∃ E, enumL 0 (lines l) = E := ⟨_, rfl⟩
  have hEl : E.length = (lines l).length := by rw [← hE]; exact enumL_length _ _
  have hEa : ∀ j : Nat, E[j]? = ((lines l)[j]?).map (fun a => (j, a)) := by
    intro j; rw [← hE, enumL_at, Nat.zero_add]
  have hln : (lines l).length ≤ 1048576 := Nat.le_trans (lines_length _ l (Nat.le_refl _)) hll
  refine wpIn_loop (fun a W => ∃ (rd rb : Nat) (D : List Deferred), rd ≤ 2 ∧ C + 2 ≤ rb ∧ Blk W rb 3 [.int .i64 (rd : Int)] ∧ Below (C + 2) X W ∧ Dk (C + 2) rd D W ∧ ∃ u8 u9 u10 u17 u18 u19 u20 u21 u22 u23 u24 u25 u26 u27 u28 u29 u30 u31 u32 u33 u34 u35 u36 u37 u38 u39 u40 u41 u42 u43 u44 u45 u46 u47 u48 u49 u50 u51 u52 u53 u54 u55 u56 u57 u58 u59 u60 u61 u62 u63 u64 : Value, a = { tmps := #[.string (str l), .int .i64 stop, undef, .pointer (some ⟨B, 0, none⟩), .pointer (some ⟨B + 1, 0, none⟩), .pointer (some ⟨C, 0, none⟩), .func (.func 69) #[] #[.pointer (some ⟨C + 1, 0, none⟩)], .pointer (some ⟨rb, 0, none⟩), u8, u9, u10, .string (str l), .slice va (lines l).length vc, .string (str l), .func (.func 69) #[] #[.pointer (some ⟨C + 1, 0, none⟩)], .func (.func 69) #[] #[.pointer (some ⟨C + 1, 0, none⟩)], .bool false, u17, u18, u19, u20, u21, u22, u23, u24, u25, u26, u27, u28, u29, u30, u31, u32, u33, u34, u35, u36, u37, u38, u39, u40, u41, u42, u43, u44, u45, u46, u47, u48, u49, u50, u51, u52, u53, u54, u55, u56, u57, u58, u59, u60, u61, u62, u63, u64], defers := D }) (rdOf 2) ?start ?round
  case start =>
    refine ⟨0, C + 2, [], by omega, by omega, ?_, ?_, .inl ⟨rfl, rfl⟩, _, _, _, _, _, _, _, _, _, _, _, _, _, _, _, _, _, _, _, _, _, _, _, _, _, _, _, _, _, _, _, _, _, _, _, _, _, _, _, _, _, _, _, _, _, _, _, _, _, _, _, rfl⟩
    · have h := Blk.new X [.int .i64 0] 3
      rwa [hXs] at h
    · exact (Below.refl _ _).alloc (by omega) _
  case round =>
    rintro a W ⟨rd, rb, D, hrd, hrb, hblk, hX, hD, u8, u9, u10, u17, u18, u19, u20, u21, u22, u23, u24, u25, u26, u27, u28, u29, u30, u31, u32, u33, u34, u35, u36, u37, u38, u39, u40, u41, u42, u43, u44, u45, u46, u47, u48, u49, u50, u51, u52, u53, u54, u55, u56, u57, u58, u59, u60, u61, u62, u63, u64, rfl⟩
    have hWs : rb < W.heap.size := hblk.lt
    have hc7 := hblk.cell 0
    rw [List.getElem?_cons_zero] at hc7
    by_cases h2 : rd < 2
    · have d0 : decide ((rd : Int) < 2) = true := decide_eq_true (by omega)
      obtain ⟨nb, hnb⟩ : ∃ nb, W.heap.size = nb := ⟨_, rfl⟩
      rw [hnb] at hWs
      have hWB : ∀ V, Below nb W V → Blk V rb 3 [.int .i64 (rd : Int)] ∧ Blk V B 3 [.int .i64 stop] ∧ Blk V (B + 1) 4 [.bool false] ∧ Blk V C 85 [.slice va (lines l).length vc] ∧ Row V (.slice va (lines l).length vc) (lines l).length (scs (lines l)) := by
        intro V hV
        have hXV : Below (C + 2) X V := hX.trans (hV.mono (by omega))
        exact ⟨(hV.block rb hWs).trans hblk, (hXV.block B (by omega)).trans X1, (hXV.block (B + 1) (by omega)).trans X2, (hXV.block C (by omega)).trans X3, XR.below (by rw [hXs]; exact hXV)⟩
      have hW4 : Blk W (C + 1) 9 [.string (str l)] := (hX.block (C + 1) (by omega)).trans X4
      gi_wp2
      obtain ⟨W1, hW1⟩ : ∃ W1, W.alloc (.cells #[.int .i64 0] 3) = W1 := ⟨_, rfl⟩
      have hs1 : W1.heap.size = nb + 1 := by rw [← hW1, World.size_alloc, hnb]
      have hb1 : Below nb W W1 := by rw [← hW1]; exact (Below.refl _ _).alloc (by omega) _
      have hc1 : Blk W1 nb 3 [.int .i64 0] := by rw [← hW1, ← hnb]; exact Blk.new W [.int .i64 0] 3
      have hc4 : W1.cell? ⟨C + 1, 0, none⟩ = some (.string (str l)) := by
        have h : Blk W1 (C + 1) 9 [.string (str l)] := (hb1.block (C + 1) (by omega)).trans hW4
        simpa using h.cell 0
      rw [hW1]
      have HWB := Lib.hid hWB
      have HX := Lib.hid hX
      clear hWB hW1 hW4 hc7 X1 X2 X3 X4 XR XB
      refine wpIn_rangeFunc_ownG rfl (by decide) (gf := 69) (lb := #[.pointer (some ⟨C + 1, 0, none⟩)]) rfl trivial (enters_of Try.func69 (by kernel_rfl) rfl)
        (lines_stops (C + 1) l hll W1 (by omega) hc4) (fun h k => k.trans h) ?hKb (Below.refl _ _) (fun _ => rfl)
        (LI nb W E) (LX rd nb stop W E) ?hI ?hIx ⟨⟨E, rfl⟩, hc1, hb1⟩
        (fun x => { tmps := #[.string (str l), .int .i64 stop, undef, .pointer (some ⟨B, 0, none⟩), .pointer (some ⟨B + 1, 0, none⟩), .pointer (some ⟨C, 0, none⟩), .func (.func 69) #[] #[.pointer (some ⟨C + 1, 0, none⟩)], .pointer (some ⟨rb, 0, none⟩), .pointer (some ⟨nb, 0, none⟩), .int .i64 (x.1 : Int), .string (str x.2), .string (str l), .slice va (lines l).length vc, .string (str l), .func (.func 69) #[] #[.pointer (some ⟨C + 1, 0, none⟩)], .func (.func 69) #[] #[.pointer (some ⟨C + 1, 0, none⟩)], .bool false, .int .i64 (rd : Int), .bool true, u19, u20, .func (.func 69) #[] #[.pointer (some ⟨C + 1, 0, none⟩)], .int .i64 (x.1 : Int), .string (str x.2), u24, u25, u26, u27, u28, u29, u30, u31, u32, u33, u34, u35, u36, u37, u38, u39, u40, u41, u42, u43, u44, u45, u46, u47, u48, u49, u50, u51, u52, u53, u54, u55, u56, u57, u58, u59, u60, u61, u62, u63, u64], defers := [] }) ?assign ?body ?done ?stop
      case hKb =>
        intro V k o o' hk ho hn hw
        have h := belowK_b (w := W1) (n₀ := W1.heap.size) (Nat.le_refl _) V k o o' hk ho hn hw
        exact h.block _ (by omega)
      case hI =>
        rintro pre V V' row ⟨hp, hb, hB⟩ hg hr
        exact ⟨hp, (hg.block nb hb.lt (fun e => by have := (hr _ e.symm).1; omega)).trans hb, hB.grown hg (by have := hB.size; omega) (fun k e => by have := (hr k e).1; omega)⟩
      case hIx =>
        rintro c pre V V' row (⟨rfl, h0, hb, hB⟩ | ⟨rfl, h⟩) hg hr
        · exact .inl ⟨rfl, h0, (hg.block nb hb.lt (fun e => by have := (hr _ e.symm).1; omega)).trans hb, hB.grown hg (by have := hB.size; omega) (fun k e => by have := (hr k e).1; omega)⟩
        · exact .inr ⟨rfl, h⟩
      case assign =>
        intro k x V K hK
        dsimp only [encL]
        gi_wp2
        exact hK
      case body =>
        rintro l' pre ⟨i, ln⟩ V ⟨⟨t, ht⟩, hbV, hBV⟩ hpl
        obtain ⟨n, hn⟩ : ∃ n, pre.length = n := ⟨_, rfl⟩
        rw [hn] at hbV hpl
        obtain ⟨hv1, hv2, hv3, hv4, hv5⟩ := HWB.out V hBV
        have k1 := hv1.cell 0
        have k2 := hv2.cell 0
        have k4 := hv4.cell 0
        have k5 := hbV.cell 0
        have f5 := hbV.frozen 0
        have k3 := hv3.cell 0
        have f3 := hv3.frozen 0
        rw [List.getElem?_cons_zero] at k1 k2 k3 k4 k5
        have hnE : n ≤ E.length := by rw [← ht, List.length_append, hn]; omega
        have hEn := hEa n
        have hnxt : ∀ y, (∃ t', (pre ++ [y]) ++ t' = E) ↔ E[n]? = some y := by
          intro y
          constructor
          · rintro ⟨t', h'⟩
            rw [← h', List.append_assoc, List.getElem?_append_right (by omega), hn, Nat.sub_self]; rfl
          · intro h'
            rw [← ht, List.getElem?_append_right (by omega), hn, Nat.sub_self] at h'
            match t, h', ht with
            | [], h', _ => simp at h'
            | z :: t', h', ht =>
              simp at h'
              subst h'
              exact ⟨t', by rw [List.append_assoc]; exact ht⟩
        have hnx := hnxt (i, ln)
        have hbad : ∀ V', KeepsFrom (nb + 1) V V' → ¬ E[n]? = some (i, ln) → KeepsFrom (nb + 1) V V' ∧ LX rd nb stop W E .ret (pre ++ [(i, ln)]) V' :=
          fun V' h1 h2 => ⟨h1, .inr ⟨rfl, fun h => h2 (hnx.1 h)⟩⟩
        have hkf : KeepsFrom (nb + 1) V (V.setCell ⟨B + 1, 0, none⟩ (.bool false)) := from_set (by omega) V _ _
        have HBAD := Lib.hid hbad
        have HNX := Lib.hid hnx
        have HKF := Lib.hid hkf
        have HE := Lib.hid hEn
        clear hbad hnx hkf hEn hnxt hEa hE ht
        rw [hs1]
        dsimp only
        by_cases hin : i = n
        · subst hin
          by_cases hlt : i < (lines l).length
          · have d2 : decide (((lines l).length : Int) ≤ (i : Int)) = false := decide_eq_false (by omega)
            have d2' : decide ((lines l).length ≤ i) = false := decide_eq_false (by omega)
            have hu : (scs (lines l))[((i : Int)).toNat]? = some (.string (str (lines l)[i])) := by
              unfold scs
              rw [Int.toNat_natCast, List.getElem?_map, List.getElem?_eq_getElem hlt]; rfl
            have hEi := HE.out
            rw [List.getElem?_eq_getElem hlt] at hEi
            by_cases hln : ln = (lines l)[i]
            · subst hln
              have hok : ∃ t', (pre ++ [(i, (lines l)[i])]) ++ t' = E := HNX.out.2 hEi
              have hi63 : (i : Int) + 1 ≤ 2000000 := by omega
              obtain ⟨V2, hV2⟩ : ∃ V2, V.setCell ⟨nb, 0, none⟩ (.int .i64 ((i : Int) + 1)) = V2 := ⟨_, rfl⟩
              have hbV2 : Blk V2 nb 3 [.int .i64 ((i : Int) + 1)] := by rw [← hV2]; exact blk_set hbV _
              have hBV2 : Below nb W V2 := by rw [← hV2]; exact hBV.setCell (p := ⟨nb, 0, none⟩) (Nat.le_refl _) _
              have hK2 : KeepsFrom (nb + 1) V V2 := by rw [← hV2]; exact from_set (by omega) V _ _
              have hK1 : Keep1 (C + 1) V V2 := by rw [← hV2]; exact Below.heap_setCell _ _ _ _ (by show C + 1 ≠ nb; omega)
              obtain ⟨gv1, gv2, gv3, gv4, gv5⟩ := HWB.out V2 hBV2
              have m1 := gv1.cell 0
              have m2 := gv2.cell 0
              have m5 := hbV2.cell 0
              rw [List.getElem?_cons_zero] at m1 m2 m5
              have hpost : KeepsFrom (nb + 1) V V2 ∧ Keep1 (C + 1) V V2 ∧ LI nb W E (pre ++ [(i, (lines l)[i])]) V2 := by
                refine ⟨hK2, hK1, hok, ?_, hBV2⟩
                rw [List.length_append, hn]; exact hbV2
              have HPOST := Lib.hid hpost
              have HK2 := Lib.hid hK2
              clear hpost hK1 hK2 gv1 gv2 gv3 gv4 gv5 hok hEi
              by_cases hr0 : rd = 0
              · have d3 : ((rd : Int) == 0) = true := by simp; omega
                by_cases hstp : (i : Int) + 1 = stop
                · have d4 : ((i : Int) + 1 == stop) = true := by simpa using hstp
                  have hx : LX rd nb stop W E (.exit 2) (pre ++ [(i, (lines l)[i])]) V2 := .inl ⟨rfl, hr0, by rw [← hstp]; exact hbV2, hBV2⟩
                  have HXX := Lib.hid hx
                  clear hx hstp
                  gi_wp2_with (first | ((with_reducible refine gateI (N := 37) rfl ?_); go_loud (refine wpI_index_load (fun _ => trivial) rfl (fun _ => rfl) 85 9 _ _ 37 rfl rfl rfl Try.underlying85 size9 agg9 rfl rfl hv5 (scs_length _) (fun _ => rfl) (by omega) (by omega) hu ?_); intro _) | ((with_reducible refine gateI (N := 39) rfl ?_); go_loud (refine wpI_neq_str (fun _ => trivial) rfl _ _ _ _ rfl rfl rfl (decide_eq_true rfl) ?_)))
                  exact ⟨HK2.out, HXX.out⟩
                · have d4 : ((i : Int) + 1 == stop) = false := by simpa using hstp
                  gi_wp2_with (first | ((with_reducible refine gateI (N := 37) rfl ?_); go_loud (refine wpI_index_load (fun _ => trivial) rfl (fun _ => rfl) 85 9 _ _ 37 rfl rfl rfl Try.underlying85 size9 agg9 rfl rfl hv5 (scs_length _) (fun _ => rfl) (by omega) (by omega) hu ?_); intro _) | ((with_reducible refine gateI (N := 39) rfl ?_); go_loud (refine wpI_neq_str (fun _ => trivial) rfl _ _ _ _ rfl rfl rfl (decide_eq_true rfl) ?_)))
                  exact HPOST.out
              · have d3 : ((rd : Int) == 0) = false := by simp; omega
                gi_wp2_with (first | ((with_reducible refine gateI (N := 37) rfl ?_); go_loud (refine wpI_index_load (fun _ => trivial) rfl (fun _ => rfl) 85 9 _ _ 37 rfl rfl rfl Try.underlying85 size9 agg9 rfl rfl hv5 (scs_length _) (fun _ => rfl) (by omega) (by omega) hu ?_); intro _) | ((with_reducible refine gateI (N := 39) rfl ?_); go_loud (refine wpI_neq_str (fun _ => trivial) rfl _ _ _ _ rfl rfl rfl (decide_eq_true rfl) ?_)))
                exact HPOST.out
            · have hno : ¬ E[i]? = some (i, ln) := by
                rw [hEi]
                intro h
                simp at h
                exact hln h.symm
              have hsn : decide (str ln = str (lines l)[i]) = !true := by
                refine decide_eq_false (fun e => hln ?_)
                have := congrArg (fun b : ByteArray => b.data.toList) e
                exact this
              clear hEi
              gi_wp2_with (first | ((with_reducible refine gateI (N := 37) rfl ?_); go_loud (refine wpI_index_load (fun _ => trivial) rfl (fun _ => rfl) 85 9 _ _ 37 rfl rfl rfl Try.underlying85 size9 agg9 rfl rfl hv5 (scs_length _) (fun _ => rfl) (by omega) (by omega) hu ?_); intro _) | ((with_reducible refine gateI (N := 39) rfl ?_); go_loud (refine wpI_neq_str (fun _ => trivial) rfl _ _ _ _ rfl rfl rfl (hsn) ?_)))
              exact HBAD.out _ HKF.out hno
          · have d2 : decide (((lines l).length : Int) ≤ (i : Int)) = true := decide_eq_true (by omega)
            have d2' : decide ((lines l).length ≤ i) = true := decide_eq_true (by omega)
            have hno : ¬ E[i]? = some (i, ln) := by
              rw [HE.out, List.getElem?_eq_none (by omega)]; simp
            gi_wp2
            exact HBAD.out _ HKF.out hno
        · have d1 : ((i : Int) != (n : Int)) = true := by simp; omega
          have hno : ¬ E[n]? = some (i, ln) := by
            rw [HE.out]
            intro h
            simp at h
            omega
          gi_wp2
          exact HBAD.out _ HKF.out hno
      case done =>
        rintro Dn ys V hDn hys ⟨_, hbV, hBV⟩ hdf
        have hyl : ys.length = (lines l).length := by rw [hys]; exact enumL_length _ _
        rw [hyl] at hbV
        obtain ⟨hv1, hv2, hv3, hv4, hv5⟩ := HWB.out V hBV
        have k1 := hv1.cell 0
        have k2 := hv2.cell 0
        have k4 := hv4.cell 0
        have k5 := hbV.cell 0
        rw [List.getElem?_cons_zero] at k1 k2 k4 k5
        have hVs := hbV.lt
        have hD' : Dk (C + 2) (rd + 1) ({ target := .collected Dn, args := #[] } :: D) V := dk_more (by omega) (by omega) hD hBV (by omega) hdf
        have HD := Lib.hid hD'
        have hBX : Below (C + 2) X V := HX.out.trans (hBV.mono (by omega))
        have HBX := Lib.hid hBX
        clear hD' hBX hys hD
        gi_wp2
        refine ⟨⟨rd + 1, V.heap.size, _, by omega, by omega, ?_, HBX.out.alloc (by omega) _, dk_alloc HD.out _, _, _, _, _, _, _, _, _, _, _, _, _, _, _, _, _, _, _, _, _, _, _, _, _, _, _, _, _, _, _, _, _, _, _, _, _, _, _, _, _, _, _, _, _, _, _, _, _, _, _, _, rfl⟩, ?_⟩
        · have h := Blk.new V [.int .i64 ((rd : Int) + 1)] 3
          rw [show ((rd + 1 : Nat) : Int) = (rd : Int) + 1 from by omega]
          exact h
        · have h1 := (Blk.new V [.int .i64 ((rd : Int) + 1)] 3).cell 0
          have h2 := hblk.cell 0
          rw [List.getElem?_cons_zero] at h1 h2
          rw [rdOf_eq 2 rfl h1, rdOf_eq 2 rfl h2]
          omega
      case stop =>
        rintro Dn c pre V hDn ⟨t, ht⟩ hix hdf
        rcases hix with ⟨rfl, hr0, hbV, hBV⟩ | ⟨rfl, hno⟩
        · obtain ⟨hv1, hv2, hv3, hv4, hv5⟩ := HWB.out V hBV
          have k1 := hv1.cell 0
          have k2 := hv2.cell 0
          have k4 := hv4.cell 0
          have k5 := hbV.cell 0
          rw [List.getElem?_cons_zero] at k1 k2 k4 k5
          have hVs := hbV.lt
          have hD' : Dk (C + 2) (rd + 1) ({ target := .collected Dn, args := #[] } :: D) V := dk_more (by omega) (by omega) hD hBV (by omega) hdf
          have HD := Lib.hid hD'
          have hBX : Below (C + 2) X V := HX.out.trans (hBV.mono (by omega))
          have HBX := Lib.hid hBX
          clear hD' hBX hD ht
          have d3 : ((rd : Int) == 0) = true := by simp; omega
          have HR := Lib.hid hr0
          clear hr0
          by_cases hsl : stop = (lines l).length
          · subst hsl
            gi_wp2
            refine ⟨⟨rd + 1, V.heap.size, _, by omega, by omega, ?_, HBX.out.alloc (by omega) _, dk_alloc HD.out _, _, _, _, _, _, _, _, _, _, _, _, _, _, _, _, _, _, _, _, _, _, _, _, _, _, _, _, _, _, _, _, _, _, _, _, _, _, _, _, _, _, _, _, _, _, _, _, _, _, _, _, rfl⟩, ?_⟩
            · have h := Blk.new V [.int .i64 ((rd : Int) + 1)] 3
              rw [show ((rd + 1 : Nat) : Int) = (rd : Int) + 1 from by omega]
              exact h
            · have h1 := (Blk.new V [.int .i64 ((rd : Int) + 1)] 3).cell 0
              have h2 := hblk.cell 0
              rw [List.getElem?_cons_zero] at h1 h2
              rw [rdOf_eq 2 rfl h1, rdOf_eq 2 rfl h2]
              omega
          · have d4 : (stop != ((lines l).length : Int)) = true := by simpa using hsl
            gi_wp2
            refine ⟨⟨rd + 1, V.heap.size, _, by omega, by omega, ?_, HBX.out.alloc (by omega) _, dk_alloc HD.out _, _, _, _, _, _, _, _, _, _, _, _, _, _, _, _, _, _, _, _, _, _, _, _, _, _, _, _, _, _, _, _, _, _, _, _, _, _, _, _, _, _, _, _, _, _, _, _, _, _, _, _, rfl⟩, ?_⟩
            · have h := Blk.new V [.int .i64 ((rd : Int) + 1)] 3
              rw [show ((rd + 1 : Nat) : Int) = (rd : Int) + 1 from by omega]
              exact h
            · have h1 := (Blk.new V [.int .i64 ((rd : Int) + 1)] 3).cell 0
              have h2 := hblk.cell 0
              rw [List.getElem?_cons_zero] at h1 h2
              rw [rdOf_eq 2 rfl h1, rdOf_eq 2 rfl h2]
              omega
        · exact absurd ⟨t, ht.trans hE⟩ hno
    · obtain rfl : rd = 2 := by omega
      have d0 : decide (((2 : Nat) : Int) < 2) = false := by decide
      have hk2 : Blk W (B + 1) 4 [.bool false] := (hX.block (B + 1) (by omega)).trans X2
      have k3 := hk2.cell 0
      have f3 := hk2.frozen 0
      rw [List.getElem?_cons_zero] at k3
      have hfin : ∃ W', W.setCell ⟨B + 1, 0, none⟩ (.bool true) = W' ∧ Blk W' (B + 1) 4 [.bool true] ∧ Below B w W' ∧ Dk (C + 2) 2 D W' := ⟨_, rfl, blk_set hk2 _, (XB.trans (hX.mono (by omega))).setCell (p := ⟨B + 1, 0, none⟩) (by show B ≤ B + 1; omega) _, dk_set hD (by show B + 1 < C + 2; omega) _⟩
      obtain ⟨W', hW', hb', hB', hD'⟩ := hfin
      have k3' := hb'.cell 0
      rw [List.getElem?_cons_zero] at k3'
      clear hX hblk hD hk2
      obtain ⟨h0, _⟩ | ⟨h0, _⟩ | ⟨_, kk, mm, rfl, q1, q2, q3, q4⟩ := hD'
      · omega
      · omega
      have hres : ∀ (a : Array Value), a.getD 4 undef = .pointer (some ⟨B + 1, 0, none⟩) → (results Try.f12 a).run Try.prog ((W'.putObj mm (.deferred none)).putObj kk (.deferred none)) = .ok (.bool true) ((W'.putObj mm (.deferred none)).putObj kk (.deferred none)) := by
        intro a ha
        refine results_cell1 rfl a _ _ ha aggB ?_
        have hh : ((W'.putObj mm (.deferred none)).putObj kk (.deferred none)).heap[B + 1]? = W'.heap[B + 1]? := by
          rw [put_block _ _ _ _ (by omega), put_block _ _ _ _ (by omega)]
        rw [World.cell?_of_block (w := W') hh]
        exact k3'
      have hq3 : (W'.putObj mm (.deferred none)).heap[kk]? = some (.deferred (some [])) := by rw [put_block _ _ _ _ (by omega)]; exact q3
      have hBf : Below B w ((W'.putObj mm (.deferred none)).putObj kk (.deferred none)) := put_below (put_below hB' (by omega) _) (by omega) _
      have HRES := Lib.hid hres
      have HQ3 := Lib.hid hq3
      have HQ4 := Lib.hid q4
      have HBF := Lib.hid hBf
      clear hres hq3 q3 q4 hBf hB'
      gi_wp2
      refine ⟨by simp, .inl ⟨_, _, rfl, run_takeDeferred HQ4.out, ?_⟩⟩
      refine ⟨by simp, .inl ⟨_, _, rfl, run_takeDeferred HQ3.out, ?_⟩⟩
      exact ⟨_, HRES.out _ rfl, rfl, by rw [HBW.out]; exact HBF.out⟩
end Go.Proofs.Ytmiffljcggfcgaa.Lin
