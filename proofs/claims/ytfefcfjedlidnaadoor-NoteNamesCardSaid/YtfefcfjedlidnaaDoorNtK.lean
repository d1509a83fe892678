/- note.Key and the reference's. -/
import Derived.Test.YtfefcfjedlidnaaDoorNtN
import Derived.Test.YtfefcfjedlidnaaDoorMine
import Derived.Test.YtfefcfjedlidnaaDoorShaA
import Derived.Test.YtfefcfjedlidnaaDoorShaB
import Derived.Test.YtfefcfjedlidnaaDoorNotD
namespace Go.Proofs.YtfefcfjedlidnaaDoor.Sha
open Go Go.RowKit Go.Proofs.YtfefcfjedlidnaaDoor.Cop Go.Proofs.YtfefcfjedlidnaaDoor.Oct Go.Proofs.YtfefcfjedlidnaaDoor.Utf
set_option linter.unusedVariables false
set_option linter.unusedSimpArgs false
def keyM (s : ByteArray) (d : List UInt8) : List UInt8 := (s.data.toList ++ [10]) ++ d
def keyN (s : ByteArray) (d : List UInt8) : Nat := num ((sha (keyM s d)).take 4)
/-- The region of the reference's Key: what is known when the operations b have come up. -/
def RKF (s : ByteArray) (d out : List UInt8) (gp B : Nat) (w1 : World) (b0 b1 b2 b3 b4 b5 b6 b7 b8 : Bool) (v6 v13 v14 v15 v16 v17 v18 v19 : Value) (W : World) : Prop :=
  Below B w1 W ∧ (b0 = true → v13 = .string s) ∧ (b1 = true → b3 = false → Mine B W v14 s.data.toList) ∧ (b2 = true → b3 = false → Rd W v15 [10]) ∧ (b3 = true → b5 = false → Mine B W v16 (s.data.toList ++ [10])) ∧
  (b4 = true → v17 = .slice (some ⟨gp, 0, none⟩) 32 32) ∧ (b5 = true → b6 = false → Mine B W v18 (keyM s d)) ∧ (b6 = true → v19 = dg out) ∧ (b7 = true → ∃ g6, v6 = .pointer (some ⟨g6, 0, none⟩) ∧ B ≤ g6 ∧ Blk W g6 27 (bcs (if b8 then out else dz)))
def RKI (s : ByteArray) (d out : List UInt8) (gp B : Nat) (w1 : World) (D : Nat → Bool) (a : Act) (W : World) : Prop :=
  ∃ v6 v13 v14 v15 v16 v17 v18 v19, a = { tmps := #[.string s, dg d, undef, .pointer (some ⟨gp, 0, none⟩), .int .u32 0, .int .i64 0, v6, undef, undef, undef, .string s, .bool true, .bool false, v13, v14, v15, v16, v17, v18, v19, undef, undef, undef, undef, undef, undef, undef, undef], defers := [] } ∧
    RKF s d out gp B w1 (D 0) (D 1) (D 2) (D 3) (D 4) (D 5) (D 6) (D 7) (D 8) v6 v13 v14 v15 v16 v17 v18 v19 W
theorem RKF.grow {s : ByteArray} {d out : List UInt8} {gp B : Nat} {w1 : World} {b0 b1 b2 b3 b4 b5 b6 b7 b8 : Bool} {v6 v13 v14 v15 v16 v17 v18 v19 : Value} {W W' : World} (h : RKF s d out gp B w1 b0 b1 b2 b3 b4 b5 b6 b7 b8 v6 v13 v14 v15 v16 v17 v18 v19 W) (hB : B ≤ W.heap.size) (hb : Below W.heap.size W W') :
    RKF s d out gp B w1 b0 b1 b2 b3 b4 b5 b6 b7 b8 v6 v13 v14 v15 v16 v17 v18 v19 W' := by
  obtain ⟨h0, h1, h2, h3, h4, h5, h6, h7, h8⟩ := h
  refine ⟨h0.trans (hb.mono hB), h1, fun e e' => (h2 e e').below hb, fun e e' => (h3 e e').below hb, fun e e' => (h4 e e').below hb, h5, fun e e' => (h6 e e').below hb, h7, fun e => ?_⟩
  obtain ⟨g6, q1, q2, q3⟩ := h8 e
  exact ⟨g6, q1, q2, q3.below hb⟩
theorem blk_app {B : Nat} {W W' : World} {v : Value} {xs : List UInt8} (hv : Mine B W v xs) (h : ∀ k, k < W.heap.size → v.ownBlock ≠ some k → W'.heap[k]? = W.heap[k]?) {g : Nat} {cs : List Value} (hk : Blk W g 27 cs) : Blk W' g 27 cs := by
  refine (h g hk.lt ?_).trans hk
  intro e
  have := (hv.lt g e).2.uniq (blk_elemT hk)
  revert this
  decide
theorem below_nil (a b : Nat) : a = b → True := fun _ => trivial
set_option maxRecDepth 100000 in
theorem rkey_region (s : ByteArray) (d out : List UInt8) (gp : Nat) (w1 : World) (hs : s.size ≤ 64) (hd : d.length = 32) (hg : Blk w1 gp 28 (bcs d)) (ho : sha (keyM s d) = out) (hol : out.length = 32) {ops : Array Oper} {Q : Exit → Act → World → Prop}
    (hops : ops = #[{ dst := some 13, op := Op.move (Operand.tmp 0), type := 9, pos := "ref.go:91", after := #[], guard := none },
        { dst := some 14, op := Op.convert 9 24 (Operand.tmp 13), type := 24, pos := "ref.go:91", after := #[{ on := 0, ground := Ground.data }], guard := none },
        { dst := some 15, op := Op.buildSlice 24 1 #[(0, Operand.const (Value.int IntKind.u8 10))], type := 24, pos := "ref.go:91", after := #[], guard := none },
        { dst := some 16, op := Op.call { callee := Callee.builtin Builtin.append, args := #[Operand.tmp 14, Operand.tmp 15], argTypes := #[24, 24] }, type := 24, pos := "ref.go:91", after := #[{ on := 1, ground := Ground.data }, { on := 2, ground := Ground.data }], guard := none },
        { dst := some 17, op := Op.slice 28 (Operand.tmp 3) none none none, type := 24, pos := "ref.go:91", after := #[], guard := none },
        { dst := some 18, op := Op.call { callee := Callee.builtin Builtin.append, args := #[Operand.tmp 16, Operand.tmp 17], argTypes := #[24, 24] }, type := 24, pos := "ref.go:91", after := #[{ on := 3, ground := Ground.data }, { on := 4, ground := Ground.data }, { on := 3, ground := Ground.chain }], guard := none },
        { dst := some 19, op := Op.call { callee := Callee.value (Operand.func 85), args := #[Operand.tmp 18], argTypes := #[24] }, type := 27, pos := "ref.go:91", after := #[{ on := 5, ground := Ground.data }, { on := 5, ground := Ground.chain }], guard := none },
        { dst := some 6, op := Op.alloc 27, type := 0, pos := "ref.go:91", after := #[], guard := none },
        { dst := none, op := Op.store 27 (Operand.tmp 6) (Operand.tmp 19), type := 0, pos := "ref.go:91", after := #[{ on := 7, ground := Ground.data }, { on := 6, ground := Ground.data }, { on := 6, ground := Ground.chain }, { on := 0, ground := Ground.phase }, { on := 1, ground := Ground.phase }, { on := 2, ground := Ground.phase }, { on := 3, ground := Ground.phase }, { on := 4, ground := Ground.phase }, { on := 5, ground := Ground.phase }, { on := 6, ground := Ground.phase }, { on := 7, ground := Ground.phase }], guard := none }]) :
    StepsR Tryd.prog ops Q (RKI s d out gp w1.heap.size w1) := by
  subst hops
  have hne : keyM s d ≠ [] := by simp [keyM]
  have hkl : (keyM s d).length ≤ 140737488355200 := by
    have : s.data.toList.length = s.size := rfl
    simp only [keyM, List.length_append, List.length_cons, List.length_nil]
    omega
  have hsl : s.data.toList.length = s.size := rfl
  intro i o hi D a W hdi hdep hcl hI K hK
  obtain ⟨v6, v13, v14, v15, v16, v17, v18, v19, rfl, hF⟩ := hI
  have hBW : w1.heap.size ≤ W.heap.size := hF.1.size
  have h9 : i < 9 := (Array.getElem?_eq_some_iff.1 hi).1
  rcases (show i = 0 ∨ i = 1 ∨ i = 2 ∨ i = 3 ∨ i = 4 ∨ i = 5 ∨ i = 6 ∨ i = 7 ∨ i = 8 by omega) with rfl | rfl | rfl | rfl | rfl | rfl | rfl | rfl | rfl <;> obtain rfl := Option.some.inj hi
  · -- move
    refine st_run rfl (v := .string s) (w' := W) rfl (hK _ _ ⟨v6, _, v14, v15, v16, v17, v18, v19, rfl, ?_⟩)
    obtain ⟨h0, h1, h2⟩ := hF
    exact ⟨h0, fun _ => rfl, h2⟩
  · -- convert
    have d0 : D 0 = true := hdep ⟨0, .data⟩ (by simp) rfl
    obtain rfl := hF.2.1 d0
    refine st_ofStr rfl (.tmp 13) rfl (s := s) rfl (by unfold maxLen; omega) ?_
    intro v' w' hm hb
    have hF' := hF.grow hBW hb
    refine hK _ _ ⟨v6, _, v', v15, v16, v17, v18, v19, rfl, ?_⟩
    obtain ⟨h0, h1, h2, h3⟩ := hF'
    exact ⟨h0, h1, fun _ _ => hm.mono hBW, h3⟩
  · -- buildSlice
    have hn := Rd.one W 10 5
    have hb : Below W.heap.size W (W.alloc (.cells #[u8c 10] 5)) := (Below.refl _ _).alloc (Nat.le_refl _) _
    have hF' := hF.grow hBW hb
    refine st_run rfl (v := .slice (some ⟨W.heap.size, 0, none⟩) 1 1) (w' := W.alloc (.cells #[u8c 10] 5)) ?_ (hK _ _ ⟨v6, v13, v14, _, v16, v17, v18, v19, rfl, ?_⟩)
    · go_simp
      rfl
    · obtain ⟨h0, h1, h2, h3, h4⟩ := hF'
      exact ⟨h0, h1, h2, fun _ _ => hn, h4⟩
  · -- append
    have d1 : D 1 = true := hdep ⟨1, .data⟩ (by simp) rfl
    have d2 : D 2 = true := hdep ⟨2, .data⟩ (by simp) rfl
    have d5 : D 5 = false := by
      cases h : D 5 with
      | false => rfl
      | true => rw [hcl 5 _ rfl h ⟨3, .data⟩ (by simp) rfl] at hdi; cases hdi
    obtain ⟨h0, h1, h2, h3, h4, h5, h6, h7, h8⟩ := hF
    have hm := h2 d1 hdi
    refine st_appM rfl (.tmp 14) (.tmp 15) rfl rfl rfl hm (h3 d2 hdi) (by simp) (by simp; omega) hBW ?_
    intro v' w' hm' hb' hbl het
    refine hK _ _ ⟨v6, v13, v14, v15, _, v17, v18, v19, rfl, h0.trans hb', h1, (fun _ e => by cases e), (fun _ e => by cases e), fun _ _ => hm', h5, (fun e => ?_), h7, fun e => ?_⟩
    · rw [show upd D 3 5 = D 5 from rfl, d5] at e; cases e
    · obtain ⟨g6, q1, q2, q3⟩ := h8 e
      exact ⟨g6, q1, q2, blk_app hm hbl q3⟩
  · -- slice
    refine st_run rfl (v := .slice (some ⟨gp, 0, none⟩) 32 32) (w' := W) ?_ (hK _ _ ⟨v6, v13, v14, v15, v16, _, v18, v19, rfl, ?_⟩)
    · go_simp
    · obtain ⟨h0, h1, h2, h3, h4, h5, h6⟩ := hF
      exact ⟨h0, h1, h2, h3, h4, fun _ => rfl, h6⟩
  · -- append
    have d3 : D 3 = true := hdep ⟨3, .data⟩ (by simp) rfl
    have d4 : D 4 = true := hdep ⟨4, .data⟩ (by simp) rfl
    have d6 : D 6 = false := by
      cases h : D 6 with
      | false => rfl
      | true => rw [hcl 6 _ rfl h ⟨5, .data⟩ (by simp) rfl] at hdi; cases hdi
    obtain ⟨h0, h1, h2, h3, h4, h5, h6, h7, h8⟩ := hF
    have hm := h4 d3 hdi
    obtain rfl := h5 d4
    have hrp : Rd W (.slice (some ⟨gp, 0, none⟩) 32 32) d := Rd.of_blk (hg.below h0) 32 hd (by unfold maxLen; omega)
    refine st_appM rfl (.tmp 16) (.tmp 17) rfl rfl rfl hm hrp (by intro e; rw [e] at hd; cases hd) (by simp; omega) hBW ?_
    intro v' w' hm' hb' hbl het
    refine hK _ _ ⟨v6, v13, v14, v15, v16, _, _, v19, rfl, h0.trans hb', h1, (fun e e' => ?_), (fun e e' => ?_), (fun _ e => by cases e), h5, (fun _ _ => hm'), h7, fun e => ?_⟩
    · rw [show upd D 5 3 = D 3 from rfl, d3] at e'; cases e'
    · rw [show upd D 5 3 = D 3 from rfl, d3] at e'; cases e'
    · obtain ⟨g6, q1, q2, q3⟩ := h8 e
      exact ⟨g6, q1, q2, blk_app hm hbl q3⟩
  · -- Sum
    have d5 : D 5 = true := hdep ⟨5, .data⟩ (by simp) rfl
    have hrd := (hF.2.2.2.2.2.2.1 d5 hdi).rd
    have hsum : Calls Tryd.prog 85 #[v18] W fun e w' => e = .returned (dg out) ∧ Below W.heap.size W w' := by
      rw [← ho]; exact rsum_calls v18 _ W hrd hkl
    refine st_want rfl ?_
    go_simp
    refine hsum.mono ?_
    rintro e w' ⟨rfl, hb⟩
    have hF' := hF.grow hBW hb
    refine hK _ _ ⟨v6, v13, v14, v15, v16, v17, v18, _, rfl, ?_⟩
    obtain ⟨h0, h1, h2, h3, h4, h5, h6, h7, h8⟩ := hF'
    exact ⟨h0, h1, h2, h3, h4, h5, (fun _ e => by cases e), fun _ => rfl, h8⟩
  · -- alloc
    have d8 : D 8 = false := by
      cases h : D 8 with
      | false => rfl
      | true => rw [hcl 8 _ rfl h ⟨7, .data⟩ (by simp) rfl] at hdi; cases hdi
    refine st_alloc rfl 27 rfl zeroA ?_
    intro w' hk hb hz
    have hF' := hF.grow hBW hb
    refine hK _ _ ⟨_, v13, v14, v15, v16, v17, v18, v19, rfl, ?_⟩
    obtain ⟨h0, h1, h2, h3, h4, h5, h6, h7, h8⟩ := hF'
    refine ⟨h0, h1, h2, h3, h4, h5, h6, h7, fun _ => ⟨_, rfl, hBW, ?_⟩⟩
    rw [show upd D 7 8 = D 8 from rfl, d8]
    simpa [Value.cells] using hk
  · -- store
    have d7 : D 7 = true := hdep ⟨7, .data⟩ (by simp) rfl
    have d6 : D 6 = true := hdep ⟨6, .data⟩ (by simp) rfl
    have d5 : D 5 = true := hdep ⟨5, .phase⟩ (by simp) rfl
    have d3 : D 3 = true := hdep ⟨3, .phase⟩ (by simp) rfl
    obtain ⟨h0, h1, h2, h3, h4, h5, h6, h7, h8⟩ := hF
    obtain rfl := h7 d6
    obtain ⟨g6, rfl, q2, q3⟩ := h8 d7
    refine st_store_blk rfl 27 (.tmp 6) (.tmp 19) rfl rfl sizeA rfl q3 (by rw [hdi]; simp [bcs_length, dz]) (v := dg out) rfl (dg_size hol) (dg_one _) ?_
    intro w' hk hg6
    refine hK _ _ ⟨_, v13, v14, v15, v16, v17, v18, _, rfl, h0.grown hg6 hBW (fun r e => by injection e with e; omega), h1, (fun e e' => ?_), (fun e e' => ?_), (fun e e' => ?_), h5, (fun e e' => ?_), (fun _ => rfl), fun _ => ⟨g6, rfl, q2, ?_⟩⟩
    · rw [show upd D 8 3 = D 3 from rfl, d3] at e'; cases e'
    · rw [show upd D 8 3 = D 3 from rfl, d3] at e'; cases e'
    · rw [show upd D 8 5 = D 5 from rfl, d5] at e'; cases e'
    · rw [show upd D 8 6 = D 6 from rfl, d6] at e'; cases e'
    · simpa [Value.cells, upd] using hk
theorem room4 (l : Nat) (h : l = 32) : room l 0 4 = 0 := by subst h; decide
theorem name_le (s : ByteArray) (h : nameB s = true) : s.size ≤ 64 := by
  unfold nameB at h
  simp only [Bool.and_eq_true, decide_eq_true_eq] at h
  exact h.1.2
theorem num4_lt (out : List UInt8) : num (out.take 4) < 4294967296 := num_take_lt out 4 4 (Nat.le_refl _)
set_option maxRecDepth 100000 in
theorem rkey_calls (s : ByteArray) (d : List UInt8) (hd : d.length = 32) (w : World) : Calls Tryd.prog 41 #[.string s, dg d] w fun e w' => e = .returned (if nameB s then .tuple #[.int .u32 (keyN s d : Int), .int .i64 0] else .tuple #[.int .u32 0, .int .i64 2]) ∧ Below w.heap.size w w' := by
  have hn := fun w => rname_calls s w
  cases hb : nameB s with
  | false =>
    rw [hb] at hn
    clear hb
    go_enter Tryd.func41, Tryd.ntmps41
    go_wp2_with (first | (((with_reducible refine gate_dst (N := 3) rfl ?_); go_loud (refine wp_box rfl _ _ rfl (v := dg d) rfl ?_); intro w1 hk1 hb1 hz1)) | (go_at_call 43; go_loud (refine (hn _).mono ?_); rintro e w' ⟨rfl, rfl⟩))
    go_ret2
    exact ⟨rfl, hb1⟩
  | true =>
    have hs := name_le s hb
    have hl := sha_len (keyM s d)
    have hkn : num ((sha (keyM s d)).take 4) = keyN s d := rfl
    have hlt := num4_lt (sha (keyM s d))
    obtain ⟨out, ho⟩ : ∃ o, sha (keyM s d) = o := ⟨_, rfl⟩
    rw [ho] at hl hkn hlt
    obtain ⟨N, hN⟩ : ∃ n, keyN s d = n := ⟨_, rfl⟩
    rw [hN] at hkn ⊢
    have hcv : (num (out.take 4) : Int) < 4294967296 := by omega
    have HL := Lib.hid hl
    have HO := Lib.hid ho
    have HD := Lib.hid hd
    have HKN := Lib.hid hkn
    rw [hb] at hn
    clear hb hl ho hd hN hkn hlt hcv
    go_enter Tryd.func41, Tryd.ntmps41
    go_wp2_with (first | (((with_reducible refine gate_dst (N := 3) rfl ?_); go_loud (refine wp_box rfl _ _ rfl (v := dg d) rfl ?_); intro w1 hk1 hb1 hz1)) | (go_at_call 43; go_loud (refine (hn _).mono ?_); rintro e w' ⟨rfl, rfl⟩))
    have hk1' : Blk w1 w.heap.size 28 (bcs d) := by simpa [Value.cells] using hk1
    refine wp_region_inv (RKI s d out w.heap.size w1.heap.size w1) (by kernel_rfl) (by kernel_rfl) ?_ (rkey_region s d out w.heap.size w1 hs HD.out hk1' HO.out HL.out rfl) ?_
    · exact ⟨undef, undef, undef, undef, undef, undef, undef, undef, rfl, (Below.refl _ _).drew, (fun e => by cases e), (fun e => by cases e), (fun e => by cases e), (fun e => by cases e), (fun e => by cases e), (fun e => by cases e), (fun e => by cases e), (fun e => by cases e)⟩
    intro D a W hall hI
    obtain ⟨v6, v13, v14, v15, v16, v17, v18, v19, rfl, hF⟩ := hI
    obtain ⟨g6, rfl, hg6, hk6⟩ := hF.2.2.2.2.2.2.2.2 (hall 7 (by decide))
    rw [hall 8 (by decide)] at hk6
    have hbW := hF.1
    have hk7 : Blk W g6 27 (bcs out) := hk6
    have hbel : Below w.heap.size w W := hb1.trans (hbW.mono hb1.size)
    clear hF hall hk6 hk1 hk1' hn
    have hrd : Bs W (.slice (some ⟨g6, 0, none⟩) 32 32) out := (Rd.of_blk hk7 32 HL.out (by unfold maxLen; omega)).bs (by rw [HL.out]; omega)
    have hrr := rread_calls (.slice (some ⟨g6, 0, none⟩) 32 32) out 0 4 W hrd (by omega) (by omega)
    have hget : GetR .u64 out 0 4 W = fun e w' => W = w' ∧ e = .returned (.tuple #[.int .u64 (N : Int), .int .i64 4, .int .i64 0]) := by
      funext e w'
      unfold GetR
      rw [HL.out, room4 32 rfl, if_pos rfl, ← HKN.out]
      rfl
    rw [hget] at hrr
    clear hget
    have hNlt : N < 4294967296 := by rw [← HKN.out]; exact num4_lt out
    go_wp2_with (go_at_call 93; go_loud (refine hrr.mono ?_); rintro e w' ⟨rfl, rfl⟩)
    go_ret2
    exact ⟨by first | rfl | (simp; done), hbel⟩
set_option maxRecDepth 100000 in
theorem key_calls (s : ByteArray) (d : List UInt8) (hd : d.length = 32) (w : World) (hK : Kon w) : Calls Tryd.prog 40 #[.string s, dg d] w fun e w' => e = .returned (if nameB s then .tuple #[.int .u32 (keyN s d : Int), .int .i64 0] else .tuple #[.int .u32 0, .int .i64 2]) ∧ Below w.heap.size w w' := by
  have hn := fun w => name_calls s w
  cases hb : nameB s with
  | false =>
    rw [hb] at hn
    clear hb
    go_enter Tryd.func40, Tryd.ntmps40
    go_wp2_with (first | (((with_reducible refine gate_dst (N := 3) rfl ?_); go_loud (refine wp_box rfl _ _ rfl (v := dg d) rfl ?_); intro w1 hk1 hb1 hz1)) | (go_at_call 42; go_loud (refine (hn _).mono ?_); rintro e w2 ⟨rfl, hb2⟩))
    go_ret2
    exact ⟨rfl, hb1.trans (hb2.mono hb1.size)⟩
  | true =>
    have hs := name_le s hb
    have hl := sha_len (keyM s d)
    have hkn : num ((sha (keyM s d)).take 4) = keyN s d := rfl
    have hsum : ∀ v w, Rd w v (keyM s d) → Inn w v → Kon w → Calls Tryd.prog 82 #[v] w fun e w' => e = .returned (dg (sha (keyM s d))) ∧ Below w.heap.size w w' := fun v w h1 h2 h3 => hsum_calls v _ w h1 h2 (by
      have : s.data.toList.length = s.size := rfl
      simp only [keyM, List.length_append, List.length_cons, List.length_nil]
      omega) h3
    obtain ⟨out, ho⟩ : ∃ o, sha (keyM s d) = o := ⟨_, rfl⟩
    rw [ho] at hl hkn hsum
    obtain ⟨N, hN⟩ : ∃ n, keyN s d = n := ⟨_, rfl⟩
    rw [hN] at hkn ⊢
    have hst : s.data.toList ++ [10] = (s ++ (⟨#[10]⟩ : ByteArray)).data.toList := by simp
    have HL := Lib.hid hl
    have HD := Lib.hid hd
    have HKN := Lib.hid hkn
    have HSUM := Lib.hid hsum
    have HKK := Lib.hid hK
    have hsz : (s ++ (⟨#[10]⟩ : ByteArray)).size = s.size + 1 := by rw [ByteArray.size_append]; rfl
    have HSZ := Lib.hid hsz
    have HST := Lib.hid hst
    rw [hb] at hn
    clear hb hl ho hd hN hkn hsum hK hst hsz
    go_enter Tryd.func40, Tryd.ntmps40
    go_wp2_with (first | (((with_reducible refine gate_dst (N := 3) rfl ?_); go_loud (refine wp_box rfl _ _ rfl (v := dg d) rfl ?_); intro w1 hk1 hb1 hz1)) | (go_at_call 42; go_loud (refine (hn _).mono ?_); rintro e w2 ⟨rfl, hb2⟩) | ((with_reducible refine gate_dst (N := 15) rfl ?_); go_loud (refine wp_ofStrM rfl _ rfl rfl (by rw [HSZ.out]; unfold maxLen; omega) ?_); intro v3 w3 hm3 hb3; have hk3 : Blk w3 w.heap.size 28 (bcs d) := Blk.below (Blk.below (by simpa [Value.cells] using hk1) hb2) hb3) | (((with_reducible refine gate_dst (N := 16) rfl ?_); go_loud (refine wp_load_blk rfl 28 _ rfl aggD sizeD rfl hk3 ((by rw [bcs_length]; exact HD.out)) ?_))))
    have hbel3 : Below w.heap.size w w3 := (hb1.trans (hb2.mono hb1.size)).trans (hb3.mono (by have := hb1.size; have := hb2.size; omega))
    rw [← HST.out] at hm3
    clear hk1 hn
    refine (putD v3 (s.data.toList ++ [10]) d w3 (hm3.rd.bs (by have : s.data.toList.length = s.size := rfl; simp; omega)) HD.out).mono ?_
    intro e w4 hq
    obtain ⟨v4, rfl, hown4, hb4⟩ := ret_own' hq (by simp only [List.length_append, HD.out])
    clear hq
    have hbel4 : Below w.heap.size w w4 := hbel3.trans (hb4.mono hbel3.size)
    go_wp2_with fail
    refine (HSUM.out v4 w4 hown4.rd (Inn.own hown4) (HKK.out.below hbel4)).mono ?_
    rintro e w5 ⟨rfl, hb5⟩
    have hbel5 : Below w.heap.size w w5 := hbel4.trans (hb5.mono hbel4.size)
    go_wp2_with (first | (((with_reducible refine gate_dst (N := 6) rfl ?_); go_loud (refine wp_alloc rfl _ rfl zeroD ?_); intro w6 hk6 hb6 hz6)) | (((with_reducible refine gate_store (t := 28) (p := 6) rfl ?_); go_loud (refine wp_store_blk rfl 28 _ _ rfl rfl sizeD rfl hk6 (dz_cells) (v := dg out) rfl (dg_size HL.out) (dg_one _) ?_); intro w7 hk7 hg7)))
    have hk8 : Blk w7 w5.heap.size 28 (bcs out) := by simpa [Value.cells] using hk7
    have hbel7 : Below w.heap.size w w7 := (hbel5.trans (hb6.mono hbel5.size)).grown hg7 (by have := hbel5.size; omega) (fun r e => by injection e with e; have := hbel5.size; omega)
    clear hk6 hk7
    have hrd : Bs w7 (.slice (some ⟨w5.heap.size, 0, none⟩) 32 32) out := (Rd.of_blk hk8 32 HL.out (by unfold maxLen; omega)).bs (by rw [HL.out]; omega)
    have hrr := g32_calls (.slice (some ⟨w5.heap.size, 0, none⟩) 32 32) out 0 w7 hrd (by omega)
    have hget : GetR .u32 out 0 4 w7 = fun e w' => w7 = w' ∧ e = .returned (.tuple #[.int .u32 (N : Int), .int .i64 4, .int .i64 0]) := by
      funext e w'
      unfold GetR
      rw [HL.out, room4 32 rfl, if_pos rfl, ← HKN.out]
      rfl
    rw [hget] at hrr
    clear hget
    go_wp2_with (go_at_call 92; go_loud (refine hrr.mono ?_); rintro e w' ⟨rfl, rfl⟩)
    go_ret2
    exact ⟨by first | rfl | (simp; done), hbel7⟩
end Go.Proofs.YtfefcfjedlidnaaDoor.Sha
