/- Base64, the program's: its contract (a range over slices.Chunk). -/
import Derived.Test.YtfefcfjedlidnaaDoorChunk
import Derived.Test.YtfefcfjedlidnaaDoorB64E
import Derived.Test.YtfefcfjedlidnaaDoorBld
import Derived.Test.YtfefcfjedlidnaaDoorShelf
namespace Go.Proofs.YtfefcfjedlidnaaDoor.Chk
open Go Go.RowKit Go.Shelf Go.Proofs.YtfefcfjedlidnaaDoor.Cop Go.Proofs.YtfefcfjedlidnaaDoor.Oct Go.Proofs.YtfefcfjedlidnaaDoor.Hex Go.Proofs.YtfefcfjedlidnaaDoor.B64 Go.Proofs.YtfefcfjedlidnaaDoor.Bld
set_option linter.unusedVariables false
set_option linter.unusedSimpArgs false
attribute [local go_sem] Oper.semAt_some

theorem or_24 (q d : Nat) (h1 : q < 65536) (h2 : d < 256) : bits BinOp.or IntKind.u32 ((q : Int) * 256) (d : Int) = ((q * 256 + d : Nat) : Int) := by
  rw [show (q : Int) * 256 = ((q * 256 : Nat) : Int) from by omega, u32_or_nat (q * 256) d (by omega) (by omega)]
  congr 1
  rw [show q * 256 = q <<< 8 from by rw [Nat.shiftLeft_eq], ← Nat.shiftLeft_add_eq_or_of_lt (by omega)]
theorem and_63 (x : Nat) (h : x < 16777216) : bits BinOp.and IntKind.u32 (x : Int) 63 = ((x % 64 : Nat) : Int) := by
  have := u32_and_nat x 63 (by omega) (by decide)
  rw [show ((63 : Nat) : Int) = 63 from rfl] at this
  rw [this, Nat.and_two_pow_sub_one_eq_mod x 6]
theorem sx_at (s : ByteArray) (hs : s.data.toList = SX) (i : Nat) (h : i < s.size) : s[i]'h = SX.getD i 0 := by rw [← bgetD s i h, hs]
/-- All pieces, told one behind the other, are the bytes told. -/
theorem pieces_upto (l : List UInt8) : ∀ k : Nat, k ≤ (l.length + 2) / 3 → (List.range k).flatMap (fun j => enc ((l.drop (3 * j)).take 3)) = b64 (l.take (3 * k))
  | 0, _ => by simp [b64]
  | k + 1, h => by
    have hlt : 3 * k < l.length := by omega
    rw [List.range_succ, List.flatMap_append, pieces_upto l k (by omega), show 3 * (k + 1) = 3 * k + 3 from by omega, b64_step l (3 * k) (by omega) hlt]
    simp
theorem pieces_all (l : List UInt8) (ys : List { j : Nat // 3 * j < l.length }) (h : ys.map (·.1) = List.range ((l.length + 2) / 3)) : (ys.flatMap fun x => enc ((l.drop (3 * x.1)).take 3)) = b64 l := by
  have e : (ys.flatMap fun x => enc ((l.drop (3 * x.1)).take 3)) = (ys.map (·.1)).flatMap (fun j => enc ((l.drop (3 * j)).take 3)) := by rw [List.flatMap_map]
  rw [e, h, pieces_upto l _ (Nat.le_refl _), List.take_of_length_le (by omega)]
theorem pieces_len {p : Nat → Prop} (l : List UInt8) (pre : List { j : Nat // p j }) : (pre.flatMap fun x => enc ((l.drop (3 * x.1)).take 3)).length = 4 * pre.length := by
  induction pre with
  | nil => rfl
  | cons x r ih => rw [List.flatMap_cons, List.length_append, ih, enc_length, List.length_cons]; omega
theorem keep2_step {x y b : Nat} {e t1 t2 : TypeId} {W0 W1 W2 : World} {c1 c2 : Array Value} {f1 f2 : Nat × Nat} (h1 : W0.heap[x]? = some (.cells c1 t1 f1)) (h2 : W0.heap[y]? = some (.cells c2 t2 f2)) (n1 : t1 ≠ e) (n2 : t2 ≠ e) (b1 : x ≠ b) (b2 : y ≠ b)
    (hk : Keep2 x y W0 W1) (ho : Lib.OthersKept e (some b) W1 W2) : Keep2 x y W0 W2 := by
  refine ⟨(ho x _ (hk.1.trans h1) (by simpa using b1) ?_).trans h1.symm, (ho y _ (hk.2.trans h2) (by simpa using b2) ?_).trans h2.symm⟩
  · intro c fz e'; injection e' with _ e2 _; exact n1 e2
  · intro c fz e'; injection e' with _ e2 _; exact n2 e2
theorem from_step {B b : Nat} {e : TypeId} {W W1 W2 : World} (hb : b < B) (hk : KeepsFrom B W W1) (hs : W1.heap.size ≤ W2.heap.size) (ho : Lib.OthersKept e (some b) W1 W2) : KeepsFrom B W W2 :=
  hk.trans ⟨hs, fun k o hB hk ho2 => ho k o hk (by intro e; injection e; omega) (by rintro c fz rfl; cases ho2)⟩
theorem piece_rd {w : World} {ad : Addr} {cap : Nat} {l : List UInt8} (hv : Rd w (.slice (some ad) l.length cap) l) (p n : Nat) (m : List UInt8) (hm : m = (l.drop p).take 3) (hn : n = m.length) (k : Nat) (hk : k < n) (c : UInt8) (hc : m[k]? = some c) : w.cell? ((ad.add p).add k) = some (.int .u8 (c.toNat : Int)) := by
  obtain ⟨a, cp, he, _, _, _, h⟩ := hv
  injection he with e1 e2 e3
  have := h ad e1.symm (p + k) (u8c c) (by
    unfold bcs
    rw [hm, List.getElem?_take] at hc
    split at hc
    · rw [List.getElem?_drop] at hc
      rw [List.getElem?_map, hc]; rfl
    · cases hc)
  rw [show (ad.add p).add k = ad.add (p + k) from by by_cases h1 : p = 0 <;> by_cases h2 : k = 0 <;> simp [Addr.add, h1, h2, Nat.add_assoc]]
  exact this

set_option maxRecDepth 100000 in
set_option maxHeartbeats 8000000 in
theorem base64_some (ad : Addr) (cap : Nat) (l : List UInt8) (w : World) (hv : Rd w (.slice (some ad) l.length cap) l) (hl : l.length ≤ 1048576) :
    Calls Tryd.prog 75 #[.slice (some ad) l.length cap] w fun e w' => e = .returned (.string (str (b64 l))) ∧ Below w.heap.size w w' := by
  refine (callsIn_wide (n := 3)).1 ?_
  refine callsIn_of_wp_marks Tryd.func75 rfl trivial ?_ rfl
  simp only [Tryd.ntmps75, List.size_toArray, List.length_cons, List.length_nil, Nat.reduceAdd, Nat.reduceSub, Array.replicate_succ, Array.replicate_zero, List.push_toArray, List.append_toArray, List.nil_append, List.cons_append]
  gi_wp2_with (refine ⟨trivial, ?_⟩; gi_at_call 119; refine (chunk_in Fence.wide 2 trivial rfl _ _ _ _).mono ?_; rintro e w1 ⟨rfl, rfl⟩)
  obtain ⟨W0, hW0⟩ : ∃ W0, (((w.alloc (.cells #[.pointer none, .slice none 0 0] 128)).alloc (.cells #[.slice (some ad) l.length cap] 24)).alloc (.cells #[.int .i64 3] 3)) = W0 := ⟨_, rfl⟩
  have hb0 : Below w.heap.size w W0 := by rw [← hW0]; exact (((Below.refl _ w).alloc (Nat.le_refl _) _).alloc (by simp) _).alloc (by simp; omega) _
  have hsz0 : W0.heap.size = w.heap.size + 3 := by rw [← hW0]; simp
  have hB0 : Lib.IsBuilder 128 5 w.heap.size w.heap.size [] W0 := by
    have hA : Below (w.heap.size + 1) (w.alloc (.cells #[.pointer none, .slice none 0 0] 128)) W0 := by rw [← hW0]; exact ((Below.refl _ _).alloc (by simp) _).alloc (by simp) _
    have hk := hA.block w.heap.size (by omega)
    have hf := Lib.fresh_isBuilder 128 5 w
    rcases hf with hf | hf
    · obtain ⟨h1, v, h2, h3, h4⟩ := hf
      refine .inl ⟨h1, v, hk.trans h2, ?_, h4⟩
      rw [← hW0]; exact (h3.alloc _).alloc _
    · obtain ⟨h1, v, h2, h3, h4⟩ := hf
      refine .inr ⟨h1, v, hk.trans h2, ?_, h4⟩
      rw [← hW0]; exact (h3.alloc _).alloc _
  have hc1 : W0.cell? ⟨w.heap.size + 1, 0, none⟩ = some (.slice (some ad) l.length cap) := by
    rw [← hW0]
    have h := (Blk.new (w.alloc (.cells #[.pointer none, .slice none 0 0] 128)) [.slice (some ad) l.length cap] 24).below ((Below.refl _ _).alloc (Nat.le_refl _) (.cells #[.int .i64 3] 3))
    have := h.cell 0
    simpa using this
  have hc2 : W0.cell? ⟨w.heap.size + 1 + 1, 0, none⟩ = some (.int .i64 3) := by
    rw [← hW0]
    have h := Blk.new ((w.alloc (.cells #[.pointer none, .slice none 0 0] 128)).alloc (.cells #[.slice (some ad) l.length cap] 24)) [.int .i64 3] 3
    have := h.cell 0
    simpa using this
  have hk1 : W0.heap[w.heap.size + 1]? = some (.cells #[.slice (some ad) l.length cap] 24 (0, 0)) := by
    rw [← hW0]
    have h := Lib.alloc_old ((w.alloc (.cells #[.pointer none, .slice none 0 0] 128)).alloc (.cells #[.slice (some ad) l.length cap] 24)) (.cells #[.int .i64 3] 3) (w.heap.size + 1) (by simp)
    rw [h]
    have h2 := World.alloc_heap_new (w.alloc (.cells #[.pointer none, .slice none 0 0] 128)) (.cells #[.slice (some ad) l.length cap] 24)
    rwa [World.size_alloc] at h2
  have hk2 : W0.heap[w.heap.size + 1 + 1]? = some (.cells #[.int .i64 3] 3 (0, 0)) := by
    rw [← hW0]
    have h2 := World.alloc_heap_new ((w.alloc (.cells #[.pointer none, .slice none 0 0] 128)).alloc (.cells #[.slice (some ad) l.length cap] 24)) (.cells #[.int .i64 3] 3)
    rwa [World.size_alloc, World.size_alloc] at h2
  rw [hW0]
  clear hW0
  obtain ⟨hcap, hcm⟩ : l.length ≤ cap ∧ cap ≤ maxLen := by
    obtain ⟨_, _, he, q1, q2, _⟩ := hv
    injection he with e1 e2 e3
    subst e3
    exact ⟨q1, q2⟩
  refine wpIn_rangeFunc_ownG rfl (by decide) (gf := 152) (lb := #[.pointer (some ⟨w.heap.size + 1, 0, none⟩), .pointer (some ⟨w.heap.size + 1 + 1, 0, none⟩)]) rfl trivial (enters_of Tryd.func152 (by kernel_rfl) rfl)
    (chunk_stops Fence.wide 2 trivial rfl (by decide) (w.heap.size + 1) (w.heap.size + 1 + 1) ad l.length cap hl hcap hcm W0 (by omega) (by omega) hc1 hc2)
    (fun h k => h.trans k) ?hKb (Below.refl _ _) (fun _ => rfl)
    (fun pre W => Lib.IsBuilder 128 5 w.heap.size w.heap.size (bcs (pre.flatMap fun x => enc ((l.drop (3 * x.1)).take 3))) W ∧ Below w.heap.size w W ∧ Keep2 (w.heap.size + 1) (w.heap.size + 1 + 1) W0 W)
    (fun _ _ _ => False) ?hI (fun _ _ _ _ _ hs _ _ => hs) ⟨hB0, hb0, Keep2.refl _ _ _⟩
    (fun x => { tmps := #[.slice (some ad) l.length cap, undef, .string ⟨#[]⟩, .pointer (some ⟨w.heap.size, 0, none⟩), piece ad l.length x.1, undef, undef, undef, .slice (some ad) l.length cap, .func (.func 152) #[] #[.pointer (some ⟨w.heap.size + 1, 0, none⟩), .pointer (some ⟨w.heap.size + 1 + 1, 0, none⟩)], piece ad l.length x.1, undef, undef, undef, undef, undef, undef, undef, undef, undef, undef, undef, undef, undef, undef, undef, undef, undef, undef, undef, undef, undef, undef, undef, undef, undef, undef, undef, undef, undef, undef, undef, undef, undef, undef, undef], defers := [] }) ?assign ?body ?done ?stop
  case hKb =>
    intro W k o o' hk ho hn hw
    have h := belowK_b (w := W0) (n₀ := W0.heap.size) (Nat.le_refl _) W k o o' hk ho hn hw
    exact ⟨h.block _ (by omega), h.block _ (by omega)⟩
  case hI =>
    intro s W W' row hs hg hr
    obtain ⟨hb, hB, hK⟩ := hs
    have hlt : w.heap.size < W.heap.size := by rcases hb with hb | hb <;> exact hb.lt
    have hblk : W'.heap[w.heap.size]? = W.heap[w.heap.size]? := hg.block _ hlt (by
      intro e
      have := (hr _ e.symm).1
      omega)
    have hne : ∀ v : Value, ∀ xs : List Value, W.ownsRow w.heap.size 5 1 v xs.length xs → (v.ownBlock = none ∨ v.ownBlock ≠ row) := by
      intro v xs ho
      rcases ho.2 with ⟨rfl, _⟩ | ⟨g, cp, cu, rfl, _, hgb, _⟩
      · exact .inl rfl
      · refine .inr (fun e => ?_)
        obtain ⟨_, o, ho1, ho2⟩ := hr _ e.symm
        rw [hgb] at ho1
        injection ho1 with ho1
        subst ho1
        cases ho2
    refine ⟨?_, hB.grown hg hB.size (fun k e => by have := (hr k e).1; omega), ⟨(hg.block _ (by have := hB.size; have := (Array.getElem?_eq_some_iff.1 (hK.1.trans hk1)).1; omega) (fun e => by have := (hr _ e.symm).1; omega)).trans hK.1, (hg.block _ (by have := (Array.getElem?_eq_some_iff.1 (hK.2.trans hk2)).1; omega) (fun e => by have := (hr _ e.symm).1; omega)).trans hK.2⟩⟩
    rcases hb with ⟨h1, v, h2, h3, h4⟩ | ⟨h1, v, h2, h3, h4⟩
    · exact .inl ⟨h1, v, hblk.trans h2, h3.kept hg (hne v _ h3), h4⟩
    · exact .inr ⟨h1, v, hblk.trans h2, h3.kept hg (hne v _ h3), h4⟩
  case assign =>
    intro k x W K hK
    gi_wp2
    exact hK
  case body =>
    rintro l' pre ⟨j, hj⟩ W ⟨hb, hB, hK⟩ hpl
    obtain ⟨P, hP⟩ : ∃ P, P = pre.flatMap fun x => enc ((l.drop (3 * x.1)).take 3) := ⟨_, rfl⟩
    have hPl : P.length ≤ 4194304 := by rw [hP, pieces_len]; omega
    rw [← hP] at hb
    obtain ⟨m, hm⟩ : ∃ m, m = (l.drop (3 * j)).take 3 := ⟨_, rfl⟩
    have happ : ((pre ++ [(⟨j, hj⟩ : { j : Nat // 3 * j < l.length })]).flatMap fun (x : { j : Nat // 3 * j < l.length }) => enc ((l.drop (3 * x.1)).take 3)) = P ++ enc m := by
      rw [List.flatMap_append, ← hP, hm]; simp
    obtain ⟨n, hn⟩ : ∃ n, n = m.length := ⟨_, rfl⟩
    have hnn : n = min 3 (l.length - 3 * j) := by rw [hn, hm]; simp
    have hn3 : n ≤ 3 := by omega
    have hn1 : 1 ≤ n := by omega
    have hpc : piece ad l.length j = .slice (some (ad.add (3 * j))) n n := by unfold piece; rw [← hnn]
    obtain ⟨ap, hap⟩ : ∃ ap, ap = ad.add (3 * j) := ⟨_, rfl⟩
    have hrd : ∀ W' : World, Below w.heap.size w W' → ∀ k, k < n → ∀ c, m[k]? = some c → W'.cell? (ap.add k) = some (.int .u8 (c.toNat : Int)) := by
      intro W' hb' k hk c hc
      rw [hap]
      exact piece_rd (hv.below hb') (3 * j) n m hm hn k hk c hc
    dsimp only
    rw [hpc, ← hap]
    have HRD := Lib.hid hrd
    have HAPP := Lib.hid happ
    have HN := Lib.hid hn
    clear hpc hap hnn hm hP happ hrd hn
    gi_wp2
    gi_loop [5, 11] (fun x y => ∃ k q : Nat, k ≤ 3 ∧ x = .int .u32 (q : Int) ∧ y = .int .i64 (k : Int) ∧ q < 16777216 ∧ Hid (q = num3 m k ∧ q < 256 ^ k)) (fun _ y => 3 - (intOf y).toNat)
    case atStart => exact ⟨0, 0, by omega, rfl, rfl, by omega, Lib.hid ⟨rfl, by decide⟩⟩
    case round =>
      obtain ⟨k, q, hk, rfl, rfl, hq24, HQ⟩ := hrel
      by_cases hk3 : k < 3
      · have e1 : decide ((k : Int) < 3) = true := decide_eq_true (by omega)
        have hq16 : q < 65536 := by
          have := HQ.out.2
          have : 256 ^ k ≤ 256 ^ 2 := Nat.pow_le_pow_right (by decide) (by omega)
          omega
        by_cases hkn : k < n
        · have e2 : decide ((k : Int) < (n : Int)) = true := decide_eq_true (by omega)
          have e3 : decide (k < n) = true := decide_eq_true hkn
          have hat : k < m.length := by rw [← HN.out]; exact hkn
          obtain ⟨c, hc⟩ : ∃ c, c = m[k] := ⟨_, rfl⟩
          have hcell := HRD.out W hB k hkn c (by rw [List.getElem?_eq_getElem hat, hc])
          have hnx : num3 m (k + 1) = q * 256 + c.toNat := by
            unfold num3
            rw [HQ.out.1, hc]
            rw [List.getD, List.getElem?_eq_getElem hat]; rfl
          have hlt256 := num3_lt m (k + 1)
          have hcl := c.toNat_lt
          obtain ⟨q2, hq2⟩ : ∃ q2 : Nat, q2 = q * 256 + c.toNat := ⟨_, rfl⟩
          have e4 := or_24 q c.toNat hq16 (by omega)
          rw [← hq2] at e4
          have hq2l : q2 < 16777216 := by omega
          have HQ2 := Lib.hid (show q2 = num3 m (k + 1) ∧ q2 < 256 ^ (k + 1) from ⟨by rw [hnx, hq2], by rw [hq2, ← hnx]; exact hlt256⟩)
          clear hc hnx hlt256 hq2
          gi_wp2
          go_round
          case rel => exact ⟨k + 1, q2, by omega, rfl, by go_num, hq2l, HQ2⟩
          case measure => simp [intOf]; omega
        · have e2 : decide ((k : Int) < (n : Int)) = false := decide_eq_false (by omega)
          have e3 : decide (k < n) = false := decide_eq_false hkn
          have hnx : num3 m (k + 1) = q * 256 := by
            unfold num3
            rw [HQ.out.1]
            have e : m.getD k 0 = 0 := by
              rw [List.getD, List.getElem?_eq_none (by rw [← HN.out]; omega)]; rfl
            rw [e]; rfl
          have hlt256 := num3_lt m (k + 1)
          obtain ⟨q2, hq2⟩ : ∃ q2 : Nat, q2 = q * 256 := ⟨_, rfl⟩
          have e4 : (q : Int) * 256 = (q2 : Int) := by omega
          have hq2l : q2 < 16777216 := by omega
          have HQ2 := Lib.hid (show q2 = num3 m (k + 1) ∧ q2 < 256 ^ (k + 1) from ⟨by rw [hnx, hq2], by rw [hq2, ← hnx]; exact hlt256⟩)
          clear hnx hlt256 hq2
          gi_wp2
          go_round
          case rel => exact ⟨k + 1, q2, by omega, (by first | rfl | rw [e4]), by go_num, hq2l, HQ2⟩
          case measure => simp [intOf]; omega
      · have e1 : decide ((k : Int) < 3) = false := decide_eq_false (by omega)
        have hk33 : k = 3 := by omega
        have hq1 := HQ.out.1
        rw [hk33] at hq1
        have HQ1 := Lib.hid hq1
        clear hq1 HQ hk33 HRD
        gi_wp2
        gi_loopw [28] (fun y wr => ∃ (k : Nat) (iv : Int), k ≤ 4 ∧ iv = (k : Int) ∧ y = .int .i64 iv ∧ Lib.IsBuilder 128 5 w.heap.size w.heap.size (bcs (P ++ (enc m).take k)) wr ∧ Below w.heap.size w wr ∧ Keep2 (w.heap.size + 1) (w.heap.size + 1 + 1) W0 wr ∧ KeepsFrom W0.heap.size W wr) (fun y _ => 4 - (intOf y).toNat)
        case atStart => exact ⟨0, 0, by omega, rfl, rfl, by simpa using hb, hB, hK, KeepsFrom.refl _ _⟩
        case round =>
          obtain ⟨k, iv, hk4, hiv, rfl, hbr, hBr, hKr, hFr⟩ := hrel
          have hlen : (bcs (P ++ (enc m).take k)).length + 1 ≤ 140737488355328 := by rw [bcs_length, List.length_append, List.length_take, enc_length]; omega
          by_cases hlt : k < 4
          · have hrest : ∀ (c : UInt8) (w2 : World), c = four m k → Lib.BuilderAt 128 5 w.heap.size w.heap.size (.pointer (some ⟨w.heap.size, 0, none⟩)) (bcs (P ++ (enc m).take k) ++ [.int .u8 (c.toNat : Int)]) w2 → Below w.heap.size wr w2 → Lib.OthersKept 5 (some w.heap.size) wr w2 →
                Lib.IsBuilder 128 5 w.heap.size w.heap.size (bcs (P ++ (enc m).take (k + 1))) w2 ∧ Below w.heap.size w w2 ∧ Keep2 (w.heap.size + 1) (w.heap.size + 1 + 1) W0 w2 ∧ KeepsFrom W0.heap.size W w2 := by
              intro c w2 hc h1 h2 h3
              refine ⟨.inr ?_, hBr.trans h2, keep2_step hk1 hk2 (by decide) (by decide) (by omega) (by omega) hKr h3, from_step (by omega) hFr h2.size h3⟩
              rw [enc_take m k hlt, ← List.append_assoc, bcs_append, ← hc]; exact h1
            have HREST := Lib.hid hrest
            clear hrest
            by_cases hnk : n < k
            · have e5 : decide (iv < 4) = true := decide_eq_true (by omega)
              have e6 : decide ((n : Int) < iv) = true := decide_eq_true (by omega)
              have hc61 : (61 : UInt8) = four m k := by unfold four; rw [if_pos (by rw [← HN.out]; exact hnk)]
              gi_wp2_with (refine ⟨trivial, ?_⟩; gi_at_call 120; refine (CallsIn.inRound l' (callsIn_wide.2 (wbyte_k w.heap.size w.heap.size _ _ wr hbr hlen hBr.size))).mono ?_; rintro e w2 ⟨rfl, ⟨h1, h2⟩, h3⟩)
              obtain ⟨r1, r2, r3, r4⟩ := HREST.out 61 w2 hc61 h1 h2 h3
              clear h1 h2 h3 hbr hBr hKr hFr HREST
              gi_wp2
              go_roundw
              case rel => exact ⟨k + 1, iv + 1, by omega, by omega, by first | rfl | go_num, r1, r2, r3, r4⟩
              case measure => simp [intOf]; omega
            · have hnk' : ¬ m.length < k := by rw [← HN.out]; exact hnk
              have hf : four m k = let4 m k := if_neg hnk'
              rcases four_cases hlt with hkk | hkk | hkk | hkk
              · obtain rfl : iv = 0 := by omega
                obtain rfl : k = 0 := hkk
                clear hiv hnk hlt hk4
                have e5 : decide ((0 : Int) < 4) = true := by decide
                have e6 : decide ((n : Int) < 0) = false := decide_eq_false (by have := HN.out; omega)
                obtain ⟨z, hz⟩ : ∃ z : Nat, z = q / 262144 % 64 := ⟨_, rfl⟩
                have z64 : z < 64 := by omega
                have z64' : (z : Int) < 64 := by omega
                have eand : bits BinOp.and IntKind.u32 ((q : Int) / 262144) 63 = (z : Int) := by
                  rw [show ((q : Int) / 262144 : Int) = ((q / 262144 : Nat) : Int) from by omega, and_63 _ (by omega), hz]
                have hlet : SX.getD z 0 = four m 0 := by
                  rw [hf, hz, HQ1.out]; rfl
                gi_wp2_with (refine ⟨trivial, ?_⟩; gi_at_call 120; refine (CallsIn.inRound l' (callsIn_wide.2 (wbyte_k w.heap.size w.heap.size _ _ wr hbr hlen hBr.size))).mono ?_; rintro e w2 ⟨rfl, ⟨h1, h2⟩, h3⟩)
                obtain ⟨r1, r2, r3, r4⟩ := HREST.out _ w2 (by refine (sx_at _ rfl _ _).trans ?_; first | exact hlet | (rw [← hz]; exact hlet)) h1 h2 h3
                clear h1 h2 h3 hbr hBr hKr hFr HREST hlet eand hz z64 z64'
                gi_wp2
                go_roundw
                case rel => exact ⟨0 + 1, 0 + 1, by omega, by omega, by first | rfl | go_num, r1, r2, r3, r4⟩
                case measure => simp [intOf]
              · obtain rfl : iv = 1 := by omega
                obtain rfl : k = 1 := hkk
                clear hiv hnk hlt hk4
                have e5 : decide ((1 : Int) < 4) = true := by decide
                have e6 : decide ((n : Int) < 1) = false := decide_eq_false (by have := HN.out; omega)
                obtain ⟨z, hz⟩ : ∃ z : Nat, z = q / 4096 % 64 := ⟨_, rfl⟩
                have z64 : z < 64 := by omega
                have z64' : (z : Int) < 64 := by omega
                have eand : bits BinOp.and IntKind.u32 ((q : Int) / 4096) 63 = (z : Int) := by
                  rw [show ((q : Int) / 4096 : Int) = ((q / 4096 : Nat) : Int) from by omega, and_63 _ (by omega), hz]
                have hlet : SX.getD z 0 = four m 1 := by
                  rw [hf, hz, HQ1.out]; rfl
                gi_wp2_with (refine ⟨trivial, ?_⟩; gi_at_call 120; refine (CallsIn.inRound l' (callsIn_wide.2 (wbyte_k w.heap.size w.heap.size _ _ wr hbr hlen hBr.size))).mono ?_; rintro e w2 ⟨rfl, ⟨h1, h2⟩, h3⟩)
                obtain ⟨r1, r2, r3, r4⟩ := HREST.out _ w2 (by refine (sx_at _ rfl _ _).trans ?_; first | exact hlet | (rw [← hz]; exact hlet)) h1 h2 h3
                clear h1 h2 h3 hbr hBr hKr hFr HREST hlet eand hz z64 z64'
                gi_wp2
                go_roundw
                case rel => exact ⟨1 + 1, 1 + 1, by omega, by omega, by first | rfl | go_num, r1, r2, r3, r4⟩
                case measure => simp [intOf]
              · obtain rfl : iv = 2 := by omega
                obtain rfl : k = 2 := hkk
                clear hiv hnk hlt hk4
                have e5 : decide ((2 : Int) < 4) = true := by decide
                have e6 : decide ((n : Int) < 2) = false := decide_eq_false (by have := HN.out; omega)
                obtain ⟨z, hz⟩ : ∃ z : Nat, z = q / 64 % 64 := ⟨_, rfl⟩
                have z64 : z < 64 := by omega
                have z64' : (z : Int) < 64 := by omega
                have eand : bits BinOp.and IntKind.u32 ((q : Int) / 64) 63 = (z : Int) := by
                  rw [show ((q : Int) / 64 : Int) = ((q / 64 : Nat) : Int) from by omega, and_63 _ (by omega), hz]
                have hlet : SX.getD z 0 = four m 2 := by
                  rw [hf, hz, HQ1.out]; rfl
                gi_wp2_with (refine ⟨trivial, ?_⟩; gi_at_call 120; refine (CallsIn.inRound l' (callsIn_wide.2 (wbyte_k w.heap.size w.heap.size _ _ wr hbr hlen hBr.size))).mono ?_; rintro e w2 ⟨rfl, ⟨h1, h2⟩, h3⟩)
                obtain ⟨r1, r2, r3, r4⟩ := HREST.out _ w2 (by refine (sx_at _ rfl _ _).trans ?_; first | exact hlet | (rw [← hz]; exact hlet)) h1 h2 h3
                clear h1 h2 h3 hbr hBr hKr hFr HREST hlet eand hz z64 z64'
                gi_wp2
                go_roundw
                case rel => exact ⟨2 + 1, 2 + 1, by omega, by omega, by first | rfl | go_num, r1, r2, r3, r4⟩
                case measure => simp [intOf]
              · obtain rfl : iv = 3 := by omega
                obtain rfl : k = 3 := hkk
                clear hiv hnk hlt hk4
                have e5 : decide ((3 : Int) < 4) = true := by decide
                have e6 : decide ((n : Int) < 3) = false := decide_eq_false (by have := HN.out; omega)
                obtain ⟨z, hz⟩ : ∃ z : Nat, z = q % 64 := ⟨_, rfl⟩
                have z64 : z < 64 := by omega
                have z64' : (z : Int) < 64 := by omega
                have eand : bits BinOp.and IntKind.u32 ((q : Int)) 63 = (z : Int) := by
                  rw [show ((q : Int) : Int) = ((q : Nat) : Int) from by omega, and_63 _ (by omega), hz]
                have hlet : SX.getD z 0 = four m 3 := by
                  rw [hf, hz, HQ1.out]
                  unfold let4
                  rw [Nat.sub_self, Nat.pow_zero, Nat.div_one]
                gi_wp2_with (refine ⟨trivial, ?_⟩; gi_at_call 120; refine (CallsIn.inRound l' (callsIn_wide.2 (wbyte_k w.heap.size w.heap.size _ _ wr hbr hlen hBr.size))).mono ?_; rintro e w2 ⟨rfl, ⟨h1, h2⟩, h3⟩)
                obtain ⟨r1, r2, r3, r4⟩ := HREST.out _ w2 (by refine (sx_at _ rfl _ _).trans ?_; first | exact hlet | (rw [← hz]; exact hlet)) h1 h2 h3
                clear h1 h2 h3 hbr hBr hKr hFr HREST hlet eand hz z64 z64'
                gi_wp2
                go_roundw
                case rel => exact ⟨3 + 1, 3 + 1, by omega, by omega, by first | rfl | go_num, r1, r2, r3, r4⟩
                case measure => simp [intOf]
          · have hk44 : k = 4 := by omega
            subst hk44
            have e5 : decide (iv < 4) = false := decide_eq_false (by omega)
            have he4 : (enc m).take 4 = enc m := rfl
            rw [he4] at hbr
            clear he4 hlen
            gi_wp2
            exact ⟨hFr, ⟨hKr.1.trans hK.1.symm, hKr.2.trans hK.2.symm⟩, by rw [HAPP.out]; exact hbr, hBr, hKr⟩
  case done =>
    rintro D ys W hD hys ⟨hb, hB, hK⟩ hdef
    have hall := pieces_all l ys hys
    rw [hall] at hb
    clear hall hys hv hc1 hc2 hb0 hB0
    gi_wp2_with (refine ⟨trivial, ?_⟩; gi_at_call 88; refine (callsIn_wide.2 (Tryd.Builder_String_any_k w.heap.size w.heap.size (b64 l) W (Lib.IsBuilderF.of hb) hB.size)).mono ?_; rintro e W2 ⟨rfl, _, hB2, hO2⟩)
    have hdef2 := hO2 D _ hdef (by intro e; injection e; omega) (by intro c fz e; cases e)
    refine ⟨by simp, .inl ⟨_, _, rfl, run_takeDeferred hdef2, ?_⟩⟩
    exact ⟨_, results_tmp rfl _ _ _, rfl, (hB.trans hB2).trans (belowK_b (w := w) (Nat.le_refl _) W2 D _ _ (by omega) hdef2 rfl rfl)⟩
  case stop =>
    rintro D c pre W _ _ h _
    exact h.elim
set_option maxRecDepth 100000 in
set_option maxHeartbeats 4000000 in
theorem base64_none (w : World) :
    Calls Tryd.prog 75 #[.slice none 0 0] w fun e w' => e = .returned (.string (str (b64 []))) ∧ Below w.heap.size w w' := by
  refine (callsIn_wide (n := 3)).1 ?_
  refine callsIn_of_wp_marks Tryd.func75 rfl trivial ?_ rfl
  simp only [Tryd.ntmps75, List.size_toArray, List.length_cons, List.length_nil, Nat.reduceAdd, Nat.reduceSub, Array.replicate_succ, Array.replicate_zero, List.push_toArray, List.append_toArray, List.nil_append, List.cons_append]
  gi_wp2_with (refine ⟨trivial, ?_⟩; gi_at_call 119; refine (chunk_in Fence.wide 2 trivial rfl _ _ _ _).mono ?_; rintro e w1 ⟨rfl, rfl⟩)
  obtain ⟨W0, hW0⟩ : ∃ W0, (((w.alloc (.cells #[.pointer none, .slice none 0 0] 128)).alloc (.cells #[.slice none 0 0] 24)).alloc (.cells #[.int .i64 3] 3)) = W0 := ⟨_, rfl⟩
  have hb0 : Below w.heap.size w W0 := by rw [← hW0]; exact (((Below.refl _ w).alloc (Nat.le_refl _) _).alloc (by simp) _).alloc (by simp; omega) _
  have hsz0 : W0.heap.size = w.heap.size + 3 := by rw [← hW0]; simp
  have hB0 : Lib.IsBuilder 128 5 w.heap.size w.heap.size [] W0 := by
    have hA : Below (w.heap.size + 1) (w.alloc (.cells #[.pointer none, .slice none 0 0] 128)) W0 := by rw [← hW0]; exact ((Below.refl _ _).alloc (by simp) _).alloc (by simp) _
    have hk := hA.block w.heap.size (by omega)
    have hf := Lib.fresh_isBuilder 128 5 w
    rcases hf with hf | hf
    · obtain ⟨h1, v, h2, h3, h4⟩ := hf
      refine .inl ⟨h1, v, hk.trans h2, ?_, h4⟩
      rw [← hW0]; exact (h3.alloc _).alloc _
    · obtain ⟨h1, v, h2, h3, h4⟩ := hf
      refine .inr ⟨h1, v, hk.trans h2, ?_, h4⟩
      rw [← hW0]; exact (h3.alloc _).alloc _
  have hc1 : W0.cell? ⟨w.heap.size + 1, 0, none⟩ = some (.slice none 0 0) := by
    rw [← hW0]
    have h := (Blk.new (w.alloc (.cells #[.pointer none, .slice none 0 0] 128)) [.slice none 0 0] 24).below ((Below.refl _ _).alloc (Nat.le_refl _) (.cells #[.int .i64 3] 3))
    have := h.cell 0
    simpa using this
  have hc2 : W0.cell? ⟨w.heap.size + 1 + 1, 0, none⟩ = some (.int .i64 3) := by
    rw [← hW0]
    have h := Blk.new ((w.alloc (.cells #[.pointer none, .slice none 0 0] 128)).alloc (.cells #[.slice none 0 0] 24)) [.int .i64 3] 3
    have := h.cell 0
    simpa using this
  have hk1 : W0.heap[w.heap.size + 1]? = some (.cells #[.slice none 0 0] 24 (0, 0)) := by
    rw [← hW0]
    have h := Lib.alloc_old ((w.alloc (.cells #[.pointer none, .slice none 0 0] 128)).alloc (.cells #[.slice none 0 0] 24)) (.cells #[.int .i64 3] 3) (w.heap.size + 1) (by simp)
    rw [h]
    have h2 := World.alloc_heap_new (w.alloc (.cells #[.pointer none, .slice none 0 0] 128)) (.cells #[.slice none 0 0] 24)
    rwa [World.size_alloc] at h2
  have hk2 : W0.heap[w.heap.size + 1 + 1]? = some (.cells #[.int .i64 3] 3 (0, 0)) := by
    rw [← hW0]
    have h2 := World.alloc_heap_new ((w.alloc (.cells #[.pointer none, .slice none 0 0] 128)).alloc (.cells #[.slice none 0 0] 24)) (.cells #[.int .i64 3] 3)
    rwa [World.size_alloc, World.size_alloc] at h2
  rw [hW0]
  clear hW0
  refine wpIn_rangeFunc_ownG rfl (by decide) (gf := 152) (lb := #[.pointer (some ⟨w.heap.size + 1, 0, none⟩), .pointer (some ⟨w.heap.size + 1 + 1, 0, none⟩)]) rfl trivial (enters_of Tryd.func152 (by kernel_rfl) rfl)
    (chunk_stops_nil Fence.wide 2 trivial rfl (w.heap.size + 1) (w.heap.size + 1 + 1) ⟨0, 0, none⟩ W0 (by omega) (by omega) hc1 hc2)
    (fun h k => h.trans k) ?hKb (Below.refl _ _) (fun _ => rfl)
    (fun pre W => Lib.IsBuilder 128 5 w.heap.size w.heap.size (bcs []) W ∧ Below w.heap.size w W ∧ Keep2 (w.heap.size + 1) (w.heap.size + 1 + 1) W0 W)
    (fun _ _ _ => False) ?hI (fun _ _ _ _ _ hs _ _ => hs) ⟨hB0, hb0, Keep2.refl _ _ _⟩
    (fun x => { tmps := #[.slice none 0 0, undef, .string ⟨#[]⟩, .pointer (some ⟨w.heap.size, 0, none⟩), piece ⟨0, 0, none⟩ 0 x.1, undef, undef, undef, .slice none 0 0, .func (.func 152) #[] #[.pointer (some ⟨w.heap.size + 1, 0, none⟩), .pointer (some ⟨w.heap.size + 1 + 1, 0, none⟩)], piece ⟨0, 0, none⟩ 0 x.1, undef, undef, undef, undef, undef, undef, undef, undef, undef, undef, undef, undef, undef, undef, undef, undef, undef, undef, undef, undef, undef, undef, undef, undef, undef, undef, undef, undef, undef, undef, undef, undef, undef, undef, undef], defers := [] }) ?assign ?body ?done ?stop
  case hKb =>
    intro W k o o' hk ho hn hw
    have h := belowK_b (w := W0) (n₀ := W0.heap.size) (Nat.le_refl _) W k o o' hk ho hn hw
    exact ⟨h.block _ (by omega), h.block _ (by omega)⟩
  case hI =>
    intro s W W' row hs hg hr
    obtain ⟨hb, hB, hK⟩ := hs
    have hlt : w.heap.size < W.heap.size := by rcases hb with hb | hb <;> exact hb.lt
    have hblk : W'.heap[w.heap.size]? = W.heap[w.heap.size]? := hg.block _ hlt (by
      intro e
      have := (hr _ e.symm).1
      omega)
    have hne : ∀ v : Value, ∀ xs : List Value, W.ownsRow w.heap.size 5 1 v xs.length xs → (v.ownBlock = none ∨ v.ownBlock ≠ row) := by
      intro v xs ho
      rcases ho.2 with ⟨rfl, _⟩ | ⟨g, cp, cu, rfl, _, hgb, _⟩
      · exact .inl rfl
      · refine .inr (fun e => ?_)
        obtain ⟨_, o, ho1, ho2⟩ := hr _ e.symm
        rw [hgb] at ho1
        injection ho1 with ho1
        subst ho1
        cases ho2
    refine ⟨?_, hB.grown hg hB.size (fun k e => by have := (hr k e).1; omega), ⟨(hg.block _ (by have := hB.size; have := (Array.getElem?_eq_some_iff.1 (hK.1.trans hk1)).1; omega) (fun e => by have := (hr _ e.symm).1; omega)).trans hK.1, (hg.block _ (by have := (Array.getElem?_eq_some_iff.1 (hK.2.trans hk2)).1; omega) (fun e => by have := (hr _ e.symm).1; omega)).trans hK.2⟩⟩
    rcases hb with ⟨h1, v, h2, h3, h4⟩ | ⟨h1, v, h2, h3, h4⟩
    · exact .inl ⟨h1, v, hblk.trans h2, h3.kept hg (hne v _ h3), h4⟩
    · exact .inr ⟨h1, v, hblk.trans h2, h3.kept hg (hne v _ h3), h4⟩
  case assign =>
    intro k x W K hK
    gi_wp2
    exact hK
  case body =>
    rintro l' pre ⟨j, hj⟩
    omega
  case done =>
    rintro D ys W hD hys ⟨hb, hB, hK⟩ hdef
    clear hys hc1 hc2 hb0 hB0
    gi_wp2_with (refine ⟨trivial, ?_⟩; gi_at_call 88; refine (callsIn_wide.2 (Tryd.Builder_String_any_k w.heap.size w.heap.size [] W (Lib.IsBuilderF.of hb) hB.size)).mono ?_; rintro e W2 ⟨rfl, _, hB2, hO2⟩)
    have hdef2 := hO2 D _ hdef (by intro e; injection e; omega) (by intro c fz e; cases e)
    refine ⟨by simp, .inl ⟨_, _, rfl, run_takeDeferred hdef2, ?_⟩⟩
    exact ⟨_, results_tmp rfl _ _ _, rfl, (hB.trans hB2).trans (belowK_b (w := w) (Nat.le_refl _) W2 D _ _ (by omega) hdef2 rfl rfl)⟩
  case stop =>
    rintro D c pre W _ _ h _
    exact h.elim
theorem base64_calls (v : Value) (l : List UInt8) (w : World) (hv : Rd w v l) (hl : l.length ≤ 1048576) :
    Calls Tryd.prog 75 #[v] w fun e w' => e = .returned (.string (str (b64 l))) ∧ Below w.heap.size w w' := by
  obtain ⟨a, cap, rfl, hvo⟩ := Row.open hv
  cases a with
  | some ad => exact base64_some ad cap l w hv hl
  | none =>
    obtain ⟨_, _, he, _, _, h0, _⟩ := hv
    injection he with e1 e2 e3
    subst e1
    obtain ⟨h1, h2⟩ := h0 rfl
    have hn : l = [] := by simpa [bcs] using h2
    subst hn
    rw [← e3] at h1
    subst h1
    exact base64_none w
end Go.Proofs.YtfefcfjedlidnaaDoor.Chk
