/- The engine at bytes of the call's own: made, copied into, written. -/
import Derived.Laws.CopyRow
import Derived.Lib.AppendStr
import Derived.Test.YtnecgoahdkfbeaaDoorEngD
import Derived.Test.YtnecgoahdkfbeaaDoorPut
namespace Go.Proofs.YtnecgoahdkfbeaaDoor.Eng
open Go Go.RowKit Go.Proofs.YtnecgoahdkfbeaaDoor.Cop Go.Proofs.YtnecgoahdkfbeaaDoor.Oct
set_option linter.unusedVariables false
set_option linter.unusedSimpArgs false
theorem bcs_set (xs : List UInt8) (i : Nat) (b : UInt8) (hi : i < xs.length) : (bcs xs).take (i * 1) ++ [u8c b] ++ (bcs xs).drop ((i + 1) * 1) = bcs (xs.set i b) := by
  rw [Nat.mul_one, Nat.mul_one, List.set_eq_take_append_cons_drop, if_pos hi]
  simp [bcs, List.map_take, List.map_drop]
section
variable {r : Option (Option Nat)} {ops : Array Oper} {rest : List Oper} {o : Oper} {Q : Exit → Act → World → Prop} {N : Nat} {u : Nat → Value} {dl : List Deferred} {w : World}
/-- make([]byte, n). -/
theorem mkB (hg : Region.wanted o (yielded ops (fr N u)) = true) {d : Nat} (hd : o.dst = some d) {l c : Operand} (ho : o.op = .makeSlice 48 l c) {n : Nat} (hl : opv N u l = .int .i64 (n : Int)) (hc : opv N u c = .int .i64 (n : Int)) (hn : n ≤ 140737488355328)
    (h : ∀ w', Own w.heap.size w' (.slice (some ⟨w.heap.size, 0, none⟩) n n) (List.replicate n 0) → Below w.heap.size w w' → w.heap.size < w'.heap.size → wpS r Tryd.prog ops Q rest (act N (upd u d (.slice (some ⟨w.heap.size, 0, none⟩) n n)) dl) w') : wpS r Tryd.prog ops Q (o :: rest) (act N u dl) w := by
  obtain ⟨i, hi, hz, hi1, hi2⟩ := info_parts info8
  have hrun := run_make (P := Tryd.prog) w 48 5 i (.int .u8 0) Tryd.underlying48 hi hz .i64 .i64 (n : Int) (n : Int) (by omega) (by omega) (by rw [hi2]; omega) (by omega)
  rw [Int.toNat_natCast, hi1, Nat.mul_one] at hrun
  have hcells : madeCells (Value.int .u8 0).cells n = (bcs (List.replicate n 0)).toArray := by
    have := toList_madeCells_one (.int .u8 0) n
    rw [show (Value.int .u8 0).cells = #[.int .u8 0] from rfl]
    apply Array.ext'
    rw [this]
    simp [bcs]
  rw [hcells] at hrun
  have hown : Own w.heap.size (w.alloc (.cells (bcs (List.replicate n 0)).toArray 5)) (.slice (some ⟨w.heap.size, 0, none⟩) n n) (List.replicate n 0) := by
    have := own_lit (w := w.alloc (.cells (bcs (List.replicate n 0)).toArray 5)) (base := w.heap.size) (Blk.new w (bcs (List.replicate n 0)) 5) (Nat.le_refl _) (by rw [List.length_replicate]; unfold maxLen; omega)
    rwa [List.length_replicate] at this
  refine sv hg hd (v := .slice (some ⟨w.heap.size, 0, none⟩) n n) (w' := w.alloc (.cells (bcs (List.replicate n 0)).toArray 5)) ?_ (h _ hown (below_al w _) (lt_al w _))
  unfold execOp
  simp [ho, hl, hc, hrun, Result.andThen]
/-- copy onto the beginning of bytes of the call's own. -/
theorem cpB (hg : Region.wanted o (yielded ops (fr N u)) = true) {d : Nat} (hd : o.dst = some d) {x y : Operand} (ho : o.op = .call { callee := .builtin .copy, args := #[x, y], argTypes := #[48, 48] }) {base : Nat} {v vy : Value} {xs bs : List UInt8} (hown : Own base w v xs) (hx : opv N u x = v) (hy : opv N u y = vy) (hr : Rd w vy bs) (h0 : 0 < bs.length) (hl : bs.length ≤ xs.length)
    (h : ∀ w', Own base w' v (bs ++ xs.drop bs.length) → w.grownBy w' v.ownBlock → wpS r Tryd.prog ops Q rest (act N (upd u d (.int .i64 (bs.length : Int))) dl) w') : wpS r Tryd.prog ops Q (o :: rest) (act N u dl) w := by
  obtain ⟨hxl, hown⟩ := hown
  rcases hown with ⟨rfl, hz⟩ | ⟨g, cap, cur, rfl, hb, hgc, hn, hc, hcs, hxs⟩
  · omega
  obtain ⟨ad, cp, rfl, hcl⟩ := Row.at hr (sz := 1) (by rw [bcs_length, Nat.mul_one]) (by decide) (i := 0) (by omega)
  have hsz : (Tryd.prog.info? 5).map (·.size) = some 1 := by
    obtain ⟨i, hi, hz, hi1, hi2⟩ := info_parts info8
    rw [hi]; exact congrArg some hi1
  rw [Nat.mul_one] at hcs hxs
  have hlen : (bcs bs).length = Nat.min bs.length xs.length := by rw [bcs_length]; exact (Nat.min_eq_left hl).symm
  have hcl' : ∀ j u, (bcs bs)[j]? = some u → w.cell? (ad.add j) = some u := by
    intro j u hu
    have := hcl j u hu
    simpa using this
  have hcp := run_copy_row (P := Tryd.prog) w 48 48 o.type 5 g 0 xs.length cap ad bs.length cp cur 5 (bcs bs) Tryd.underlying48 hsz hgc hlen hcl' (by rw [bcs_length]; omega) (bcs_one bs)
  rw [Nat.zero_add, List.take_zero, List.nil_append, bcs_length] at hcp
  have hcl2 : cur.toList.length = cap := by simpa using hcs
  have hown' : Own base (w.setRow g (bcs bs ++ cur.toList.drop bs.length).toArray) (.slice (some ⟨g, 0, none⟩) xs.length cap) (bs ++ xs.drop bs.length) := by
    have e : (bs ++ xs.drop bs.length).length = xs.length := by rw [List.length_append, List.length_drop]; omega
    unfold Own
    rw [e]
    refine ⟨by rw [bcs_length, e, Nat.mul_one], .inr ⟨g, cap, _, rfl, hb, setRow_heap w g cur _ 5 _ hgc, hn, hc, ?_, ?_⟩⟩
    · simp [bcs_length]; omega
    · rw [Nat.mul_one, List.toList_toArray, List.take_append, List.take_of_length_le (by rw [bcs_length]; exact hl), bcs_length, bcs_append]
      refine congrArg (bcs bs ++ ·) ?_
      rw [← List.drop_take, hxs]
      simp [bcs, List.map_drop]
  refine sv hg hd (v := .int .i64 (bs.length : Int)) (w' := w.setRow g (bcs bs ++ cur.toList.drop bs.length).toArray) ?_ (h _ hown' ⟨rfl, rfl, rfl, by simp, fun k _ hk => setRow_other w g k _ (fun e => hk (by rw [e]; rfl))⟩)
  unfold execOp
  simp [ho, resolve, invoke, builtin, hx, hy, hcp, Result.andThen, goInt]
/-- A byte of the call's own is written. -/
theorem stBy (hg : Region.wanted o (yielded ops (fr N u)) = true) (hd : o.dst = none) {x y : Operand} (ho : o.op = .store 5 x y) {base : Nat} {v : Value} {xs : List UInt8} (hown : Own base w v xs) {i : Nat} (hi : i < xs.length) (hx : opv N u x = .pointer (some ((sAddr v).add (i * 1)))) {b : UInt8} (hy : opv N u y = .int .u8 (b.toNat : Int))
    (h : ∀ w', Own base w' v (xs.set i b) → w.grownBy w' v.ownBlock → wpS r Tryd.prog ops Q rest (act N u dl) w') : wpS r Tryd.prog ops Q (o :: rest) (act N u dl) w := by
  obtain ⟨w', hrun, h1, h2⟩ := own_store (P := Tryd.prog) hown hi (by decide) (es := [u8c b]) rfl (fun u hu => by simp at hu; subst hu; rfl)
  rw [bcs_set xs i b hi] at h1
  refine sk hg hd (w' := w') ?_ (h w' (by unfold Own; rw [List.length_set]; exact h1) h2)
  have hsz : (Tryd.prog.info? 5).map (fun i => i.size) = some 1 := by
    obtain ⟨i, hi, hz, hi1, hi2⟩ := info_parts info8
    rw [hi]; exact congrArg some hi1
  unfold execOp
  simp [ho, hx, hy, Instr.storeAt, Instr.sureAddr, storeVar, Cop.run_sizeOf hsz, Result.andThen, Value.cells] at hrun ⊢
  simp [hrun]
/-- append of a text onto bytes of the call's own. -/
theorem apSt (hg : Region.wanted o (yielded ops (fr N u)) = true) {d : Nat} (hd : o.dst = some d) {s x : Operand} (ho : o.op = .call { callee := .builtin .append, args := #[s, x], argTypes := #[48, 9] })
    {base : Nat} {v : Value} {xs : List UInt8} (hs : opv N u s = v) (hown : Own base w v xs) {ys : List UInt8} (hx : opv N u x = .string (str ys)) (hl : xs.length + ys.length ≤ 140737488355328) (hbase : base ≤ w.heap.size)
    (h : ∀ v' w', Own base w' v' (xs ++ ys) → w.grownBy w' v.ownBlock → wpS r Tryd.prog ops Q rest (act N (upd u d v') dl) w') : wpS r Tryd.prog ops Q (o :: rest) (act N u dl) w := by
  obtain ⟨i, hi, hz, hi1, hi2⟩ := info_parts info8
  have hsz : (str ys).size = ys.length := by simp [str, ByteArray.size]
  obtain ⟨v', w', hr, g1, g2, _⟩ := Lib.run_append_own_string (P := Tryd.prog) (w := w) base 48 9 o.type 5 i Tryd.underlying48 Tryd.underlying9 hi hz hi1 hi2 v xs.length (bcs xs) hown (str ys) (by unfold maxLen; omega) (by omega) hbase
  have hc : Lib.strCells (str ys) = bcs ys := by simp [Lib.strCells, str, bcs]
  rw [hsz, hc] at g1
  refine sv hg hd (v := v') (w' := w') ?_ (h v' w' (by unfold Own; rw [List.length_append, bcs_append]; exact g1) g2)
  unfold execOp
  simp only [ho, resolve, invoke, builtin, Sem.run_bind, Sem.run_pure, Result.andThen_ok, List.map_toArray, List.map_cons, List.map_nil, hs, hx, hr]
end
section
variable {P : Program} {w : World} {ρ : Operand → Value} {o : Oper}
/-- A pointer is not nil. -/
theorem x_eqPN {t t2 e : TypeId} {x y : Operand} (ho : o.op = .binOp .eql t x y t2) (hu : P.underlying t = some (.pointer e)) {ad : Addr} (hx : ρ x = .pointer (some ad)) (hy : ρ y = .pointer none) : (execOp ρ o).run P w = .ok (.value (.bool false)) w := by
  have h : (Op.equalIn (9999 + 1) t (.pointer (some ad)) (.pointer none)).run P w = .ok false w := by
    rw [Op.equalIn]; simp [run_underlying hu, Result.andThen]
  unfold execOp; rw [ho]
  simp [hx, hy, eqGuard, binOp, Op.equal, Result.andThen]
  rw [show Op.maxDepth = 9999 + 1 from rfl, h]
theorem x_nePN {t t2 e : TypeId} {x y : Operand} (ho : o.op = .binOp .neq t x y t2) (hu : P.underlying t = some (.pointer e)) {ad : Addr} (hx : ρ x = .pointer (some ad)) (hy : ρ y = .pointer none) : (execOp ρ o).run P w = .ok (.value (.bool true)) w := by
  have h : (Op.equalIn (9999 + 1) t (.pointer (some ad)) (.pointer none)).run P w = .ok false w := by
    rw [Op.equalIn]; simp [run_underlying hu, Result.andThen]
  unfold execOp; rw [ho]
  simp [hx, hy, eqGuard, binOp, Op.equal, Result.andThen]
  rw [show Op.maxDepth = 9999 + 1 from rfl, h]
  rfl
end
section
variable {P : Program} {w : World}
/-- Where the row behind an append lies: where it lay, or in a new block. -/
theorem append_where {t ty e : TypeId} {i : TypeInfo} {z : Value} {size bytes : Nat} (ht : P.underlying t = some (.slice e)) (hi : P.info? e = some i) (hz : i.zero = some z) (hi1 : i.size = size) (hi2 : i.bytes = bytes) (hsz : 0 < size) {base : Nat} {v : Value} {n : Nat} {xs : List Value} (hown : w.ownsRow base e size v n xs)
    {ad : Addr} {m c : Nat} {news : List Value} (hl : news.length = m * size) (hnews : ∀ j u, news[j]? = some u → w.cell? (ad.add j) = some u) (h1 : ∀ u ∈ news, u.oneCell' = true) (h63 : n + m ≤ maxLen) (hbytes : (n + m) * bytes ≤ 140737488355328)
    {v' : Value} {w' : World} (hr : (Builtin.append_ #[t, t] ty #[v, .slice (some ad) m c]).run P w = .ok v' w') (hnil : v' = .slice none 0 0 ↔ v = .slice none 0 0 ∧ m = 0) : ∀ g, v'.ownBlock = some g → v.ownBlock = some g ∨ w.heap.size ≤ g := by
  subst hi1 hi2
  intro g hg
  have hsmall : n + m ≤ 9223372036854775807 := by simp only [maxLen] at h63; omega
  have hcells := @World.ownsRow.cells
  obtain ⟨hxl, hown'⟩ := id hown
  rcases hown' with ⟨rfl, hn⟩ | ⟨gb, cap, cur, rfl, hb, hgc, hnc, hc, hcs, hxs⟩
  · subst hn
    by_cases hm : m = 0
    · have := hnil.2 ⟨rfl, hm⟩
      rw [this] at hg; cases hg
    · have hb2 : m * i.bytes ≤ 281474976710656 := by rw [Nat.zero_add] at hbytes; omega
      rw [run_append_nil (P := P) w t ty e i z ht hi hz ad m c news hl hnews (by omega) (by omega) hb2] at hr
      injection hr with e1 e2
      rw [← e1] at hg
      exact .inr (Nat.le_of_eq (Option.some.inj hg))
  · by_cases hroom : n + m ≤ cap
    · have hfit : n * i.size + news.length ≤ cur.size := by rw [hl, hcs, ← Nat.add_mul]; exact Nat.mul_le_mul_right _ hroom
      rw [run_append_room (P := P) w t ty e i ht hi gb n cap cur hgc ad m c news hl hnews h1 hroom hfit] at hr
      injection hr with e1 e2
      rw [← e1] at hg
      exact .inl hg
    · have hold : ∀ j u, xs[j]? = some u → w.cell? ((⟨gb, 0, none⟩ : Addr).add j) = some u := World.ownsRow.cells hown rfl
      rw [run_append_grow (P := P) w t ty e i z ht hi hz ⟨gb, 0, none⟩ n cap xs hxl hold ad m c news hl hnews (by omega) (by omega) (growslice_fits (by omega) hbytes)] at hr
      injection hr with e1 e2
      rw [← e1] at hg
      exact .inr (Nat.le_of_eq (Option.some.inj hg))
theorem apart_step {v v' p : Value} {n : Nat} (hw : ∀ g, v'.ownBlock = some g → v.ownBlock = some g ∨ n ≤ g) (ha : ∀ g, v.ownBlock = some g → p.ownBlock ≠ some g) (hp : ∀ g, p.ownBlock = some g → g < n) : ∀ g, v'.ownBlock = some g → p.ownBlock ≠ some g := fun g e q => (hw g e).elim (fun h => ha g h q) (fun h => absurd (hp g q) (Nat.not_lt_of_le h))
theorem apart_symm {v p : Value} (ha : ∀ g, v.ownBlock = some g → p.ownBlock ≠ some g) : ∀ g, p.ownBlock = some g → v.ownBlock ≠ some g := fun g e q => ha g q e
theorem apart_or {v p : Value} (ha : ∀ g, v.ownBlock = some g → p.ownBlock ≠ some g) : v.ownBlock = none ∨ v.ownBlock ≠ p.ownBlock := by
  cases e : v.ownBlock with
  | none => exact .inl rfl
  | some g => exact .inr fun q => ha g e q.symm
end
section
variable {r : Option (Option Nat)} {ops : Array Oper} {rest : List Oper} {o : Oper} {Q : Exit → Act → World → Prop} {N : Nat} {u : Nat → Value} {dl : List Deferred} {w : World}
/-- append onto bytes of the call's own; where they lie then. -/
theorem apB2 (hg : Region.wanted o (yielded ops (fr N u)) = true) {d : Nat} (hd : o.dst = some d) {s x : Operand} (ho : o.op = .call { callee := .builtin .append, args := #[s, x], argTypes := #[48, 48] })
    {base : Nat} {v : Value} {xs : List UInt8} (hs : opv N u s = v) (hown : Own base w v xs) {y : Value} {ys : List UInt8} (hx : opv N u x = y) (hr : Rd w y ys) (hl : xs.length + ys.length ≤ 140737488355328) (hbase : base ≤ w.heap.size)
    (h : ∀ v' w', Own base w' v' (xs ++ ys) → w.grownBy w' v.ownBlock → (∀ g, v'.ownBlock = some g → v.ownBlock = some g ∨ w.heap.size ≤ g) → wpS r Tryd.prog ops Q rest (act N (upd u d v') dl) w') : wpS r Tryd.prog ops Q (o :: rest) (act N u dl) w := by
  obtain ⟨i, hi, hz, hi1, hi2⟩ := info_parts info8
  obtain ⟨ao, cap, rfl, q1, q2, q3, q4⟩ := hr
  have fin : ∀ v' w', w'.ownsRow base 5 1 v' (xs.length + ys.length) (bcs xs ++ bcs ys) → Own base w' v' (xs ++ ys) := fun v' w' h1 => by unfold Own; rw [List.length_append, bcs_append]; exact h1
  cases ao with
  | some ad =>
    obtain ⟨v', w', hr, g1, g2, g3⟩ := run_append_own (P := Tryd.prog) w base 48 o.type 5 i (.int .u8 0) 1 1 Tryd.underlying48 hi hz hi1 hi2 rfl (by decide) v xs.length (bcs xs) hown ad ys.length cap (bcs ys) (by simp [bcs_length]) (q4 ad rfl) (bcs_one ys) (by unfold maxLen; omega) (by omega) hbase
    refine sv hg hd (v := v') (w' := w') ?_ (h v' w' (fin v' w' g1) g2 (append_where Tryd.underlying48 hi hz hi1 hi2 (by decide) hown (by simp [bcs_length]) (q4 ad rfl) (bcs_one ys) (by unfold maxLen; omega) (by omega) hr g3))
    unfold execOp
    simp only [ho, resolve, invoke, builtin, Sem.run_bind, Sem.run_pure, Result.andThen_ok, List.map_toArray, List.map_cons, List.map_nil, hs, hx, hr]
  | none =>
    obtain ⟨e1, e2⟩ := q3 rfl
    have hm : ys = [] := List.map_eq_nil_iff.1 e2
    subst hm e1
    have hrun := run_append_owned_none (P := Tryd.prog) w base 48 o.type 5 i 1 Tryd.underlying48 hi v xs.length (bcs xs) hown
    refine sv hg hd (v := v) (w' := w) ?_ (h v w (by rw [List.append_nil]; exact hown) (World.grownBy.refl _ _) (fun g e => .inl e))
    unfold execOp
    simp only [ho, resolve, invoke, builtin, Sem.run_bind, Sem.run_pure, Result.andThen_ok, List.map_toArray, List.map_cons, List.map_nil, hs, hx]
    simp [hrun]
end
theorem at_part {pre post : List Value} {v : Value} {off : Nat} (ho : pre.length = off) : (pre ++ v :: post)[off]? = some v := by subst ho; simp
theorem blk_one {w : World} {g off : Nat} {t : TypeId} {pre post : List Value} {v : Value} (h : Blk w g t (pre ++ v :: post)) (ho : pre.length = off) : w.cell? ⟨g, off, none⟩ = some v := (h.cell off).trans (at_part ho)
theorem xor_u8 (a b : UInt8) (P : Program) (w : World) : (Op.intBits .xor .u8 (a.toNat : Int) (b.toNat : Int)).run P w = .ok (.int .u8 ((a ^^^ b).toNat : Int)) w := by
  have h : (BitVec.ofInt 8 (a.toNat : Int) ^^^ BitVec.ofInt 8 (b.toNat : Int)).toNat = (a ^^^ b).toNat := by
    rw [BitVec.toNat_xor, BitVec.ofInt_natCast, BitVec.ofInt_natCast, BitVec.toNat_ofNat, BitVec.toNat_ofNat, Nat.mod_eq_of_lt a.toNat_lt, Nat.mod_eq_of_lt b.toNat_lt]
    exact (UInt8.toNat_xor a b).symm
  show Result.ok (Value.int .u8 (IntKind.u8.wrap ((BitVec.ofInt 8 (a.toNat : Int) ^^^ BitVec.ofInt 8 (b.toNat : Int)).toNat : Int))) w = _
  have := (a ^^^ b).toNat_lt
  rw [h, Eng.wu8 (r := ((a ^^^ b).toNat : Int)) (by omega)]
end Go.Proofs.YtnecgoahdkfbeaaDoor.Eng
