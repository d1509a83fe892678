/- General words and laws for walks over slices that read as lists of cells: program-independent lemmas; no condition of their own. -/
import Derived.WalkKit
import Derived.WalkLawsBesides
import Derived.WalkSpells
import Derived.Lib.AppendStr
import Derived.Lib.ConvBytes
import Derived.Laws.MakeOwn
import Derived.Laws.OwnMore
import Derived.Laws.BytesArg
import Derived.Below
import Derived.Stop.BytesEq
import Derived.Lib.Hide
import Derived.Maps.AppendAt
import Derived.Outline
import Derived.Deep.QuietTactic
import Derived.BigQuiet
import Derived.Deep.RegionWith
import Derived.Deep.LoopGhost
import Derived.Deep.DeepMust
import Derived.Deep.RegionLaw
import Derived.Deep.RegionHeld3
namespace Go.Proofs.YtnecgoahdkfbeaaDoor.Cop
open Go Go.RowKit
set_option linter.unusedSimpArgs false
set_option linter.unusedVariables false

theorem snoc_ind {α : Type} {p : List α → Prop} (h0 : p []) (h1 : ∀ l a, p l → p (l ++ [a])) : ∀ l, p l := by
  have key : ∀ l : List α, p l.reverse := by
    intro l
    induction l with
    | nil => exact h0
    | cons a l ih => rw [List.reverse_cons]; exact h1 _ _ ih
  intro l
  have := key l.reverse
  rwa [List.reverse_reverse] at this

theorem take_snoc {α : Type} (l : List α) (k : Nat) (h : k < l.length) : l.take (k + 1) = l.take k ++ [l[k]] := by
  rw [List.take_add_one, List.getElem?_eq_getElem h]; rfl

/-- A byte's cell. -/
abbrev u8c (b : UInt8) : Value := .int .u8 (b.toNat : Int)
/-- The cells of bytes. -/
def bcs (bs : List UInt8) : List Value := bs.map u8c
/-- A string of bytes. -/
def str (bs : List UInt8) : ByteArray := ⟨bs.toArray⟩
theorem bcs_length (bs : List UInt8) : (bcs bs).length = bs.length := by simp [bcs]
theorem bcs_append (a b : List UInt8) : bcs (a ++ b) = bcs a ++ bcs b := by simp [bcs]
theorem bcs_cut (bs : List UInt8) (q n : Nat) : ((bcs bs).drop q).take n = bcs ((bs.drop q).take n) := by simp [bcs]
theorem bcs_at (bs : List UInt8) (k : Nat) (h : k < bs.length) : (bcs bs)[k]? = some (u8c bs[k]) := by simp [bcs, h]
theorem bcs_get (bs : List UInt8) (k : Nat) : (bcs bs)[k]? = bs[k]?.map u8c := by simp [bcs]
theorem bcs_one (bs : List UInt8) : ∀ u ∈ bcs bs, u.oneCell' = true := by
  intro u hu
  obtain ⟨_, _, rfl⟩ := List.mem_map.1 hu
  rfl

/-- The slice value v has n elements; its cells (up to the length) are cs. -/
def Row (w : World) (v : Value) (n : Nat) (cs : List Value) : Prop :=
  ∃ a cap, v = .slice a n cap ∧ n ≤ cap ∧ cap ≤ maxLen ∧ (a = none → cap = 0 ∧ cs = []) ∧ ∀ ad, a = some ad → ∀ j u, cs[j]? = some u → w.cell? (ad.add j) = some u

/-- A slice of bytes. -/
def Bs (w : World) (v : Value) (bs : List UInt8) : Prop := Row w v bs.length (bcs bs) ∧ bs.length ≤ 140737488354304

theorem Row.le {w : World} {v : Value} {n : Nat} {cs : List Value} (h : Row w v n cs) : n ≤ maxLen := by
  obtain ⟨a, cap, rfl, h1, h2, _⟩ := h; omega
theorem Row.small {w : World} {v : Value} {n : Nat} {cs : List Value} (h : Row w v n cs) : n ≤ 9223372036854775807 := by
  have := h.le; simp only [maxLen] at this; omega

theorem Row.of_own {w : World} {base : Nat} {e : TypeId} {size : Nat} {v : Value} {n : Nat} {xs : List Value} (h : w.ownsRow base e size v n xs) : Row w v n xs := by
  have hl := h.1
  have hc := fun g hg => h.cells (g := g) hg
  rcases h.2 with ⟨rfl, rfl⟩ | ⟨g, cap, cur, rfl, h1, h2, h3, h4, h5, h6⟩
  · exact ⟨none, 0, rfl, Nat.le_refl _, Nat.zero_le _, fun _ => ⟨rfl, List.eq_nil_of_length_eq_zero (by simpa using hl)⟩, (fun _ h => by cases h)⟩
  · exact ⟨_, cap, rfl, h3, h4, (fun h => by cases h), (fun ad had j u hu => by cases had; exact hc g rfl j u hu)⟩

theorem Row.open {w : World} {v : Value} {n : Nat} {cs : List Value} (h : Row w v n cs) : ∃ a cap, v = .slice a n cap ∧ Row w (.slice a n cap) n cs := by
  have h' := h
  obtain ⟨a, cap, rfl, _⟩ := h'
  exact ⟨a, cap, rfl, h⟩

theorem Row.nil (w : World) : Row w (.slice none 0 0) 0 [] := ⟨none, 0, rfl, Nat.le_refl _, Nat.zero_le _, fun _ => ⟨rfl, rfl⟩, (fun _ h => by cases h)⟩

/-- Old cells stay. -/
theorem Row.keep {w w' : World} {v : Value} {n : Nat} {cs : List Value} (h : Row w v n cs) (hk : ∀ a u, w.cell? a = some u → w'.cell? a = some u) : Row w' v n cs := by
  obtain ⟨a, cap, h1, h2, h3, h4, h5⟩ := h
  exact ⟨a, cap, h1, h2, h3, h4, fun ad had j u hu => hk _ _ (h5 ad had j u hu)⟩

theorem cell_lt {w : World} {a : Addr} {u : Value} (h : w.cell? a = some u) : a.block < w.heap.size := World.block_lt_of_cell? w a h

theorem cell_below {w w' : World} (hb : Below w.heap.size w w') (a : Addr) (u : Value) (h : w.cell? a = some u) : w'.cell? a = some u :=
  (hb.cell (cell_lt h)).trans h

theorem Row.below {w w' : World} {v : Value} {n : Nat} {cs : List Value} (h : Row w v n cs) (hb : Below w.heap.size w w') : Row w' v n cs :=
  h.keep (cell_below hb)

theorem Bs.below {w w' : World} {v : Value} {bs : List UInt8} (h : Bs w v bs) (hb : Below w.heap.size w w') : Bs w' v bs := ⟨h.1.below hb, h.2⟩
theorem Bs.small {w : World} {v : Value} {bs : List UInt8} (h : Bs w v bs) : bs.length ≤ 140737488354304 := h.2
theorem Bs.alloc {w : World} {v : Value} {bs : List UInt8} (h : Bs w v bs) (o : Obj) : Bs (w.alloc o) v bs := h.below ((Below.refl _ _).alloc (Nat.le_refl _) o)
theorem Row.alloc {w : World} {v : Value} {n : Nat} {cs : List Value} (h : Row w v n cs) (o : Obj) : Row (w.alloc o) v n cs := h.below ((Below.refl _ _).alloc (Nat.le_refl _) o)
theorem Row.drewN {w : World} {v : Value} {n : Nat} {cs : List Value} (h : Row w v n cs) (k : Nat) : Row (w.drewN k) v n cs := h
theorem Bs.drewN {w : World} {v : Value} {bs : List UInt8} (h : Bs w v bs) (k : Nat) : Bs (w.drewN k) v bs := h

/-- What is owned stays owned, where old blocks stay as they were. -/
theorem own_below {w w' : World} {base : Nat} {e : TypeId} {size : Nat} {v : Value} {n : Nat} {xs : List Value} (h : w.ownsRow base e size v n xs) (hb : Below w.heap.size w w') : w'.ownsRow base e size v n xs := by
  refine ⟨h.1, ?_⟩
  rcases h.2 with hn | ⟨g, cap, cur, rfl, h1, h2, rest⟩
  · exact .inl hn
  · exact .inr ⟨g, cap, cur, rfl, h1, (hb.block g (Array.getElem?_eq_some_iff.1 h2).1).trans h2, rest⟩

theorem own_mono {w : World} {base base' : Nat} {e : TypeId} {size : Nat} {v : Value} {n : Nat} {xs : List Value} (h : w.ownsRow base e size v n xs) (hb : base' ≤ base) : w.ownsRow base' e size v n xs := by
  refine ⟨h.1, ?_⟩
  rcases h.2 with hn | ⟨g, cap, cur, h0, h1, rest⟩
  · exact .inl hn
  · exact .inr ⟨g, cap, cur, h0, by omega, rest⟩

theorem below_grown {w w' : World} {row : Option Nat} (hg : w.grownBy w' row) {B : Nat} (hB : B ≤ w.heap.size) (hr : ∀ k, row = some k → B ≤ k) : Below B w w' :=
  (Below.refl B w).grown hg hB hr

/-- A block that was just laid, as a row. -/
theorem Row.lit (w : World) (cs : List Value) (e : TypeId) (n : Nat) (hn : n ≤ maxLen) : Row (w.alloc (.cells cs.toArray e)) (.slice (some ⟨w.heap.size, 0, none⟩) n n) n cs := by
  refine ⟨_, _, rfl, Nat.le_refl _, hn, (fun h => by cases h), (fun ad had j u hu => ?_)⟩
  cases had
  have e1 : (⟨w.heap.size, 0, none⟩ : Addr).add j = ⟨w.heap.size, j, none⟩ := by unfold Addr.add; split <;> simp_all
  rw [e1, cell_of_row _ _ j cs.toArray e (0, 0) (heap_alloc_new w _)]
  simpa using hu
theorem Row.one (w : World) (u : Value) (e : TypeId) : Row (w.alloc (.cells #[u] e)) (.slice (some ⟨w.heap.size, 0, none⟩) 1 1) 1 [u] := Row.lit w [u] e 1 (by unfold maxLen; omega)
theorem one_one {u : Value} (h : u.oneCell' = true) : ∀ x ∈ [u], x.oneCell' = true := by intro x hx; simp at hx; subst hx; exact h

/-- A call's result: a new slice with these cells; what was there is as it was. -/
def RetRow (e : TypeId) (size : Nat) (n : Nat) (cs : List Value) (w : World) (x : Ending) (w' : World) : Prop :=
  ∃ v, x = .returned v ∧ w'.ownsRow w.heap.size e size v n cs ∧ Below w.heap.size w w'

/-! ### Laws at one operation -/
section
variable {P : Program} {ops : Array Oper} {rest : List Oper} {o : Oper} {a : Act} {Q : Exit → Act → World → Prop} {w : World}

theorem gate_dst {N : Tmp} (_hN : o.dst = some N) (h : wpList P ops Q (o :: rest) a w) : wpList P ops Q (o :: rest) a w := h
theorem gate_store {t : TypeId} {p : Tmp} {v : Operand} (_ho : o.op = .store t (.tmp p) v) (h : wpList P ops Q (o :: rest) a w) : wpList P ops Q (o :: rest) a w := h

/-- An operation whose run is known. -/
theorem wp_run (hg : Region.wanted o (yielded ops a.tmps) = true) {v : Value} {w' : World} (hr : (execOp a.eval o).run P w = .ok (.value v) w') (h : wpList P ops Q rest (a.put o.dst v) w') : wpList P ops Q (o :: rest) a w := by
  refine BigFrame.wpList_want hg fun K hK => ?_
  unfold Oper.wp
  rw [hr]
  exact hK _ _ h

/-- len of a slice. -/
theorem wp_len (hg : Region.wanted o (yielded ops a.tmps) = true) (x : Operand) (t e : TypeId) (ho : o.op = .call { callee := .builtin .len, args := #[x], argTypes := #[t] }) (ht : P.underlying t = some (.slice e))
    {v : Value} {n : Nat} {cs : List Value} (hx : a.eval x = v) (hr : Row w v n cs) (h : wpList P ops Q rest (a.put o.dst (.int .i64 (n : Int))) w) : wpList P ops Q (o :: rest) a w := by
  have hs := hr.small
  obtain ⟨ad, cap, rfl, _⟩ := hr
  refine wp_run hg ?_ h
  unfold execOp
  simp only [ho, resolve, invoke, builtin, Sem.run_bind, Sem.run_pure, Result.andThen_ok, List.map_toArray, List.map_cons, List.map_nil, hx]
  simp [Builtin.len_, run_underlying ht, goInt]

theorem eG (hg : Region.wanted o (yielded ops a.tmps) = true) {v : Value} {w' : World} (op : Op) (ho : o.op = op) {m : Sem Value} (hm : ∀ o' : Oper, o'.op = op → execOp a.eval o' = (do pure (.value (← m)))) (hr : m.run P w = .ok v w')
    (h : wpList P ops Q rest (a.put o.dst v) w') : wpList P ops Q (o :: rest) a w := by
  refine wp_run hg (v := v) ?_ h
  rw [hm o ho]
  simp [Sem.run_bind, hr, Sem.run_pure, Result.andThen]

theorem run_sizeOf {e : TypeId} {n : Nat} (h : (P.info? e).map (fun i => i.size) = some n) (w : World) : (sizeOf e).run P w = .ok n w := by
  obtain ⟨i, hi, rfl⟩ := Option.map_eq_some_iff.1 h
  simp [sizeOf, typeInfo, hi]

theorem run_indexAt_row {t e : TypeId} (ht : P.underlying t = some (.slice e)) {sz : Nat} (hs : (P.info? e).map (fun i => i.size) = some sz) {ad : Addr} {n cap : Nat} {k : IntKind} {i : Int} (h0 : 0 ≤ i) (h1 : i < (n : Int)) (w : World) :
    (Instr.indexAt t (.slice (some ad) n cap) (.int k i)).run P w = .ok (.pointer (some (ad.add (i.toNat * sz)))) w := by
  simp [Instr.indexAt, run_underlying ht, asIntOf, h0, h1, run_sizeOf hs]

/-- The address of a row's element, and its cells. -/
theorem Row.at {v : Value} {n sz : Nat} {cs : List Value} (hr : Row w v n cs) (hl : cs.length = n * sz) (hz : 0 < sz) {i : Nat} (hi : i < n) :
    ∃ ad cap, v = .slice (some ad) n cap ∧ ∀ j u, cs[j]? = some u → w.cell? (ad.add j) = some u := by
  obtain ⟨ao, cap, rfl, h1, h2, h3, h4⟩ := hr
  cases ao with
  | none =>
    obtain ⟨_, rfl⟩ := h3 rfl
    have : 0 < n * sz := Nat.mul_pos (by omega) hz
    simp at hl
    omega
  | some ad => exact ⟨ad, cap, rfl, h4 ad rfl⟩

/-- An element of one cell is read: its address, then the load. -/
theorem wp_index_load {o2 : Oper} {rest2 : List Oper} (hg : Region.wanted o (yielded ops a.tmps) = true) (hg2 : ∀ p, Region.wanted o2 (yielded ops (a.put o.dst p).tmps) = true) (t e : TypeId) (x i : Operand) (d : Tmp) (ho : o.op = .indexAddr t x i) (hd : o.dst = some d) (ho2 : o2.op = .load e (.tmp d))
    (ht : P.underlying t = some (.slice e)) (hs : (P.info? e).map (fun i => i.size) = some 1) (hagg : ∀ w, (isAgg e).run P w = .ok false w)
    {v : Value} {n : Nat} {cs : List Value} {k : IntKind} {iv : Int} (hx : a.eval x = v) (hi : a.eval i = .int k iv) (hr : Row w v n cs) (hl : cs.length = n) (hd2 : ∀ p, (a.put (some d) p).eval (.tmp d) = p)
    {u : Value} (h0 : 0 ≤ iv) (h1 : iv < (n : Int)) (hu : cs[iv.toNat]? = some u)
    (h : ∀ p, wpList P ops Q rest2 ((a.put (some d) p).put o2.dst u) w) : wpList P ops Q (o :: o2 :: rest2) a w := by
  obtain ⟨ad, cap, rfl, hc⟩ := hr.at (sz := 1) (by omega) (by omega) (i := iv.toNat) (by omega)
  have hrun := run_indexAt_row (P := P) ht hs (ad := ad) (n := n) (cap := cap) (k := k) h0 h1 w
  simp only [Nat.mul_one] at hrun
  refine wp_run hg (v := .pointer (some (ad.add iv.toNat))) (w' := w) ?_ ?_
  · unfold execOp; simp [ho, hx, hi, hrun, Result.andThen]
  · have hg2' := hg2
    rw [hd] at hg2' ⊢
    have he := hd2 (.pointer (some (ad.add iv.toNat)))
    refine wp_run (hg2' _) (v := u) (w' := w) ?_ (h _)
    unfold execOp
    simp [ho2, he, Instr.loadAt, Instr.sureAddr, loadVar, hagg w, hc _ _ hu, Result.andThen]

/-- A slice is cut. -/
theorem wp_slice (hg : Region.wanted o (yielded ops a.tmps) = true) (t e : TypeId) (x : Operand) (lo hi : Option Operand) (ho : o.op = .slice t x lo hi none) (ht : P.underlying t = some (.slice e)) {sz : Nat} (hs : (P.info? e).map (fun i => i.size) = some sz)
    {v : Value} {n : Nat} {cs : List Value} (hx : a.eval x = v) (hr : Row w v n cs) (hl : cs.length = n * sz) (l h' : Nat)
    (hlo : lo.map a.eval = none ∧ l = 0 ∨ ∃ k, lo.map a.eval = some (.int k (l : Int))) (hhi : hi.map a.eval = none ∧ h' = n ∨ ∃ k, hi.map a.eval = some (.int k (h' : Int)))
    (h1 : l ≤ h') (h2 : h' ≤ n)
    (h : ∀ v', Row w v' (h' - l) ((cs.drop (l * sz)).take ((h' - l) * sz)) → wpList P ops Q rest (a.put o.dst v') w) : wpList P ops Q (o :: rest) a w := by
  obtain ⟨ao, cap, rfl, q1, q2, q3, q4⟩ := hr
  have hrun : (Instr.sliceAt t (.slice ao n cap) (lo.map a.eval) (hi.map a.eval) none).run P w = .ok (.slice (if cap = l then ao else ao.map (·.add (l * sz))) (h' - l) (cap - l)) w := by
    have hsz := run_sizeOf hs w
    have e1 : (l : Int) ≤ (h' : Int) := by omega
    have e2 : (h' : Int) ≤ (cap : Int) := by omega
    have e3 : h' ≤ cap := by omega
    have e4 : ¬ cap < h' := by omega
    have e5 : ¬ h' < l := by omega
    rcases hlo with ⟨hlo, rfl⟩ | ⟨k, hlo⟩ <;> rcases hhi with ⟨hhi, rfl⟩ | ⟨k', hhi⟩ <;> rw [hlo, hhi] <;>
      simp [Instr.sliceAt, run_underlying ht, Instr.slice, Instr.sliceBounds, Instr.sliceBound, asIntOf, hsz, e1, e2, e3, h1, e4, e5]
  refine wp_run hg (v := .slice (if cap = l then ao else ao.map (·.add (l * sz))) (h' - l) (cap - l)) (w' := w) ?_ (h _ ?_)
  · unfold execOp
    simp [ho, hx, hrun, Result.andThen]
  · refine ⟨_, _, rfl, by omega, by omega, ?_, ?_⟩
    · intro hnone
      split at hnone
      · subst hnone
        obtain ⟨rfl, rfl⟩ := q3 rfl
        exact ⟨by omega, by simp⟩
      · cases ao with
        | none => obtain ⟨rfl, rfl⟩ := q3 rfl; exact ⟨by omega, by simp⟩
        | some _ => simp at hnone
    · intro ad had j u hu
      rw [List.getElem?_take] at hu
      split at hu
      · rename_i hj
        rw [List.getElem?_drop] at hu
        have hne : ¬ cap = l := by
          intro e
          have : h' - l = 0 := by omega
          rw [this] at hj
          omega
        rw [if_neg hne] at had
        cases ao with
        | none => simp at had
        | some ad0 =>
          simp at had
          subst had
          have := q4 ad0 rfl _ _ hu
          rwa [show (ad0.add (l * sz)).add j = ad0.add (l * sz + j) from by unfold Addr.add; by_cases ha : l * sz = 0 <;> by_cases hb : j = 0 <;> simp [ha, hb, Nat.add_assoc]]
      · cases hu

/-- append of a row onto a slice of the call's own. -/
theorem wp_append (hg : Region.wanted o (yielded ops a.tmps) = true) (s x : Operand) (t e : TypeId) (ho : o.op = .call { callee := .builtin .append, args := #[s, x], argTypes := #[t, t] })
    {size bytes : Nat} {z : Value} (ht : P.underlying t = some (.slice e)) (hinfo : (P.info? e).map (fun i => (i.zero, i.size, i.bytes)) = some (some z, size, bytes)) (hzs : z.cells.size = size) (hsz : 0 < size)
    {base : Nat} {v : Value} {n : Nat} {xs : List Value} (hs : a.eval s = v) (hown : w.ownsRow base e size v n xs)
    {y : Value} {m : Nat} {cs : List Value} (hx : a.eval x = y) (hr : Row w y m cs) (hl : cs.length = m * size) (h1 : ∀ u ∈ cs, u.oneCell' = true)
    (h63 : n + m ≤ maxLen) (hbytes : (n + m) * bytes ≤ 140737488355328) (hbase : base ≤ w.heap.size)
    (h : ∀ v' w', w'.ownsRow base e size v' (n + m) (xs ++ cs) → w.grownBy w' v.ownBlock → wpList P ops Q rest (a.put o.dst v') w') : wpList P ops Q (o :: rest) a w := by
  obtain ⟨i, hi, hz, hi1, hi2⟩ := info_parts hinfo
  obtain ⟨ao, cap, rfl, q1, q2, q3, q4⟩ := hr
  cases ao with
  | some ad => exact BigFrame.wpList_want hg fun K hK => wp_append_own w s x t ho base e i z size bytes ht hi hz hi1 hi2 hzs hsz v n xs hs hown ad m cap cs hx hl (q4 ad rfl) h1 h63 hbytes hbase (fun v' w' g1 g2 _ => hK _ _ (h v' w' g1 g2))
  | none =>
    obtain ⟨rfl, rfl⟩ := q3 rfl
    have hm : m = 0 := by omega
    subst hm
    have hrun := run_append_owned_none (P := P) w base t o.type e i size ht hi v n xs hown
    refine wp_run hg (v := v) (w' := w) ?_ (h v w (by simpa using hown) (World.grownBy.refl _ _))
    unfold execOp
    simp [ho, resolve, invoke, builtin, hs, hx, hrun, Result.andThen]

/-- The same, as one step of a region that draws its order. -/
theorem step_append {K : Act → World → Prop} {E : Prop} (hg : o.guard = none) (s x : Operand) (t e : TypeId) (ho : o.op = .call { callee := .builtin .append, args := #[s, x], argTypes := #[t, t] })
    {size bytes : Nat} {z : Value} (ht : P.underlying t = some (.slice e)) (hinfo : (P.info? e).map (fun i => (i.zero, i.size, i.bytes)) = some (some z, size, bytes)) (hzs : z.cells.size = size) (hsz : 0 < size)
    {base : Nat} {v : Value} {n : Nat} {xs : List Value} (hs : a.eval s = v) (hown : w.ownsRow base e size v n xs)
    {y : Value} {m : Nat} {cs : List Value} (hx : a.eval x = y) (hr : Row w y m cs) (hl : cs.length = m * size) (h1 : ∀ u ∈ cs, u.oneCell' = true)
    (h63 : n + m ≤ maxLen) (hbytes : (n + m) * bytes ≤ 140737488355328) (hbase : base ≤ w.heap.size)
    (h : ∀ v' w', w'.ownsRow base e size v' (n + m) (xs ++ cs) → w.grownBy w' v.ownBlock → K (a.put o.dst v') w') :
    if Region.wanted o (yielded ops a.tmps) = true then Oper.wp P o a w K Q else E := by
  have hw : Region.wanted o (yielded ops a.tmps) = true := by simp [Region.wanted, hg]
  rw [if_pos hw]
  obtain ⟨i, hi, hz, hi1, hi2⟩ := info_parts hinfo
  obtain ⟨ao, cap, rfl, q1, q2, q3, q4⟩ := hr
  cases ao with
  | some ad => exact wp_append_own w s x t ho base e i z size bytes ht hi hz hi1 hi2 hzs hsz v n xs hs hown ad m cap cs hx hl (q4 ad rfl) h1 h63 hbytes hbase (fun v' w' g1 g2 _ => h v' w' g1 g2)
  | none =>
    obtain ⟨rfl, rfl⟩ := q3 rfl
    have hm : m = 0 := by omega
    subst hm
    have hrun := run_append_owned_none (P := P) w base t o.type e i size ht hi v n xs hown
    unfold Oper.wp
    simp [execOp, ho, resolve, invoke, builtin, hs, hx, hrun, Result.andThen]
    exact h v w (by simpa using hown) (World.grownBy.refl _ _)

/-- A slice held against nil. -/
def isNil (v : Value) : Bool := match v with | .slice none _ _ => true | _ => false
theorem wp_eql_nil (hg : Region.wanted o (yielded ops a.tmps) = true) (x : Operand) (t t2 e : TypeId) (n' c' : Nat) (ho : o.op = .binOp .eql t x (.const (.slice none n' c')) t2) (ht : P.underlying t = some (.slice e))
    {v : Value} {n : Nat} {cs : List Value} (hx : a.eval x = v) (hr : Row w v n cs) {b : Bool} (hb : isNil v = b) (h : wpList P ops Q rest (a.put o.dst (.bool b)) w) : wpList P ops Q (o :: rest) a w := by
  subst hb
  obtain ⟨ao, cap, rfl, _⟩ := hr
  have hrun := Lib.run_eql_slice_nil (P := P) w t e ao n cap n' c' ht
  refine wp_run hg (v := .bool (isNil (.slice ao n cap))) (w' := w) ?_ h
  unfold execOp
  have e1 : isNil (.slice ao n cap) = ao.isNone := by cases ao <;> rfl
  have e2 : a.eval (.const (.slice none n' c')) = .slice none n' c' := rfl
  simp [ho, hx, e2, eqGuard, hrun, e1, Result.andThen]

theorem nil_empty {v : Value} {n : Nat} {cs : List Value} (hr : Row w v n cs) (h : isNil v = true) : n = 0 ∧ cs = [] := by
  obtain ⟨ao, cap, rfl, q1, q2, q3, _⟩ := hr
  cases ao with
  | none => obtain ⟨rfl, rfl⟩ := q3 rfl; exact ⟨by omega, rfl⟩
  | some _ => simp [isNil] at h

/-- string(b). -/
theorem wp_str (hg : Region.wanted o (yielded ops a.tmps) = true) (src dst e : TypeId) (x : Operand) (ho : o.op = .convert src dst x) (hs : P.underlying src = some (.slice e)) (he : P.underlying e = some (.int .u8)) (hd : P.underlying dst = some .string)
    {v : Value} {bs : List UInt8} (hx : a.eval x = v) (hr : Row w v bs.length (bcs bs)) (h : wpList P ops Q rest (a.put o.dst (.string (str bs))) w) : wpList P ops Q (o :: rest) a w := by
  obtain ⟨ao, cap, rfl, q1, q2, q3, q4⟩ := hr
  have hrun : (convert src dst (.slice ao bs.length cap)).run P w = .ok (.string (str bs)) w := by
    rw [run_convert_bytes_string w src dst e ao _ _ hs he hd]
    cases ao with
    | none =>
      obtain ⟨_, hb⟩ := q3 rfl
      have : bs = [] := by simpa [bcs] using hb
      subst this
      rfl
    | some ad =>
      have hl : (loadCells ad bs.length).run P w = .ok ((bs.map fun b => (b.toNat : Int)).map (Value.int .u8)).toArray w := by
        have := run_loadCells_list (P := P) w ad (bcs bs) (q4 ad rfl)
        rw [bcs_length] at this
        rw [this]
        simp [bcs, u8c, Function.comp_def]
      rw [run_bytesToString w ad bs.length cap _ hl, foldl_push_bytes]
      simp [str, Function.comp_def]
  refine wp_run hg (v := .string (str bs)) (w' := w) ?_ h
  unfold execOp
  simp [ho, hx, hrun, Result.andThen]


/-! ### Arrays and structs in blocks of their own -/
/-- Block g holds just these cells, and may be written. -/
def Blk (w : World) (g : Nat) (t : TypeId) (cs : List Value) : Prop := w.heap[g]? = some (.cells cs.toArray t (0, 0))

theorem Blk.lt {w : World} {g : Nat} {t : TypeId} {cs : List Value} (h : Blk w g t cs) : g < w.heap.size := (Array.getElem?_eq_some_iff.1 h).1
theorem Blk.below {w w' : World} {g : Nat} {t : TypeId} {cs : List Value} (h : Blk w g t cs) (hb : Below w.heap.size w w') : Blk w' g t cs := (hb.block g h.lt).trans h
theorem Blk.grown {w w' : World} {g : Nat} {t : TypeId} {cs : List Value} (h : Blk w g t cs) {row : Option Nat} (hg : w.grownBy w' row) (hne : some g ≠ row) : Blk w' g t cs := (hg.block g h.lt hne).trans h
theorem Blk.new (w : World) (cs : List Value) (t : TypeId) : Blk (w.alloc (.cells cs.toArray t)) w.heap.size t cs := heap_alloc_new w _
theorem Blk.cell {w : World} {g : Nat} {t : TypeId} {cs : List Value} (h : Blk w g t cs) (j : Nat) : w.cell? ⟨g, j, none⟩ = cs[j]? := by
  rw [cell_of_row w g j _ t _ h]; simp
theorem Blk.frozen {w : World} {g : Nat} {t : TypeId} {cs : List Value} (h : Blk w g t cs) (j : Nat) : w.frozen? ⟨g, j, none⟩ = false := frozen_of_row w g j _ t h
theorem addr_add (g j : Nat) : (⟨g, 0, none⟩ : Addr).add j = ⟨g, j, none⟩ := by unfold Addr.add; split <;> simp_all
theorem Blk.row {w : World} {g : Nat} {t : TypeId} {cs : List Value} (h : Blk w g t cs) (n : Nat) (hn : n ≤ maxLen) : Row w (.slice (some ⟨g, 0, none⟩) n n) n cs :=
  ⟨_, _, rfl, Nat.le_refl _, hn, (fun h => by cases h), (fun ad had j u hu => by cases had; rw [addr_add, h.cell]; exact hu)⟩

/-- A new variable of zeros. -/
theorem wp_alloc (hg : Region.wanted o (yielded ops a.tmps) = true) (t : TypeId) (ho : o.op = .alloc t) {z : Value} (hz : ∀ w, (zeroValue t).run P w = .ok z w)
    (h : ∀ w', Blk w' w.heap.size t z.cells.toList → Below w.heap.size w w' → w.heap.size < w'.heap.size → wpList P ops Q rest (a.put o.dst (.pointer (some ⟨w.heap.size, 0, none⟩))) w') : wpList P ops Q (o :: rest) a w := by
  refine wp_run hg (v := .pointer (some ⟨w.heap.size, 0, none⟩)) (w' := w.alloc (.cells z.cells t)) ?_ (h _ ?_ ((Below.refl _ _).alloc (Nat.le_refl _) _) (by simp))
  · unfold execOp
    simp [ho, Instr.alloc, hz, newVar, newRow, newObj, Result.andThen]
    rfl
  · have := Blk.new w z.cells.toList t
    simpa using this

theorem wp_box (hg : Region.wanted o (yielded ops a.tmps) = true) (t : TypeId) (x : Operand) (ho : o.op = .box t x) {v : Value} (hx : a.eval x = v)
    (h : ∀ w', Blk w' w.heap.size t v.cells.toList → Below w.heap.size w w' → w.heap.size < w'.heap.size → wpList P ops Q rest (a.put o.dst (.pointer (some ⟨w.heap.size, 0, none⟩))) w') : wpList P ops Q (o :: rest) a w := by
  refine wp_run hg (v := .pointer (some ⟨w.heap.size, 0, none⟩)) (w' := w.alloc (.cells v.cells t)) ?_ (h _ ?_ ((Below.refl _ _).alloc (Nat.le_refl _) _) (by simp))
  · unfold execOp
    simp [ho, hx, Instr.box, newVar, newRow, newObj, Result.andThen]
    rfl
  · have := Blk.new w v.cells.toList t
    simpa using this

/-- An aggregate is read, wherever it lies. -/
theorem wp_load_agg (hg : Region.wanted o (yielded ops a.tmps) = true) (t : TypeId) (x : Operand) (ho : o.op = .load t x) (hagg : ∀ w, (isAgg t).run P w = .ok true w) {sz : Nat} (hs : (P.info? t).map (fun i => i.size) = some sz)
    {ad : Addr} (hx : a.eval x = .pointer (some ad)) {cs : List Value} (hl : cs.length = sz) (hc : ∀ j u, cs[j]? = some u → w.cell? (ad.add j) = some u)
    (h : wpList P ops Q rest (a.put o.dst (.agg cs.toArray)) w) : wpList P ops Q (o :: rest) a w := by
  refine wp_run hg (v := .agg cs.toArray) (w' := w) ?_ h
  have hld := run_loadCells_list (P := P) w ad cs hc
  rw [hl] at hld
  unfold execOp
  simp [ho, hx, Instr.loadAt, Instr.sureAddr, loadVar, hagg, run_sizeOf hs, hld, Result.andThen]

theorem wp_load_blk (hg : Region.wanted o (yielded ops a.tmps) = true) (t : TypeId) (x : Operand) (ho : o.op = .load t x) (hagg : ∀ w, (isAgg t).run P w = .ok true w) {sz : Nat} (hs : (P.info? t).map (fun i => i.size) = some sz)
    {g : Nat} (hx : a.eval x = .pointer (some ⟨g, 0, none⟩)) {t' : TypeId} {cs : List Value} (hb : Blk w g t' cs) (hl : cs.length = sz)
    (h : wpList P ops Q rest (a.put o.dst (.agg cs.toArray)) w) : wpList P ops Q (o :: rest) a w :=
  wp_load_agg hg t x ho hagg hs hx hl (fun j u hu => by rw [addr_add, hb.cell]; exact hu) h

theorem wp_run_skip (hg : Region.wanted o (yielded ops a.tmps) = true) {w' : World} (hr : (execOp a.eval o).run P w = .ok .skip w') (h : wpList P ops Q rest (a.put o.dst undef) w') : wpList P ops Q (o :: rest) a w := by
  refine BigFrame.wpList_want hg fun K hK => ?_
  unfold Oper.wp
  rw [hr]
  exact hK _ _ h

/-- An aggregate is stored into a block of its own, whole. -/
theorem wp_store_blk (hg : Region.wanted o (yielded ops a.tmps) = true) (t : TypeId) (x y : Operand) (ho : o.op = .store t x y) (hd : o.dst = none) {sz : Nat} (hs : (P.info? t).map (fun i => i.size) = some sz)
    {g : Nat} (hx : a.eval x = .pointer (some ⟨g, 0, none⟩)) {t' : TypeId} {cs : List Value} (hb : Blk w g t' cs) (hl : cs.length = sz) {v : Value} (hy : a.eval y = v) (hv : v.cells.size = sz) (h1 : ∀ u ∈ v.cells.toList, u.oneCell' = true)
    (h : ∀ w', Blk w' g t' v.cells.toList → w.grownBy w' (some g) → wpList P ops Q rest a w') : wpList P ops Q (o :: rest) a w := by
  have hst := run_storeCells_at P g 0 t' v.cells.toList 0 cs.toArray w hb (by simp; omega) h1
  simp only [Nat.add_zero, List.take_zero, List.nil_append, Nat.zero_add] at hst
  have hd0 : cs.toArray.toList.drop v.cells.toList.length = [] := by simp; omega
  rw [hd0, List.append_nil] at hst
  refine wp_run_skip hg (w' := w.setRow g v.cells.toList.toArray) ?_ ?_
  · unfold execOp
    simp [ho, hx, hy, Instr.storeAt, Instr.sureAddr, storeVar, run_sizeOf hs, hv, Result.andThen] at hst ⊢
    rw [hst]
  · rw [hd]
    exact h _ (setRow_heap w g cs.toArray _ t' _ hb) ⟨rfl, rfl, rfl, by simp, fun k _ hk => setRow_other w g k _ (fun e => hk (by rw [e]))⟩

/-- One cell is stored into a block. -/
theorem wp_store_cell (hg : Region.wanted o (yielded ops a.tmps) = true) (t : TypeId) (x y : Operand) (ho : o.op = .store t x y) (hd : o.dst = none) (hs : (P.info? t).map (fun i => i.size) = some 1)
    {g i : Nat} (hx : a.eval x = .pointer (some ⟨g, i, none⟩)) {t' : TypeId} {cs : List Value} (hb : Blk w g t' cs) (hi : i < cs.length) {v : Value} (hy : a.eval y = v) (hv : v.oneCell' = true) (hv2 : v.cells = #[v])
    (h : ∀ w', Blk w' g t' (cs.set i v) → w.grownBy w' (some g) → wpList P ops Q rest a w') : wpList P ops Q (o :: rest) a w := by
  have hst := run_storeCells_at P g i t' [v] 0 cs.toArray w hb (by simp; omega) (by intro u hu; simp at hu; subst hu; exact hv)
  simp only [Nat.add_zero, List.length_singleton] at hst
  have he : (cs.toArray.toList.take i ++ [v] ++ cs.toArray.toList.drop (i + 1)) = cs.set i v := by
    simp [List.set_eq_take_append_cons_drop, hi]
  rw [he] at hst
  refine wp_run_skip hg (w' := w.setRow g (cs.set i v).toArray) ?_ ?_
  · unfold execOp
    simp [ho, hx, hy, Instr.storeAt, Instr.sureAddr, storeVar, run_sizeOf hs, hv2, Result.andThen] at hst ⊢
    rw [hst]
  · rw [hd]
    exact h _ (setRow_heap w g cs.toArray _ t' _ hb) ⟨rfl, rfl, rfl, by simp, fun k _ hk => setRow_other w g k _ (fun e => hk (by rw [e]))⟩

/-- A slice turned to an array's address. -/
theorem wp_to_array (hg : Region.wanted o (yielded ops a.tmps) = true) (t e : TypeId) (n : Nat) (x : Operand) (ho : o.op = .sliceToArrayPointer t x) (ht : P.underlying t = some (.array n e)) (hn : 0 < n)
    {v : Value} {cs : List Value} (hx : a.eval x = v) (hr : Row w v n cs) (hl : cs.length = n)
    (h : ∀ ad, (∀ j u, cs[j]? = some u → w.cell? (ad.add j) = some u) → wpList P ops Q rest (a.put o.dst (.pointer (some ad))) w) : wpList P ops Q (o :: rest) a w := by
  obtain ⟨ad, cap, rfl, hc⟩ := hr.at (sz := 1) (by omega) (by omega) (i := 0) hn
  refine wp_run hg (v := .pointer (some ad)) (w' := w) ?_ (h ad hc)
  unfold execOp
  simp [ho, hx, Instr.arrayAt, run_underlying ht, Result.andThen]

/-- The results, the first one an aggregate in a block. -/
theorem results_blk3 {fn : Func} {p t2 t3 : Tmp} {ty : TypeId} (h : fn.results = #[.cell p ty, .tmp t2, .tmp t3]) (hagg : ∀ w, (isAgg ty).run P w = .ok true w) {sz : Nat} (hs : (P.info? ty).map (fun i => i.size) = some sz)
    (tmps : Array Value) {g : Nat} (hp : tmps.getD p undef = .pointer (some ⟨g, 0, none⟩)) {t' : TypeId} {cs : List Value} (hb : Blk w g t' cs) (hl : cs.length = sz) :
    (results fn tmps).run P w = .ok (.tuple #[.agg cs.toArray, tmps.getD t2 undef, tmps.getD t3 undef]) w := by
  have hld := run_loadCells_list (P := P) w ⟨g, 0, none⟩ cs (fun j u hu => by rw [addr_add, hb.cell]; exact hu)
  rw [hl] at hld
  have hp' : tmps[p]?.getD undef = .pointer (some ⟨g, 0, none⟩) := by simpa using hp
  simp [results, h, hp', asAddr, loadVar, hagg, run_sizeOf hs, hld, Result.andThen]


/-- A digest's value. -/
abbrev dg (d : List UInt8) : Value := .agg (bcs d).toArray

/-- Two arrays of bytes are held against each other. -/
theorem wp_eq_dg (hg : Region.wanted o (yielded ops a.tmps) = true) (t t2 e : TypeId) (n : Nat) (x y : Operand) (ho : o.op = .binOp .eql t x y t2) (ht : P.underlying t = some (.array n e)) (he : P.underlying e = some (.int .u8))
    (hs : (P.info? e).map (fun i => i.size) = some 1) (hq : P.eqGuardType P.depth t = false) {p q : List UInt8} (hx : a.eval x = dg p) (hy : a.eval y = dg q) (hp : p.length = n) (hq' : q.length = n) {b : Bool} (hb : (p == q) = b)
    (h : wpList P ops Q rest (a.put o.dst (.bool b)) w) : wpList P ops Q (o :: rest) a w := by
  have hrun := run_eql_bytes (P := P) w t e n ht he (fun w => run_sizeOf hs w) p q hp hq'
  rw [hb] at hrun
  have hrun2 : (binOp .eql t (dg p) (dg q)).run P w = .ok (.bool b) w := hrun
  refine wp_run hg (v := .bool b) (w' := w) ?_ h
  unfold execOp
  simp only [ho, hx, hy]
  have hgd : (eqGuard .eql t x y (dg p) (dg q)).run P w = .ok () w := by
    simp [eqGuard, hq]
  simp [Sem.run_bind, hgd, hrun2, Result.andThen]

/-- Strings are put together. -/
theorem wp_add_str (hg : Region.wanted o (yielded ops a.tmps) = true) (t t2 : TypeId) (x y : Operand) (ho : o.op = .binOp .add t x y t2) {p q : List UInt8} {sx sy : ByteArray} (hx : a.eval x = .string sx) (hy : a.eval y = .string sy) (ex : sx = str p) (ey : sy = str q)
    (hl : p.length + q.length ≤ 9223372036854775807) (h : wpList P ops Q rest (a.put o.dst (.string (str (p ++ q)))) w) : wpList P ops Q (o :: rest) a w := by
  subst ex
  subst ey
  have hrun := run_string_add_sum (P := P) w (str p) (str q) (by simpa [str, ByteArray.size] using hl)
  have e : str p ++ str q = str (p ++ q) := ByteArray.mk_append_mk p q
  rw [e] at hrun
  refine wp_run hg (v := .string (str (p ++ q))) (w' := w) ?_ h
  unfold execOp
  simp only [ho, hx, hy, eqGuard_add, Sem.run_bind, Sem.run_pure, Result.andThen_ok]
  rw [show binOp .add t (.string (str p)) (.string (str q)) = Op.stringOp .add (str p) (str q) from rfl, hrun]
  rfl

/-- Strings are held against each other. -/
theorem wp_eq_str (hg : Region.wanted o (yielded ops a.tmps) = true) (t t2 : TypeId) (x y : Operand) (ho : o.op = .binOp .eql t x y t2) {sx sy : ByteArray} (hx : a.eval x = .string sx) (hy : a.eval y = .string sy) {b : Bool} (hb : decide (sx = sy) = b)
    (h : wpList P ops Q rest (a.put o.dst (.bool b)) w) : wpList P ops Q (o :: rest) a w := by
  have e : (sx.toList == sy.toList) = b := by
    rw [← hb, Bool.eq_iff_iff]
    simp only [beq_iff_eq, decide_eq_true_eq]
    constructor
    · intro h
      have h' : sx.data.toList = sy.data.toList := by rw [← ByteArray.toList_eq, ← ByteArray.toList_eq]; exact h
      cases sx; cases sy
      simp at h'
      simp [h']
    · rintro rfl; rfl
  refine wp_run hg (v := .bool b) (w' := w) ?_ h
  unfold execOp
  simp only [ho, hx, hy, eqGuard_at_string, Sem.run_bind, Sem.run_pure, Result.andThen_ok]
  rw [show binOp .eql t (.string sx) (.string sy) = Op.stringOp .eql sx sy from rfl]
  simp [Op.stringOp, e, Result.andThen]

theorem wp_neq_str (hg : Region.wanted o (yielded ops a.tmps) = true) (t t2 : TypeId) (x y : Operand) (ho : o.op = .binOp .neq t x y t2) {sx sy : ByteArray} (hx : a.eval x = .string sx) (hy : a.eval y = .string sy) {b : Bool} (hb : decide (sx = sy) = !b)
    (h : wpList P ops Q rest (a.put o.dst (.bool b)) w) : wpList P ops Q (o :: rest) a w := by
  have e : (sx.toList == sy.toList) = !b := by
    rw [← hb, Bool.eq_iff_iff]
    simp only [beq_iff_eq, decide_eq_true_eq]
    constructor
    · intro h
      have h' : sx.data.toList = sy.data.toList := by rw [← ByteArray.toList_eq, ← ByteArray.toList_eq]; exact h
      cases sx; cases sy
      simp at h'
      simp [h']
    · rintro rfl; rfl
  refine wp_run hg (v := .bool b) (w' := w) ?_ h
  unfold execOp
  simp only [ho, hx, hy, eqGuard_at_string, Sem.run_bind, Sem.run_pure, Result.andThen_ok]
  rw [show binOp .neq t (.string sx) (.string sy) = Op.stringOp .neq sx sy from rfl]
  simp [Op.stringOp, e, Result.andThen]


/-! ### An aggregate's load as one rule (for regions that draw their order): mark an instance 'local go_sem ↓'. -/
/-- The cells of the block to which a pointer leads. -/
def rowV (w : World) (v : Value) : List Value := match v with | .pointer (some ⟨g, 0, none⟩) => (match w.heap[g]? with | some (.cells c _ _) => c.toList | _ => []) | _ => []
/-- The pointer leads to the head of a block of n cells. -/
def isRowV (w : World) (v : Value) (n : Nat) : Bool := match v with | .pointer (some ⟨g, 0, none⟩) => (match w.heap[g]? with | some (.cells c _ _) => c.size == n | _ => false) | _ => false
theorem rowV_blk {g : Nat} {t : TypeId} {cs : List Value} (h : Blk w g t cs) : rowV w (.pointer (some ⟨g, 0, none⟩)) = cs := by
  simp only [rowV, show w.heap[g]? = _ from h]
theorem isRowV_blk {g : Nat} {t : TypeId} {cs : List Value} (h : Blk w g t cs) {n : Nat} (hn : cs.length = n) : isRowV w (.pointer (some ⟨g, 0, none⟩)) n = true := by
  simp only [isRowV, show w.heap[g]? = _ from h]; simp [hn]
theorem run_load_rowV {t : TypeId} {sz : Nat} (hagg : ∀ w, (isAgg t).run P w = .ok true w) (hs : (P.info? t).map (fun i => i.size) = some sz) (ρ : Operand → Value) (x : Operand) (dst : Option Tmp) (ty : TypeId) (pos : String) (after : Array Edge) (guard : Option (Nat × Bool)) (w : World)
    (h : isRowV w (ρ x) sz = true) : (execOp ρ { dst, op := .load t x, type := ty, pos, after, guard }).run P w = .ok (.value (.agg (rowV w (ρ x)).toArray)) w := by
  unfold isRowV at h
  split at h
  · rename_i g hx
    split at h
    · rename_i c e fr hg
      have hc : c.size = sz := by simpa using h
      have hld := run_loadCells_list (P := P) w ⟨g, 0, none⟩ c.toList (fun j u hu => by rw [addr_add, cell_of_row w g j c e fr hg]; simpa using hu)
      rw [Array.length_toList, hc] at hld
      have hr : rowV w (.pointer (some ⟨g, 0, none⟩)) = c.toList := by simp only [rowV, hg]
      unfold execOp
      simp [hx, Instr.loadAt, Instr.sureAddr, loadVar, hagg, run_sizeOf hs, hld, hr, Result.andThen]
    · cases h
  · cases h

end
end Go.Proofs.YtnecgoahdkfbeaaDoor.Cop
