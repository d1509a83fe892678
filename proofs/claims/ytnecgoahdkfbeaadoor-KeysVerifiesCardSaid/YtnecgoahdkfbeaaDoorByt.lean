/- Laws at one operation for slices of bytes, at this program's types; each speaks of lists of bytes alone. -/
import Derived.Test.YtnecgoahdkfbeaaDoorProg
import Derived.Test.YtnecgoahdkfbeaaDoorLib
namespace Go.Proofs.YtnecgoahdkfbeaaDoor.Oct
open Go Go.RowKit Go.Proofs.YtnecgoahdkfbeaaDoor.Cop
set_option linter.unusedVariables false
set_option linter.unusedSimpArgs false

theorem info8 : (Tryd.prog.info? 5).map (fun i => (i.zero, i.size, i.bytes)) = some (some (.int .u8 0), 1, 1) := by kernel_rfl
theorem size8 : (Tryd.prog.info? 5).map (fun i => i.size) = some 1 := by kernel_rfl
theorem agg8 (w : World) : (isAgg 5).run Tryd.prog w = .ok false w := by kernel_rfl

/-- v is a slice of the call's own (in blocks from base on) that reads as bs. -/
def Own (base : Nat) (w : World) (v : Value) (bs : List UInt8) : Prop := w.ownsRow base 5 1 v bs.length (bcs bs)
/-- v reads as bs. -/
def Rd (w : World) (v : Value) (bs : List UInt8) : Prop := Row w v bs.length (bcs bs)

theorem Own.rd {base : Nat} {w : World} {v : Value} {bs : List UInt8} (h : Own base w v bs) : Rd w v bs := Row.of_own h
theorem Own.below {base : Nat} {w w' : World} {v : Value} {bs : List UInt8} (h : Own base w v bs) (hb : Below w.heap.size w w') : Own base w' v bs := own_below h hb
theorem Own.mono {base base' : Nat} {w : World} {v : Value} {bs : List UInt8} (h : Own base w v bs) (hb : base' ≤ base) : Own base' w v bs := own_mono h hb
theorem Own.alloc {base : Nat} {w : World} {v : Value} {bs : List UInt8} (h : Own base w v bs) (o : Obj) : Own base (w.alloc o) v bs := World.ownsRow.alloc h o
theorem Own.kept {base : Nat} {w w' : World} {v : Value} {bs : List UInt8} (h : Own base w v bs) {row : Option Nat} (hg : w.grownBy w' row) (hne : v.ownBlock = none ∨ v.ownBlock ≠ row) : Own base w' v bs := World.ownsRow.kept h hg hne
theorem Own.nil (base : Nat) (w : World) : Own base w (.slice none 0 0) [] := World.ownsRow_nil _ _ _ _
theorem Own.lit0 {base : Nat} (w : World) (hb : base ≤ w.heap.size) : Own base (w.alloc (.cells #[] 5)) (.slice (some ⟨w.heap.size, 0, none⟩) 0 0) [] := World.ownsRow_made w #[] 0 hb (Nat.zero_le _) rfl
/-- What an own slice's growth leaves of old memory. -/
theorem Own.frame {base : Nat} {w w' : World} {v : Value} {bs : List UInt8} (h : Own base w v bs) (hg : w.grownBy w' v.ownBlock) (hb : base ≤ w.heap.size) : Below base w w' := below_grown hg hb (fun k hk => (World.ownsRow.lt h k hk).1)
theorem Rd.below {w w' : World} {v : Value} {bs : List UInt8} (h : Rd w v bs) (hb : Below w.heap.size w w') : Rd w' v bs := Row.below h hb
theorem Rd.alloc {w : World} {v : Value} {bs : List UInt8} (h : Rd w v bs) (o : Obj) : Rd (w.alloc o) v bs := Row.alloc h o
theorem Rd.one (w : World) (b : UInt8) (e : TypeId) : Rd (w.alloc (.cells #[u8c b] e)) (.slice (some ⟨w.heap.size, 0, none⟩) 1 1) [b] := Row.one w (u8c b) e
theorem Rd.bs {w : World} {v : Value} {bs : List UInt8} (h : Rd w v bs) (hl : bs.length ≤ 140737488354304) : Bs w v bs := ⟨h, hl⟩
theorem Rd.small {w : World} {v : Value} {bs : List UInt8} (h : Rd w v bs) : bs.length ≤ 9223372036854775807 := Row.small h
theorem Rd.of_blk {w : World} {g : Nat} {t : TypeId} {bs : List UInt8} (h : Blk w g t (bcs bs)) (n : Nat) (hn : bs.length = n) (hm : n ≤ maxLen) : Rd w (.slice (some ⟨g, 0, none⟩) n n) bs := by subst hn; exact h.row _ hm

section
variable {ops : Array Oper} {rest : List Oper} {o : Oper} {a : Act} {Q : Exit → Act → World → Prop} {w : World}

theorem wp_appB (hg : Region.wanted o (yielded ops a.tmps) = true) (s x : Operand) (ho : o.op = .call { callee := .builtin .append, args := #[s, x], argTypes := #[48, 48] })
    {base : Nat} {v : Value} {xs : List UInt8} (hown : Own base w v xs) (hs : a.eval s = v) {y : Value} {ys : List UInt8} (hr : Rd w y ys) (hx : a.eval x = y)
    (hl : xs.length + ys.length ≤ 140737488355328) (hbase : base ≤ w.heap.size)
    (h : ∀ v' w', Own base w' v' (xs ++ ys) → w.grownBy w' v.ownBlock → wpList Tryd.prog ops Q rest (a.put o.dst v') w') : wpList Tryd.prog ops Q (o :: rest) a w :=
  wp_append hg s x 48 5 ho Tryd.underlying48 info8 rfl (by decide) hs hown hx hr (by rw [Nat.mul_one]; exact bcs_length ys) (bcs_one ys) (by unfold maxLen; omega) (by omega) hbase
    (fun v' w' h1 h2 => h v' w' (by unfold Own; rw [List.length_append, bcs_append]; exact h1) h2)

theorem wp_cutB (hg : Region.wanted o (yielded ops a.tmps) = true) (x : Operand) (lo hi : Option Operand) (ho : o.op = .slice 48 x lo hi none)
    {v : Value} {bs : List UInt8} (hr : Rd w v bs) (hx : a.eval x = v) (l h' : Nat)
    (hlo : lo.map a.eval = none ∧ l = 0 ∨ ∃ k, lo.map a.eval = some (.int k (l : Int))) (hhi : hi.map a.eval = none ∧ h' = bs.length ∨ ∃ k, hi.map a.eval = some (.int k (h' : Int)))
    (h1 : l ≤ h') (h2 : h' ≤ bs.length)
    (h : ∀ v', Rd w v' ((bs.drop l).take (h' - l)) → wpList Tryd.prog ops Q rest (a.put o.dst v') w) : wpList Tryd.prog ops Q (o :: rest) a w := by
  refine wp_slice hg 48 5 x lo hi ho Tryd.underlying48 size8 hx hr (by rw [Nat.mul_one]; exact bcs_length bs) l h' hlo hhi h1 h2 (fun v' hr' => h v' ?_)
  unfold Rd
  rw [Nat.mul_one, Nat.mul_one, bcs_cut] at hr'
  have e : ((bs.drop l).take (h' - l)).length = h' - l := by rw [List.length_take, List.length_drop]; omega
  rw [e]; exact hr'

theorem wp_lenB (hg : Region.wanted o (yielded ops a.tmps) = true) (x : Operand) (ho : o.op = .call { callee := .builtin .len, args := #[x], argTypes := #[48] })
    {v : Value} {bs : List UInt8} (hr : Rd w v bs) (hx : a.eval x = v) (h : wpList Tryd.prog ops Q rest (a.put o.dst (.int .i64 (bs.length : Int))) w) : wpList Tryd.prog ops Q (o :: rest) a w :=
  wp_len hg x 48 5 ho Tryd.underlying48 hx hr h

theorem wp_strB (hg : Region.wanted o (yielded ops a.tmps) = true) (x : Operand) (ho : o.op = .convert 48 9 x)
    {v : Value} {bs : List UInt8} (hr : Rd w v bs) (hx : a.eval x = v) (h : wpList Tryd.prog ops Q rest (a.put o.dst (.string (str bs))) w) : wpList Tryd.prog ops Q (o :: rest) a w :=
  wp_str hg 48 9 5 x ho Tryd.underlying48 Tryd.underlying5 Tryd.underlying9 hx hr h

/-- b[i] is read (its address, then the load). -/
theorem wp_getB {o2 : Oper} {rest2 : List Oper} (hg : Region.wanted o (yielded ops a.tmps) = true) (hg2 : ∀ p, Region.wanted o2 (yielded ops (a.put o.dst p).tmps) = true) (x i : Operand) (d : Tmp)
    (ho : o.op = .indexAddr 48 x i) (hd : o.dst = some d) (ho2 : o2.op = .load 5 (.tmp d)) {v : Value} {bs : List UInt8} (hr : Rd w v bs) (hx : a.eval x = v) {k : IntKind} {iv : Int} (hi : a.eval i = .int k iv)
    (hd2 : ∀ p, (a.put (some d) p).eval (.tmp d) = p) (j : Nat) (hj : iv = (j : Int)) (hlt : j < bs.length)
    (h : ∀ p, wpList Tryd.prog ops Q rest2 ((a.put (some d) p).put o2.dst (u8c bs[j])) w) : wpList Tryd.prog ops Q (o :: o2 :: rest2) a w := by
  subst hj
  exact wp_index_load hg hg2 48 5 x i d ho hd ho2 Tryd.underlying48 size8 agg8 hx hi hr (bcs_length bs) hd2 (by omega) (by omega) (bcs_at bs j hlt) h
end
end Go.Proofs.YtnecgoahdkfbeaaDoor.Oct
