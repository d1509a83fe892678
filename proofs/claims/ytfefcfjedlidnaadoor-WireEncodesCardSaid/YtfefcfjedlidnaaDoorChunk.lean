/- slices.Chunk over bytes, three at a time: what it hands to the loop's body. -/
import Derived.RangeFuncNested
import Derived.RangeFuncBound
import Derived.RangeFuncCalls
import Derived.RangeFuncLeaves
import Derived.Shelf.Abstract
import Derived.Shelf.RegionOpen
import Derived.WalkKit
import Derived.OwnWalkIn
import Derived.TacticsInMore
import Derived.LoopNIn
import Derived.LoopIn
import Derived.BigRegionIn
import Derived.Test.YtfefcfjedlidnaaDoorByt
namespace Go.Proofs.YtfefcfjedlidnaaDoor.Chk
open Go Go.RowKit Go.Shelf Go.Proofs.YtfefcfjedlidnaaDoor.Cop Go.Proofs.YtfefcfjedlidnaaDoor.Oct
set_option linter.unusedVariables false
set_option linter.unusedSimpArgs false
theorem max2_int (k k' : IntKind) (x y : Int) : Builtin.max2 (.int k x) (.int k' y) = pure (.int k (if x < y then y else x)) := by simp only [Builtin.max2, gt_iff_lt]
theorem min2_int (k k' : IntKind) (x y : Int) : Builtin.min2 (.int k x) (.int k' y) = pure (.int k (if y < x then y else x)) := by simp only [Builtin.min2]
theorem min_two (ats : Array TypeId) (ty : TypeId) (a b : Value) : Builtin.min_ ats ty #[a, b] = (Builtin.min2 a b >>= fun s => pure s) := by simp only [Builtin.min_, List.foldlM_cons, List.foldlM_nil]
attribute [local go_sem] min2_int min_two

/-- The j-th piece of a slice, as a value. -/
def piece (ad : Addr) (len : Nat) (j : Nat) : Value := .slice (some (ad.add (3 * j))) (min 3 (len - 3 * j)) (min 3 (len - 3 * j))
/-- Two blocks stand as they stood: what the iterator reads between two rounds. -/
def Keep2 (x y : Nat) (A B : World) : Prop := B.heap[x]? = A.heap[x]? ∧ B.heap[y]? = A.heap[y]?
theorem Keep2.refl (x y : Nat) (A : World) : Keep2 x y A A := ⟨rfl, rfl⟩
theorem Keep2.trans {x y : Nat} {A B C : World} (h : Keep2 x y A B) (k : Keep2 x y B C) : Keep2 x y A C := ⟨k.1.trans h.1, k.2.trans h.2⟩
theorem Keep2.cell1 {x y : Nat} {A B : World} (h : Keep2 x y A B) : B.cell? ⟨x, 0, none⟩ = A.cell? ⟨x, 0, none⟩ := World.cell?_of_block (w := A) h.1
theorem Keep2.cell2 {x y : Nat} {A B : World} (h : Keep2 x y A B) : B.cell? ⟨y, 0, none⟩ = A.cell? ⟨y, 0, none⟩ := World.cell?_of_block (w := A) h.2

set_option maxRecDepth 100000 in
set_option maxHeartbeats 2000000 in
theorem chunk1_in (F : Fence) (n : Nat) (h7 : F.fn 152) (hro : F.round = none) (hn : 1 ≤ n) (l Bs Bn : Nat) (ad : Addr) (len cap : Nat) (hlen : len ≤ 1048576) (hcap : len ≤ cap) (hcm : cap ≤ maxLen) (J Jx : List { j : Nat // 3 * j < len } → World → Prop)
    (hY : ∀ pre x W, J pre W → pre.length < len + 1 → YieldAt F (n - 1) Tryd.prog l #[piece ad len x.1] W fun e W' =>
      (e = .returned (.bool true) ∧ J (pre ++ [x]) W' ∧ Keep2 Bs Bn W W') ∨ (e = .returned (.bool false) ∧ Jx (pre ++ [x]) W'))
    (W : World) (hBs : W.cell? ⟨Bs, 0, none⟩ = some (.slice (some ad) len cap)) (hBn : W.cell? ⟨Bn, 0, none⟩ = some (.int .i64 3)) (hJd : ∀ pre W, J pre W → J pre W.drew) (h0 : J [] W) :
    CallsIn F n Tryd.prog 152 #[.func (.yield l) #[] #[], .pointer (some ⟨Bs, 0, none⟩), .pointer (some ⟨Bn, 0, none⟩)] W fun e W' => (∃ v, e = .returned v) ∧
      ((∃ ys : List { j : Nat // 3 * j < len }, ys.map (·.1) = List.range ((len + 2) / 3) ∧ J ys W') ∨ (∃ pre, Jx pre W')) := by
  refine callsIn_of_wp Tryd.func152 rfl h7 ?_ hro
  simp only [Tryd.ntmps152, List.size_toArray, List.length_cons, List.length_nil, Nat.reduceAdd, Nat.reduceSub, Array.replicate_succ, Array.replicate_zero, List.push_toArray, List.append_toArray, List.nil_append, List.cons_append]
  gi_wp2
  gi_loopw [4] (fun i wr => ∃ (k p : Nat) (ys : List { j : Nat // 3 * j < len }), k ≤ (len + 2) / 3 ∧ p = 3 * k ∧ i = .int .i64 (p : Int) ∧ ys.map (·.1) = List.range k ∧ J ys wr ∧ Keep2 Bs Bn W wr)
    (fun i _ => len + 3 - (intOf i).toNat)
  case atStart => exact ⟨0, 0, [], Nat.zero_le _, rfl, rfl, rfl, h0, Keep2.refl _ _ _⟩
  case round =>
    obtain ⟨k, p, ys, hk, hp, rfl, hys, hJs, hnx⟩ := hrel
    have hc1 := hnx.cell1.trans hBs
    have hc2 := hnx.cell2.trans hBn
    have hyl : ys.length = k := by have := congrArg List.length hys; simpa using this
    by_cases hlt : p < len
    · have hkl : 3 * k < len := by omega
      have d1 : decide ((p : Int) < (len : Int)) = true := decide_eq_true (by omega)
      obtain ⟨m, hm⟩ : ∃ m : Nat, m = min 3 (len - p) := ⟨_, rfl⟩
      have hm0 : 0 < m := by omega
      have hm3 : m ≤ 3 := by omega
      have hmp : p + m ≤ len := by omega
      have em : (if ((len - p : Nat) : Int) < 3 then ((len - p : Nat) : Int) else 3) = (m : Int) := by split <;> omega
      have hpc : piece ad len k = .slice (some (ad.add p)) m m := by
        unfold piece; rw [← hp, ← hm]
      have hJ2 := hJd _ _ hJs
      have hnx2 : Keep2 Bs Bn W wr.drew := hnx
      have HYS := Lib.hid hys
      have HP := Lib.hid hp
      have HM := Lib.hid hm
      have HPC := Lib.hid hpc
      have i1 : p ≤ len := by omega
      have i2 : (p : Int) ≤ (len : Int) := by omega
      have i3 : (p : Int) ≤ (cap : Int) := by omega
      clear hm hpc hys hp
      gi_wp2
      gi_region
      all_goals
        have hc1' : wr.drew.cell? ⟨Bs, 0, none⟩ = _ := hc1
        have hc2' : wr.drew.cell? ⟨Bn, 0, none⟩ = _ := hc2
        generalize wr.drew = wd at *
        obtain ⟨fn, tmps, assign, body, hy, hR⟩ := hY ys ⟨k, hkl⟩ wd hJ2 (by omega)
        dsimp only at hy
        rw [HPC.out] at hy
        have i4 : (p : Int) + (m : Int) ≤ (len : Int) := by omega
        have i5 : (p : Int) + (m : Int) ≤ (cap : Int) := by omega
        gi_wp2
        refine hR.mono ?_
        rintro e W3 (⟨rfl, hJ3, hk3⟩ | ⟨rfl, hJx3⟩)
        · have hc2'' := hk3.cell2.trans hc2'
          gi_wp2
          go_roundw
          case rel =>
            refine ⟨k + 1, p + 3, ys ++ [⟨k, hkl⟩], by omega, by have := HP.out; omega, by first | rfl | go_num, ?_, hJ3, hnx2.trans hk3⟩
            rw [List.map_append, HYS.out, List.range_succ]; rfl
          case measure => simp [intOf]; omega
        · gi_wp2
          refine bodyPost_ret (results_none rfl _ _ _) rfl ?_
          exact ⟨⟨_, rfl⟩, .inr ⟨_, hJx3⟩⟩
    · have hke : k = (len + 2) / 3 := by omega
      have d1 : decide ((p : Int) < (len : Int)) = false := decide_eq_false (by omega)
      gi_wp2
      go_end0
      exact ⟨⟨_, rfl⟩, .inl ⟨ys, by rw [← hke]; exact hys, hJs⟩⟩

set_option maxRecDepth 100000 in
set_option maxHeartbeats 1000000 in
theorem chunk1_nil (F : Fence) (n : Nat) (h7 : F.fn 152) (hro : F.round = none) (l Bs Bn : Nat) (J : World → Prop) (W : World) (hBs : W.cell? ⟨Bs, 0, none⟩ = some (.slice none 0 0)) (hBn : W.cell? ⟨Bn, 0, none⟩ = some (.int .i64 3)) (h0 : J W) :
    CallsIn F n Tryd.prog 152 #[.func (.yield l) #[] #[], .pointer (some ⟨Bs, 0, none⟩), .pointer (some ⟨Bn, 0, none⟩)] W fun e W' => (∃ v, e = .returned v) ∧ J W' := by
  refine callsIn_of_wp Tryd.func152 rfl h7 ?_ hro
  simp only [Tryd.ntmps152, List.size_toArray, List.length_cons, List.length_nil, Nat.reduceAdd, Nat.reduceSub, Array.replicate_succ, Array.replicate_zero, List.push_toArray, List.append_toArray, List.nil_append, List.cons_append]
  gi_wp2
  gi_loopw [4] (fun i wr => i = .int .i64 0 ∧ J wr ∧ Keep2 Bs Bn W wr) (fun _ _ => 0)
  case atStart => exact ⟨rfl, h0, Keep2.refl _ _ _⟩
  case round =>
    obtain ⟨rfl, hJs, hnx⟩ := hrel
    have hc1 := hnx.cell1.trans hBs
    have hc2 := hnx.cell2.trans hBn
    gi_wp2
    go_end0
    exact ⟨⟨_, rfl⟩, hJs⟩

theorem grown_drew (W : World) : W.grownBy W.drew none := by
  have h := World.grownBy.refl W none
  exact { h with }
/-- What the loop over the pieces may lean on. -/
theorem chunk_stops (F : Fence) (n : Nat) (h7 : F.fn 152) (hro : F.round = none) (hn : 1 ≤ n) (Bs Bn : Nat) (ad : Addr) (len cap : Nat) (hlen : len ≤ 1048576) (hcap : len ≤ cap) (hcm : cap ≤ maxLen) (w : World)
    (h1 : Bs < w.heap.size) (h2 : Bn < w.heap.size) (hBs : w.cell? ⟨Bs, 0, none⟩ = some (.slice (some ad) len cap)) (hBn : w.cell? ⟨Bn, 0, none⟩ = some (.int .i64 3)) :
    SeqStopsK F n Tryd.prog 152 #[.pointer (some ⟨Bs, 0, none⟩), .pointer (some ⟨Bn, 0, none⟩)] (fun x : { j : Nat // 3 * j < len } => #[piece ad len x.1]) (Keep2 Bs Bn) (fun ys => ys.map (·.1) = List.range ((len + 2) / 3)) (fun _ => True) (len + 1) w := by
  intro l J Jx W hW hJ hJx hY h0
  have hc1 := (hW.cell (p := ⟨Bs, 0, none⟩) h1).trans hBs
  have hc2 := (hW.cell (p := ⟨Bn, 0, none⟩) h2).trans hBn
  refine (chunk1_in F n h7 hro hn l Bs Bn ad len cap hlen hcap hcm J Jx hY W hc1 hc2 (fun pre W h => hJ pre W W.drew none h (grown_drew W) (fun r e => by cases e)) h0).mono ?_
  rintro e W' ⟨he, ⟨ys, hy, hj⟩ | ⟨pre, hj⟩⟩
  · exact ⟨he, .inl ⟨ys, hy, hj⟩⟩
  · exact ⟨he, .inr ⟨pre, trivial, hj⟩⟩
theorem chunk_stops_nil (F : Fence) (n : Nat) (h7 : F.fn 152) (hro : F.round = none) (Bs Bn : Nat) (ad : Addr) (w : World)
    (h1 : Bs < w.heap.size) (h2 : Bn < w.heap.size) (hBs : w.cell? ⟨Bs, 0, none⟩ = some (.slice none 0 0)) (hBn : w.cell? ⟨Bn, 0, none⟩ = some (.int .i64 3)) :
    SeqStopsK F n Tryd.prog 152 #[.pointer (some ⟨Bs, 0, none⟩), .pointer (some ⟨Bn, 0, none⟩)] (fun x : { j : Nat // 3 * j < 0 } => #[piece ad 0 x.1]) (Keep2 Bs Bn) (fun ys => ys.map (·.1) = List.range ((0 + 2) / 3)) (fun _ => True) (0 + 1) w := by
  intro l J Jx W hW hJ hJx hY h0
  have hc1 := (hW.cell (p := ⟨Bs, 0, none⟩) h1).trans hBs
  have hc2 := (hW.cell (p := ⟨Bn, 0, none⟩) h2).trans hBn
  refine (chunk1_nil F n h7 hro l Bs Bn (J []) W hc1 hc2 h0).mono ?_
  rintro e W' ⟨he, hj⟩
  exact ⟨he, .inl ⟨[], rfl, hj⟩⟩

set_option maxHeartbeats 1000000 in
/-- slices.Chunk(b, 3): both are boxed; the function value has the boxes. -/
theorem chunk_in (F : Fence) (n : Nat) (h5 : F.fn 119) (hro : F.round = none) (a : Option Addr) (len cap : Nat) (w : World) :
    CallsIn F n Tryd.prog 119 #[.slice a len cap, .int .i64 3] w fun e w' => e = .returned (.func (.func 152) #[] #[.pointer (some ⟨w.heap.size, 0, none⟩), .pointer (some ⟨w.heap.size + 1, 0, none⟩)]) ∧ w' = (w.alloc (.cells #[.slice a len cap] 24)).alloc (.cells #[.int .i64 3] 3) := by
  refine callsIn_of_wp Tryd.func119 rfl h5 ?_ hro
  simp only [Tryd.ntmps119, List.size_toArray, List.length_cons, List.length_nil, Nat.reduceAdd, Nat.reduceSub, Array.replicate_succ, Array.replicate_zero, List.push_toArray, List.append_toArray, List.nil_append, List.cons_append]
  gi_wp2
  go_ret
  exact ⟨rfl, rfl⟩
end Go.Proofs.YtfefcfjedlidnaaDoor.Chk
