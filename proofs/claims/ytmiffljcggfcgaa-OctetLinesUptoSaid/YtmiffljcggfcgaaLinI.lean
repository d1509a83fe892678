/- octet.Lines: the iterator's contract. -/
import Derived.RangeFuncNested
import Derived.RangeFuncBound
import Derived.RangeFuncCalls
import Derived.RangeFuncLeaves
import Derived.Shelf.Abstract
import Derived.WalkKit
import Derived.OwnWalkIn
import Derived.TacticsInMore
import Derived.LoopNIn
import Derived.LoopIn
import Derived.BigRegionIn
import Derived.Test.YtmiffljcggfcgaaLinP
import Derived.Test.YtmiffljcggfcgaaIn
namespace Go.Proofs.Ytmiffljcggfcgaa.Lin
open Go Go.RowKit Go.Shelf Go.Proofs.Ytmiffljcggfcgaa.Cop Go.Proofs.Ytmiffljcggfcgaa.Oct Go.Proofs.Ytmiffljcggfcgaa.Hex
set_option linter.unusedVariables false
set_option linter.unusedSimpArgs false

/-- Lines with their numbers, from k on. -/
def enumL : Nat → List (List UInt8) → List (Nat × List UInt8)
  | _, [] => []
  | k, a :: r => (k, a) :: enumL (k + 1) r
theorem enumL_length : ∀ (k : Nat) (L : List (List UInt8)), (enumL k L).length = L.length
  | _, [] => rfl
  | k, a :: r => by simp [enumL, enumL_length (k + 1) r]
theorem enumL_at : ∀ (L : List (List UInt8)) (k j : Nat) , (enumL k L)[j]? = (L[j]?).map (fun a => (k + j, a))
  | [], k, j => by simp [enumL]
  | a :: r, k, 0 => by simp [enumL]
  | a :: r, k, j + 1 => by
    simp only [enumL, List.getElem?_cons_succ]
    rw [enumL_at r (k + 1) j]
    congr 1
    funext b
    congr 1
    omega
theorem cut_nl (s : ByteArray) (w : World) (hs : s.size ≤ 9223372036854775806) :
    Calls Try.prog 70 #[.string s, .string ⟨#[10]⟩] w fun e w' => e = .returned (.tuple #[.string (str (head s.data.toList)), .string (str (behind s.data.toList)), .bool (found s.data.toList)]) ∧ ∃ n, w' = w.drewN n := by
  have hi := scut s w hs
  go_enter Try.func70, Try.ntmps70
  go_wp2_with fail
  refine hi.mono ?_
  rintro e w' ⟨rfl, n, rfl⟩
  go_wp2_with fail
  go_ret3
  exact ⟨rfl, n, rfl⟩
theorem lines_calls (s : ByteArray) (w : World) :
    Calls Try.prog 48 #[.string s] w fun e w' => e = .returned (.func (.func 69) #[] #[.pointer (some ⟨w.heap.size, 0, none⟩)]) ∧ w' = w.alloc (.cells #[.string s] 9) := by
  go_enter Try.func48, Try.ntmps48
  go_wp2_with fail
  go_ret
  exact ⟨rfl, rfl⟩

/-- One block stands as it stood. -/
def Keep1 (x : Nat) (A B : World) : Prop := B.heap[x]? = A.heap[x]?
theorem Keep1.cell {x : Nat} {A B : World} (h : Keep1 x A B) : B.cell? ⟨x, 0, none⟩ = A.cell? ⟨x, 0, none⟩ := World.cell?_of_block (w := A) h
def encL (x : Nat × List UInt8) : Array Value := #[.int .i64 (x.1 : Int), .string (str x.2)]

set_option maxRecDepth 100000 in
set_option maxHeartbeats 2000000 in
theorem lines1_in (l Bs : Nat) (s : List UInt8) (hlen : s.length ≤ 1048576) (J Jx : List (Nat × List UInt8) → World → Prop)
    (hY : ∀ pre x W, J pre W → pre.length < s.length + 1 → YieldAt Fence.wide (2 - 1) Try.prog l (encL x) W fun e W' =>
      (e = .returned (.bool true) ∧ J (pre ++ [x]) W' ∧ Keep1 Bs W W') ∨ (e = .returned (.bool false) ∧ Jx (pre ++ [x]) W'))
    (W : World) (hBs : W.cell? ⟨Bs, 0, none⟩ = some (.string (str s))) (hJd : ∀ pre W n, J pre W → J pre (W.drewN n)) (h0 : J [] W) :
    CallsIn Fence.wide 2 Try.prog 69 #[.func (.yield l) #[] #[], .pointer (some ⟨Bs, 0, none⟩)] W fun e W' => (∃ v, e = .returned v) ∧
      ((∃ ys : List (Nat × List UInt8), ys = enumL 0 (lines s) ∧ J ys W') ∨ (∃ pre, (∃ t, pre ++ t = enumL 0 (lines s)) ∧ Jx pre W')) := by
  refine callsIn_of_wp Try.func69 rfl trivial ?_ rfl
  simp only [Try.ntmps69, List.size_toArray, List.length_cons, List.length_nil, Nat.reduceAdd, Nat.reduceSub, Array.replicate_succ, Array.replicate_zero, List.push_toArray, List.append_toArray, List.nil_append, List.cons_append]
  gi_wp2
  gi_loopw [3, 4] (fun u i wr => ∃ (k : Nat) (b : ByteArray) (r : List UInt8) (ys : List (Nat × List UInt8)), k + r.length ≤ s.length ∧ u = .string b ∧ b = str r ∧ i = .int .i64 (k : Int) ∧ ys.length = k ∧ Hid (ys ++ enumL k (lines r) = enumL 0 (lines s)) ∧ J ys wr)
    (fun u _ _ => match u with | .string b => b.size | _ => 0)
  case atStart => exact ⟨0, _, s, [], by omega, rfl, rfl, rfl, rfl, Lib.hid rfl, h0⟩
  case round =>
    obtain ⟨k, b, r, ys, hk, rfl, hb, rfl, hyl, HY, hJs⟩ := hrel
    by_cases hr : r = []
    · have d1 : decide (b = (⟨#[]⟩ : ByteArray)) = !false := by rw [hb, hr]; rfl
      gi_wp2_with ((with_reducible refine gateI (N := 10) rfl ?_); go_loud (refine wpI_neq_str (fun _ => trivial) rfl _ _ _ _ rfl rfl rfl (d1) ?_))
      go_end0
      refine ⟨⟨_, rfl⟩, .inl ⟨ys, ?_, hJs⟩⟩
      have := HY.out
      rw [hr] at this
      simpa [lines, lin, enumL] using this
    · have hbs : b.size = r.length := by rw [hb]; rfl
      have hbd : b.data.toList = r := by rw [hb]; rfl
      have d1 : decide (b = (⟨#[]⟩ : ByteArray)) = !true := by
        refine decide_eq_false (fun e => hr ?_)
        rw [← hbd, e]
      have hcut := cut_nl b wr (by omega)
      rw [hbd] at hcut
      have HC := Lib.hid hcut
      have hlh := lines_head r hr
      have hbl := behind_lt r hr
      have hJk : ∀ n, J ys (wr.drewN n) := fun n => hJd _ _ n hJs
      have HLH := Lib.hid hlh
      have HBL := Lib.hid hbl
      have HJK := Lib.hid hJk
      clear hcut hb hbd hlh hbl hJk
      gi_wp2_with (first | ((with_reducible refine gateI (N := 10) rfl ?_); go_loud (refine wpI_neq_str (fun _ => trivial) rfl _ _ _ _ rfl rfl rfl (d1) ?_)) | (refine ⟨trivial, ?_⟩; gi_at_call 70; refine (callsIn_wide.2 HC.out).mono ?_; rintro e w' ⟨rfl, nd, rfl⟩; obtain ⟨wd, hwd⟩ : ∃ wd, wr.drewN nd = wd := ⟨_, rfl⟩; have hJ2 := HJK.out nd; rw [hwd] at hJ2 ⊢; obtain ⟨fn, tmps, assign, body, hy, hR⟩ := hY ys (k, head r) wd hJ2 (by omega); dsimp only [encL] at hy))
      refine hR.mono ?_
      rintro e W3 (⟨rfl, hJ3, hk3⟩ | ⟨rfl, hJx3⟩)
      · gi_wp2
        go_roundw
        case rel =>
          refine ⟨k + 1, _, behind r, ys ++ [(k, head r)], by have := HBL.out; omega, rfl, rfl, by first | rfl | go_num, by simp [hyl], Lib.hid ?_, hJ3⟩
          have := HY.out
          rw [HLH.out] at this
          simpa [enumL] using this
        case measure =>
          have := HBL.out
          show (str (behind r)).size < b.size
          rw [hbs]; exact this
      · gi_wp2
        refine bodyPost_ret (results_none rfl _ _ _) rfl ?_
        refine ⟨⟨_, rfl⟩, .inr ⟨_, ⟨enumL (k + 1) (lines (behind r)), ?_⟩, hJx3⟩⟩
        have := HY.out
        rw [HLH.out] at this
        simpa [enumL] using this

/-- What the loop over the lines may lean on. -/
theorem lines_stops (Bs : Nat) (s : List UInt8) (hlen : s.length ≤ 1048576) (w : World) (h1 : Bs < w.heap.size) (hBs : w.cell? ⟨Bs, 0, none⟩ = some (.string (str s))) :
    SeqStopsK Fence.wide 2 Try.prog 69 #[.pointer (some ⟨Bs, 0, none⟩)] encL (Keep1 Bs) (fun ys => ys = enumL 0 (lines s)) (fun pre => ∃ t, pre ++ t = enumL 0 (lines s)) (s.length + 1) w := by
  intro l J Jx W hW hJ hJx hY h0
  have hc1 := (hW.cell (p := ⟨Bs, 0, none⟩) h1).trans hBs
  exact lines1_in l Bs s hlen J Jx hY W hc1 (fun pre W n h => hJ pre W (W.drewN n) none h ⟨rfl, rfl, rfl, Nat.le_refl _, fun _ _ _ => rfl⟩ (fun r e => by cases e)) h0
end Go.Proofs.Ytmiffljcggfcgaa.Lin
