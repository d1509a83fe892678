/- tile.All's iterator: what a loop over it may lean on. -/
import Derived.Test.YtmiffljcggfcgaaAllJ1
import Derived.Test.YtmiffljcggfcgaaAllJ2
import Derived.Test.YtmiffljcggfcgaaAllJ3
import Derived.Test.YtmiffljcggfcgaaAllJ4
import Derived.Test.YtmiffljcggfcgaaAllJ5
import Derived.Test.YtmiffljcggfcgaaAllJ6
import Derived.Test.YtmiffljcggfcgaaAllJ7
import Derived.Test.YtmiffljcggfcgaaAllJ8
namespace Go.Proofs.Ytmiffljcggfcgaa.Til
open Go Go.RowKit Go.Shelf Go.Proofs.Ytmiffljcggfcgaa.Cop Go.Proofs.Ytmiffljcggfcgaa.Chk
set_option linter.unusedVariables false
set_option linter.unusedSimpArgs false
attribute [local go_sem] Oper.semAt_some

theorem grown_of_below {A B : World} (hb : Below A.heap.size A B) : A.grownBy B none := ⟨hb.1, hb.2, hb.3, hb.4, fun k hk _ => hb.5 k hk⟩
set_option maxRecDepth 100000 in
theorem all1_none (l Bh Bn : Nat) (h n : Int) (hn : -9223372036854775808 ≤ n ∧ n ≤ 9223372036854775807) (e0 : wr h n ≠ 0) (J : List (Nat × Nat) → World → Prop)
    (W : World) (hBh : W.cell? ⟨Bh, 0, none⟩ = some (.int .i64 h)) (hBn : W.cell? ⟨Bn, 0, none⟩ = some (.int .i64 n)) (hJb : ∀ pre A B, J pre A → Below A.heap.size A B → J pre B) (h0 : J [] W) :
    CallsIn Fence.wide 2 Try.prog 57 #[.func (.yield l) #[] #[], .pointer (some ⟨Bh, 0, none⟩), .pointer (some ⟨Bn, 0, none⟩)] W fun e W' => (∃ v, e = .returned v) ∧ J [] W' := by
  have hl := levels_calls h n W hn
  have e1 : lvo h n = 0 := by unfold lvo; rw [if_neg e0]
  rw [e1] at hl
  obtain ⟨x, hx⟩ : ∃ x, wr h n = x := ⟨_, rfl⟩
  rw [hx] at hl
  have HL := Lib.hid hl
  have HJB := Lib.hid hJb
  clear hl hx e1 e0 hJb
  refine callsIn_of_wp Try.func57 rfl trivial ?_ rfl
  simp only [Try.ntmps57, List.size_toArray, List.length_cons, List.length_nil, Nat.reduceAdd, Nat.reduceSub, Array.replicate_succ, Array.replicate_zero, List.push_toArray, List.append_toArray, List.nil_append, List.cons_append]
  gi_wp2_with (refine ⟨trivial, ?_⟩; gi_at_call 21; refine (callsIn_wide.2 HL.out).mono ?_; rintro e w1 ⟨rfl, hb1⟩)
  have hJ1 := HJB.out [] _ _ h0 hb1
  clear hb1 h0
  gi_loopw [16] (fun i wr => i = .int .i64 0 ∧ J [] wr) (fun _ _ => 0)
  case atStart => exact ⟨rfl, hJ1⟩
  case round =>
    obtain ⟨rfl, hJs⟩ := hrel
    gi_wp2_with fail
    go_end0
    exact ⟨⟨_, rfl⟩, hJs⟩

theorem all_stops (Bh Bn : Nat) (h n : Int) (hn : -9223372036854775808 ≤ n ∧ n ≤ 9223372036854775807) (w : World) (h1 : Bh < w.heap.size) (h2 : Bn < w.heap.size) (hBh : w.cell? ⟨Bh, 0, none⟩ = some (.int .i64 h)) (hBn : w.cell? ⟨Bn, 0, none⟩ = some (.int .i64 n)) :
    SeqStopsK Fence.wide 2 Try.prog 57 #[.pointer (some ⟨Bh, 0, none⟩), .pointer (some ⟨Bn, 0, none⟩)] (fun x : Nat × Nat => #[tileV h n.toNat x]) (Keep2 Bh Bn) (fun ys => ys = allT h n) (fun pre => ∃ t, pre ++ t = allT h n) ((allT h n).length + 1) w := by
  intro l J Jx W hW hJ hJx hY h0
  have hc1 := (hW.cell (p := ⟨Bh, 0, none⟩) h1).trans hBh
  have hc2 := (hW.cell (p := ⟨Bn, 0, none⟩) h2).trans hBn
  have hJb : ∀ pre A B, J pre A → Below A.heap.size A B → J pre B := fun pre A B hj hb => hJ pre A B none hj (grown_of_below hb) (fun r e => by cases e)
  by_cases e0 : wr h n = 0
  · obtain ⟨hh, h3, h4⟩ := wr_zero e0
    obtain ⟨m, rfl⟩ : ∃ m : Nat, n = (m : Int) := ⟨n.toNat, by omega⟩
    have hE : allT h (m : Int) = levL h m 0 := by unfold allT; rw [if_pos e0, Int.toNat_natCast]
    rw [hE] at hY ⊢
    rw [Int.toNat_natCast] at hY
    rcases ht_yes hh with rfl | rfl | rfl | rfl | rfl | rfl | rfl | rfl
    · exact all1_in_1 l Bh Bn m (by omega) J Jx hY W hc1 hc2 hJb h0
    · exact all1_in_2 l Bh Bn m (by omega) J Jx hY W hc1 hc2 hJb h0
    · exact all1_in_3 l Bh Bn m (by omega) J Jx hY W hc1 hc2 hJb h0
    · exact all1_in_4 l Bh Bn m (by omega) J Jx hY W hc1 hc2 hJb h0
    · exact all1_in_5 l Bh Bn m (by omega) J Jx hY W hc1 hc2 hJb h0
    · exact all1_in_6 l Bh Bn m (by omega) J Jx hY W hc1 hc2 hJb h0
    · exact all1_in_7 l Bh Bn m (by omega) J Jx hY W hc1 hc2 hJb h0
    · exact all1_in_8 l Bh Bn m (by omega) J Jx hY W hc1 hc2 hJb h0
  · have hE : allT h n = [] := by unfold allT; rw [if_neg e0]
    rw [hE]
    refine (all1_none l Bh Bn h n hn e0 J W hc1 hc2 hJb h0).mono ?_
    rintro e W' ⟨he, hj⟩
    exact ⟨he, .inl ⟨[], rfl, hj⟩⟩
end Go.Proofs.Ytmiffljcggfcgaa.Til
