/- The reference's Lines: its contract. -/
import Derived.Test.YtmiffljcggfcgaaLinP
namespace Go.Proofs.Ytmiffljcggfcgaa.Lin
open Go Go.RowKit Go.Proofs.Ytmiffljcggfcgaa.Cop Go.Proofs.Ytmiffljcggfcgaa.Oct Go.Proofs.Ytmiffljcggfcgaa.Hex
set_option linter.unusedVariables false
set_option linter.unusedSimpArgs false

theorem info9 : (Try.prog.info? 9).map (fun i => (i.zero, i.size, i.bytes)) = some (some (.string ⟨#[]⟩), 1, 16) := by kernel_rfl
theorem size9 : (Try.prog.info? 9).map (fun i => i.size) = some 1 := by kernel_rfl
theorem agg9 (w : World) : (isAgg 9).run Try.prog w = .ok false w := by kernel_rfl
/-- Texts as cells. -/
def scs (L : List (List UInt8)) : List Value := L.map fun l => .string (str l)
theorem scs_length (L : List (List UInt8)) : (scs L).length = L.length := by simp [scs]
theorem scs_append (L M : List (List UInt8)) : scs (L ++ M) = scs L ++ scs M := by simp [scs]
def OwnS (base : Nat) (w : World) (v : Value) (L : List (List UInt8)) : Prop := w.ownsRow base 9 1 v L.length (scs L)
theorem OwnS.nil (base : Nat) (w : World) : OwnS base w (.slice none 0 0) [] := World.ownsRow_nil _ _ _ _

theorem take_more (l : List UInt8) (f p : Nat) (hf : f ≤ p) (hp : p < l.length) : (l.drop f).take (p + 1 - f) = (l.drop f).take (p - f) ++ [l[p]] := by
  rw [show p + 1 - f = p - f + 1 from by omega, List.take_succ_eq_append_getElem (by rw [List.length_drop]; omega)]
  congr 2
  rw [List.getElem_drop]
  congr 1
  omega

set_option maxHeartbeats 2000000 in
set_option maxRecDepth 100000 in
theorem rlines_calls (s : ByteArray) (w : World) (hs : s.size ≤ 1048576) :
    Calls Try.prog 47 #[.string s] w fun e w' => ∃ v, e = .returned v ∧ OwnS w.heap.size w' v (lines s.data.toList) ∧ Below w.heap.size w w' := by
  obtain ⟨l, hl⟩ : ∃ l, l = s.data.toList := ⟨_, rfl⟩
  have hls : l.length = s.size := by rw [hl]; rfl
  rw [← hl]
  go_enter Try.func47, Try.ntmps47
  go_wp2_with fail
  go_loopw [3, 4, 5] (fun u x i wr => ∃ (p f : Nat) (O : List (List UInt8)), f ≤ p ∧ p ≤ s.size ∧ x = .int .i64 (f : Int) ∧ i = .int .i64 (p : Int) ∧ OwnS w.heap.size wr u O ∧ Hid (O ++ lin ((l.drop f).take (p - f)) (l.drop p) = lines l) ∧ O.length ≤ p ∧ Below w.heap.size w wr) (fun _ _ i _ => s.size - (intOf i).toNat)
  case atStart => exact ⟨0, 0, [], by omega, by omega, rfl, rfl, OwnS.nil _ _, Lib.hid (by simp [lines]), by simp, Below.refl _ _⟩
  case round =>
    obtain ⟨p, f, O, hf, hp, rfl, rfl, hown, HO, hol, hbel⟩ := hrel
    by_cases hlt : p < s.size
    · have d1 : decide ((p : Int) < (s.size : Int)) = true := decide_eq_true (by omega)
      have d2 : (p : Int) < (s.size : Int) := by omega
      have hpl : p < l.length := by omega
      have hb : s[p] = l[p] := by rw [bget s p hlt]; congr 1; exact hl.symm
      have hdr : l.drop p = l[p] :: l.drop (p + 1) := List.drop_eq_getElem_cons hpl
      have htm := take_more l f p hf hpl
      by_cases h10 : s[p] = 10
      · have d3 : ((s[p].toNat : Int) == 10) = true := by rw [h10]; rfl
        have HN : Hid (O ++ [(l.drop f).take (p - f)] ++ lin ((l.drop (p + 1)).take (p + 1 - (p + 1))) (l.drop (p + 1)) = lines l) := by
          have := HO.out
          rw [hdr, lin, if_pos (by rw [← hb]; exact h10)] at this
          show _ = _
          rw [← this]
          simp
        have e1 := ext_str s f p
        rw [← hl] at e1
        have E1 := Lib.hid e1
        have i1 : (f : Int) ≤ (p : Int) := by omega
        have i2 : (p : Int) ≤ (s.size : Int) := by omega
        clear e1 hdr htm hb
        go_wp2_with ((with_reducible refine gate_dst (N := 22) rfl ?_); rw [E1.out]; (refine wp_append rfl (.tmp 16) (.tmp 21) 85 9 rfl Try.underlying85 info9 rfl (by decide) (base := w.heap.size) (n := O.length) (xs := scs O) rfl (World.ownsRow.alloc hown _) rfl (Row.one _ _ _) rfl (one_one rfl) (by unfold maxLen; omega) (by omega) (by have := hbel.size; simp; omega) ?_); intro v' w3 hown2 hgrow2)
        have hbel2 : Below w.heap.size w w3 := (hbel.alloc hbel.size _).grown hgrow2 (by have := hbel.size; simp; omega) (fun j hj => (World.ownsRow.lt hown j hj).1)
        have hown3 : OwnS w.heap.size w3 v' (O ++ [(l.drop f).take (p - f)]) := by
          unfold OwnS
          rw [List.length_append, scs_append]
          exact hown2
        clear hown2 hgrow2 hown
        go_wp2_with fail
        go_roundw
        case rel => exact ⟨p + 1, p + 1, _, by omega, by omega, by first | rfl | go_num, by go_num, hown3, HN, by simp; omega, hbel2⟩
        case measure => simp [intOf]; omega
      · have d3 : ((s[p].toNat : Int) == 10) = false := by
          have : s[p].toNat ≠ 10 := fun e => h10 (UInt8.toNat_inj.1 e)
          simp; omega
        have HN : Hid (O ++ lin ((l.drop f).take (p + 1 - f)) (l.drop (p + 1)) = lines l) := by
          have := HO.out
          rw [hdr, lin, if_neg (by rw [← hb]; exact h10), ← htm] at this
          exact this
        clear hdr htm hb
        go_wp2_with fail
        go_roundw
        case rel => exact ⟨p + 1, f, O, by omega, by omega, rfl, by go_num, hown, HN, by omega, hbel⟩
        case measure => simp [intOf]; omega
    · have d1 : decide ((p : Int) < (s.size : Int)) = false := decide_eq_false (by omega)
      obtain rfl : p = s.size := by omega
      have hdl : l.drop s.size = [] := List.drop_of_length_le (by omega)
      have htl : (l.drop f).take (s.size - f) = l.drop f := List.take_of_length_le (by rw [List.length_drop]; omega)
      have hend := HO.out
      rw [hdl, htl] at hend
      by_cases hfl : f < s.size
      · have d2 : decide ((f : Int) < (s.size : Int)) = true := decide_eq_true (by omega)
        have hne : l.drop f ≠ [] := by
          intro e
          have := congrArg List.length e
          rw [List.length_drop] at this
          simp at this; omega
        rw [lin, if_neg hne] at hend
        have e1 := ext_drop s f
        rw [← hl] at e1
        have E1 := Lib.hid e1
        have HE := Lib.hid hend
        have i1 : (f : Int) ≤ (s.size : Int) := by omega
        clear e1 hend hdl htl hne
        go_wp2_with ((with_reducible refine gate_dst (N := 34) rfl ?_); rw [E1.out]; (refine wp_append rfl (.tmp 29) (.tmp 33) 85 9 rfl Try.underlying85 info9 rfl (by decide) (base := w.heap.size) (n := O.length) (xs := scs O) rfl (World.ownsRow.alloc hown _) rfl (Row.one _ _ _) rfl (one_one rfl) (by unfold maxLen; omega) (by omega) (by have := hbel.size; simp; omega) ?_); intro v' w3 hown2 hgrow2)
        have hbel2 : Below w.heap.size w w3 := (hbel.alloc hbel.size _).grown hgrow2 (by have := hbel.size; simp; omega) (fun j hj => (World.ownsRow.lt hown j hj).1)
        have hown3 : OwnS w.heap.size w3 v' (lines l) := by
          rw [← HE.out]
          unfold OwnS
          rw [List.length_append, scs_append]
          exact hown2
        clear hown2 hgrow2 hown
        go_wp2_with fail
        go_ret
        exact ⟨_, rfl, hown3, hbel2⟩
      · have d2 : decide ((f : Int) < (s.size : Int)) = false := decide_eq_false (by omega)
        have hnil : l.drop f = [] := List.drop_of_length_le (by omega)
        rw [hnil, lin, if_pos rfl, List.append_nil] at hend
        subst hend
        clear hdl htl hnil
        go_wp2_with fail
        go_ret
        exact ⟨_, rfl, hown, hbel⟩
end Go.Proofs.Ytmiffljcggfcgaa.Lin
