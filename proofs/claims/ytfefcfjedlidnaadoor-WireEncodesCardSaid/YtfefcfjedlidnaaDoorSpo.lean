/- The law package's spoil (layer 8). -/
import Derived.Test.YtfefcfjedlidnaaDoorPut
namespace Go.Proofs.YtfefcfjedlidnaaDoor.Wir
open Go Go.RowKit Go.Proofs.YtfefcfjedlidnaaDoor.Cop Go.Proofs.YtfefcfjedlidnaaDoor.Oct
set_option linter.unusedVariables false
set_option linter.unusedSimpArgs false
/-- Each byte one up. -/
def up (l : List UInt8) : List UInt8 := l.map (· + 1)
/-- k of them are done. -/
def upTo (l : List UInt8) (k : Nat) : List UInt8 := up (l.take k) ++ l.drop k
theorem upTo_length (l : List UInt8) (k : Nat) : (upTo l k).length = l.length := by simp [upTo, up]; omega
theorem upTo_at (l : List UInt8) (k : Nat) (hk : k < l.length) : (upTo l k)[k]'(by rw [upTo_length]; exact hk) = l[k] := by
  unfold upTo
  rw [List.getElem_append_right (by simp [up]; omega)]
  simp [up]
  congr 1; omega
theorem upTo_set (l : List UInt8) (k : Nat) (hk : k < l.length) : (upTo l k).set k (l[k] + 1) = upTo l (k + 1) := by
  unfold upTo up
  have h1 : (List.map (· + 1) (l.take k)).length = k := by simp; omega
  rw [List.set_append_right _ _ (by omega), h1, Nat.sub_self, List.drop_eq_getElem_cons hk, List.set_cons_zero, take_snoc l k hk, List.map_append]
  simp

theorem up_byte (b : UInt8) : IntKind.u8.wrap ((b.toNat : Int) + 1) = ((b + 1).toNat : Int) := by
  rw [IntKind.wrap_u8, UInt8.toNat_add]
  have : (1 : UInt8).toNat = 1 := rfl
  rw [this]; omega

/-- What spoil leaves. -/
def Spoiled (base : Nat) (v : Value) (bs : List UInt8) (w : World) (e : Ending) (w' : World) : Prop := e = .returned (.tuple #[]) ∧ Own base w' v (up bs) ∧ w.grownBy w' v.ownBlock

set_option maxRecDepth 100000 in
theorem spoil_calls (base : Nat) (v : Value) (bs : List UInt8) (w : World) (h : Own base w v bs) : Calls Tryd.prog 53 #[v] w (Spoiled base v bs w) := by
  rcases own_block h with ⟨rfl, rfl⟩ | ⟨g, cap, spare, rfl, hg, hk, hc, hm⟩
  · go_enter Tryd.func53, Tryd.ntmps53
    go_wp2
    refine wp_loop_rounds 1 ?_
    rw [rounds_succ]
    go_wp2
    go_end0
    exact ⟨rfl, Own.nil _ _, World.grownBy.refl _ _⟩
  · have hs := h.rd.small
    go_enter Tryd.func53, Tryd.ntmps53
    go_wp2_with fail
    go_loopw [2] (fun i wr => ∃ k : Nat, k ≤ bs.length ∧ i = .int .i64 (k : Int) ∧ Blk wr g 5 (bcs (upTo bs k) ++ spare) ∧ w.grownBy wr (some g)) (fun i _ => bs.length - (intOf i).toNat)
    case atStart => exact ⟨0, Nat.zero_le _, rfl, by simpa [upTo, up] using hk, World.grownBy.refl _ _⟩
    case round =>
      obtain ⟨k, hkk, rfl, hkb, hgr⟩ := hrel
      by_cases hlt : k < bs.length
      · have hrd : Oct.Rd wr (.slice (some ⟨g, 0, none⟩) (upTo bs k).length cap) (upTo bs k) := (own_of_block (base := base) hkb hg (by rw [upTo_length]; exact hc) hm).rd
        have hj : k < (upTo bs k).length := by rw [upTo_length]; exact hlt
        have hat := upTo_at bs k hlt
        have hup := up_byte bs[k]
        have hset : (bcs (upTo bs k) ++ spare).set k (u8c (bs[k] + 1)) = bcs (upTo bs (k + 1)) ++ spare := by
          rw [List.set_append_left _ _ (by rw [bcs_length]; exact hj), ← upTo_set bs k hlt]
          unfold bcs; rw [List.map_set]
        have hll : k < (bcs (upTo bs k) ++ spare).length := by rw [List.length_append, bcs_length]; omega
        have HAT := Lib.hid hat
        have HUP := Lib.hid hup
        have HSET := Lib.hid hset
        have hbl : (upTo bs k).length = bs.length := upTo_length _ _
        rw [hbl] at hrd
        have HJ := Lib.hid hj
        clear hat hup hset hbl hj
        go_wp2_with (first | (((with_reducible refine gate_dst (N := 13) rfl ?_); go_loud (refine wp_getB rfl (fun _ => rfl) _ _ 13 rfl rfl rfl hrd rfl rfl (fun _ => rfl) (k) (by rfl) (by exact HJ.out) ?_); intro _); rw [HAT.out]) | (((with_reducible refine gate_store (t := 5) (p := 16) rfl ?_); go_loud (refine wp_store_cell rfl 5 _ _ rfl rfl size8 rfl hkb hll (v := .int .u8 (IntKind.u8.wrap ((bs[k].toNat : Int) + 1))) rfl rfl rfl ?_); intro w3 hk3 hg3)))
        rw [HUP.out, HSET.out] at hk3
        go_roundw
        case rel => exact ⟨k + 1, by omega, by go_num, hk3, World.grownBy.trans hgr hg3⟩
        case measure => simp [intOf]; omega
      · have hkk2 : k = bs.length := by omega
        subst hkk2
        go_wp2
        go_end0
        have hup : upTo bs bs.length = up bs := by simp [upTo, up]
        rw [hup] at hkb
        have hul : (up bs).length = bs.length := by simp [up]
        have hown := own_of_block (base := base) hkb hg (by rw [hul]; exact hc) hm
        rw [hul] at hown
        exact ⟨rfl, hown, hgr⟩
end Go.Proofs.YtfefcfjedlidnaaDoor.Wir
