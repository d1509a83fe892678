/- The law NoteDigests: its walk. -/
import Derived.Test.YtfefcfjedlidnaaDoorShaA
namespace Go.Proofs.YtfefcfjedlidnaaDoor.Sha
open Go Go.RowKit Go.Proofs.YtfefcfjedlidnaaDoor.Cop Go.Proofs.YtfefcfjedlidnaaDoor.Oct
set_option linter.unusedVariables false
set_option linter.unusedSimpArgs false
section
variable {ops : Array Oper} {rest : List Oper} {o : Oper} {a : Act} {Q : Exit → Act → World → Prop} {w : World}
/-- append(b, s...). -/
theorem wp_appS (hg : o.guard = none) (s x : Operand) (ho : o.op = .call { callee := .builtin .append, args := #[s, x], argTypes := #[24, 9] })
    {base : Nat} {v : Value} {xs : List UInt8} (hown : Own base w v xs) (hs : a.eval s = v) {y : ByteArray} (hx : a.eval x = .string y) (hl : xs.length + y.size ≤ 140737488355328) (hbase : base ≤ w.heap.size)
    (h : ∀ v' w', Own base w' v' (xs ++ y.data.toList) → w.grownBy w' v.ownBlock → wpList Tryd.prog ops Q rest (a.put o.dst v') w') : wpList Tryd.prog ops Q (o :: rest) a w := by
  obtain ⟨i, hi, hz, hi1, hi2⟩ := info_parts info8
  refine Lib.wpList_append_own_string w hg s x 24 9 ho base 5 i Tryd.underlying24 Tryd.underlying9 hi hz hi1 hi2 v xs.length (bcs xs) hs hown y hx (by unfold maxLen; omega) hl hbase (fun v' w' h1 h2 _ => h v' w' ?_ h2)
  unfold Own
  rw [List.length_append, bcs_append]
  exact h1
end
/-- What a signer signs: the bytes. -/
def signB (text name : ByteArray) (key : Nat) : List UInt8 := (([4] ++ be (name.size % 65536) 2) ++ name.data.toList ++ be key 4) ++ text.data.toList
theorem str_len (s : ByteArray) : s.data.toList.length = s.size := by cases s; simp [ByteArray.size]
theorem signB_len (text name : ByteArray) (key : Nat) : (signB text name key).length = 7 + name.size + text.size := by
  unfold signB
  simp only [List.length_append, be_length, str_len, List.length_cons, List.length_nil]
  omega
theorem ret_own' {w w' : World} {n : Nat} {bs : List UInt8} {e : Ending} (hr : RetRow 5 1 n (bcs bs) w e w') (hn : n = bs.length) : ∃ v, e = .returned v ∧ Own w.heap.size w' v bs ∧ Below w.heap.size w w' := by
  obtain ⟨v, h1, h2, h3⟩ := hr
  subst hn
  exact ⟨v, h1, h2, h3⟩
set_option maxRecDepth 100000 in
set_option maxHeartbeats 1000000 in
theorem ndig_calls (text name : ByteArray) (key : Nat) (w : World) (ht : text.size ≤ 1048576) (hnm : name.size ≤ 1048576) (hk : key < 4294967296) (hK : Kon w) :
    Calls Tryd.prog 33 #[.string text, .string name, .int .u32 (key : Int)] w fun e w' => e = .returned (dg (sha (signB text name key))) ∧ Below w.heap.size w w' := by
  have hsl := sha_len (signB text name key)
  have hmsg : (([4] ++ be (name.size % 65536) 2) ++ name.data.toList ++ be key 4) ++ text.data.toList = signB text name key := rfl
  have hml := signB_len text name key
  have hsum : ∀ v w, Rd w v (signB text name key) → Inn w v → Kon w → Calls Tryd.prog 82 #[v] w fun e w' => e = .returned (dg (sha (signB text name key))) ∧ Below w.heap.size w w' := fun v w h1 h2 h3 => hsum_calls v _ w h1 h2 (by omega) h3
  obtain ⟨msg, hm⟩ : ∃ m, signB text name key = m := ⟨_, rfl⟩
  rw [hm] at hsl hmsg hml hsum ⊢
  obtain ⟨out, hout⟩ : ∃ o, sha msg = o := ⟨_, rfl⟩
  rw [hout] at hsl hsum ⊢
  have HSL := Lib.hid hsl
  have HMSG := Lib.hid hmsg
  have HSUM := Lib.hid hsum
  have HK := Lib.hid hK
  have hnl := str_len name
  have HNL := Lib.hid hnl
  have e16 : IntKind.u16.wrap (name.size : Int) = ((name.size % 65536 : Nat) : Int) := by rw [IntKind.wrap_u16]; omega
  have e16' : (name.size : Int) % 65536 = ((name.size % 65536 : Nat) : Int) := by omega
  obtain ⟨n16, hn16⟩ : ∃ n, name.size % 65536 = n := ⟨_, rfl⟩
  have hn16b : n16 < 65536 := by omega
  rw [hn16] at e16 e16'
  have HN16 := Lib.hid hn16
  clear hsl hmsg hml hm hout hsum hK hnl hn16
  go_enter Tryd.func33, Tryd.ntmps33
  go_wp2_with (((with_reducible refine gate_dst (N := 6) rfl ?_); go_loud (refine wp_alloc rfl _ rfl zeroD ?_); intro w1 hk1 hb1 hz1))
  have hown1 : Own w1.heap.size (w1.alloc (.cells #[.int .u8 4] 5)) (.slice (some ⟨w1.heap.size, 0, none⟩) 1 1) [4] := own_of_blk (Blk.new w1 (bcs [4]) 5) (Nat.le_refl _) rfl (by unfold maxLen; omega)
  have HK1 := Lib.hid hk1
  clear hk1
  refine (put16 (.slice (some ⟨w1.heap.size, 0, none⟩) 1 1) [4] n16 _ ⟨hown1.rd, by simp⟩ hn16b).mono ?_
  intro e w2 hq
  obtain ⟨v2, rfl, hown2, hb2⟩ := ret_own' hq (by simp [be_length])
  clear hq hown1
  have z2 := hb2.size
  simp only [World.size_alloc] at z2 hown2
  have hbel2 : Below w.heap.size w w2 := (hb1.alloc hb1.size _).trans (hb2.mono (by simp; omega))
  have hr2 : Blk w2 w.heap.size 28 (dg dz).cells.toList := Blk.below (w := w1.alloc (.cells #[.int .u8 4] 5)) (HK1.out.below ((Below.refl _ _).alloc (Nat.le_refl _) _)) hb2
  go_wp2_with ((with_reducible refine gate_dst (N := 14) rfl ?_); go_loud (refine wp_appS rfl _ _ rfl hown2 rfl (y := name) rfl (by simp only [List.length_append, be_length, List.length_cons, List.length_nil]; omega) (by omega) ?_); intro v3 w3 hown3 hgrow3)
  have hbel3 : Below w.heap.size w w3 := hbel2.grown hgrow3 (by omega) (fun r e => by have := (World.ownsRow.lt hown2 r e).1; omega)
  have z3 := hgrow3.size
  have hr3 := hr2.grown hgrow3 (fun e => by have := (World.ownsRow.lt hown2 w.heap.size e.symm).1; omega)
  have hl3 : (([4] ++ be n16 2) ++ name.data.toList).length = 3 + name.size := by simp only [List.length_append, be_length, HNL.out, List.length_cons, List.length_nil]
  refine (put32 v3 _ key w3 ⟨hown3.rd, by rw [hl3]; omega⟩ hk).mono ?_
  intro e w4 hq
  obtain ⟨v4, rfl, hown4, hb4⟩ := ret_own' hq (by simp only [List.length_append, be_length])
  have hl4 : ((([4] ++ be n16 2) ++ name.data.toList) ++ be key 4).length = 7 + name.size := by rw [List.length_append, hl3, be_length]; omega
  have HL4 := Lib.hid hl4
  clear hq hown3 hl3 hl4 hown2 hgrow3
  have z4 := hb4.size
  have hr4 := hr3.below hb4
  have hbel4 : Below w.heap.size w w4 := hbel3.trans (hb4.mono (by omega))
  go_wp2_with ((with_reducible refine gate_dst (N := 19) rfl ?_); go_loud (refine wp_appS rfl _ _ rfl hown4 rfl (y := text) rfl (by rw [HL4.out]; omega) (by omega) ?_); intro v5 w5 hown5 hgrow5)
  have hbel5 : Below w.heap.size w w5 := hbel4.grown hgrow5 (by omega) (fun r e => by have := (World.ownsRow.lt hown4 r e).1; omega)
  have z5 := hgrow5.size
  rw [← HN16.out, HMSG.out] at hown5
  have hres5 := hr4.grown hgrow5 (fun e => by have := (World.ownsRow.lt hown4 w.heap.size e.symm).1; omega)
  refine (HSUM.out v5 w5 hown5.rd (Inn.own hown5) (HK.out.below hbel5)).mono ?_
  rintro e w6 ⟨rfl, hb6⟩
  have z6 := hb6.size
  have hres6 := hres5.below hb6
  go_wp2_with (((with_reducible refine gate_store (t := 28) (p := 6) rfl ?_); go_loud (refine wp_store_blk rfl 28 _ _ rfl rfl sizeD rfl hres6 (dz_cells) (v := dg out) rfl (dg_size HSL.out) (dg_one _) ?_); intro w7 hk7 hg7))
  have hk8 : Blk w7 w.heap.size 28 (bcs out) := by simpa [Value.cells] using hk7
  have hb7 : Below w.heap.size w w7 := (hbel5.trans (hb6.mono (by omega))).grown hg7 (by omega) (fun r e => by injection e with e; omega)
  clear hk7
  refine bodyPost_ret (results_blk1 (cs := bcs out) rfl aggD sizeD _ rfl hk8 (by rw [bcs_length]; exact HSL.out)) rfl ?_
  exact ⟨rfl, hb7⟩
end Go.Proofs.YtfefcfjedlidnaaDoor.Sha
