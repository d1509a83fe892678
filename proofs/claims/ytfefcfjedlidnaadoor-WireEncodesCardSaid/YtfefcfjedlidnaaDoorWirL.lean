/- The law WireEncodes, walked: first the uniform contracts. -/
import Derived.Test.YtfefcfjedlidnaaDoorWirT
import Derived.Test.YtfefcfjedlidnaaDoorSame
import Derived.Test.YtfefcfjedlidnaaDoorSpo
namespace Go.Proofs.YtfefcfjedlidnaaDoor.Wir
open Go Go.RowKit Go.Proofs.YtfefcfjedlidnaaDoor.Cop Go.Proofs.YtfefcfjedlidnaaDoor.Ver Go.Proofs.YtfefcfjedlidnaaDoor.Oct Go.Proofs.YtfefcfjedlidnaaDoor.Dsl Go.Proofs.YtfefcfjedlidnaaDoor.Ito
set_option linter.unusedVariables false
set_option linter.unusedSimpArgs false
section
variable {P : Program} {ops : Array Oper} {o : Oper} {a : Act} {Q : Exit → Act → World → Prop} {w : World} {K : Act → World → Prop} {E : Prop}
/-- One step of an operation that is wanted. -/
theorem st_wrun (hw : Region.wanted o (yielded ops a.tmps) = true) {v : Value} {w' : World} (hr : (execOp a.eval o).run P w = .ok (.value v) w') (h : K (a.put o.dst v) w') : if Region.wanted o (yielded ops a.tmps) = true then Oper.wp P o a w K Q else E := by
  rw [if_pos hw]
  unfold Oper.wp
  rw [hr]
  exact h
/-- string(b). -/
theorem st_wstr (hw : Region.wanted o (yielded ops a.tmps) = true) (src dst e : TypeId) (x : Operand) (ho : o.op = .convert src dst x) (hs : P.underlying src = some (.slice e)) (he : P.underlying e = some (.int .u8)) (hd : P.underlying dst = some .string)
    {v : Value} {bs : List UInt8} (hx : a.eval x = v) (hr : Row w v bs.length (bcs bs)) (h : K (a.put o.dst (.string (str bs))) w) : if Region.wanted o (yielded ops a.tmps) = true then Oper.wp P o a w K Q else E := by
  obtain ⟨ao, cap, rfl, q1, q2, q3, q4⟩ := hr
  have hrun : (convert src dst (.slice ao bs.length cap)).run P w = .ok (.string (str bs)) w := by
    rw [run_convert_bytes_string w src dst e ao _ _ hs he hd]
    cases ao with
    | none =>
      obtain ⟨_, hb⟩ := q3 rfl
      have : bs = [] := by simpa [bcs] using hb
      subst this
      rfl
    | some ad =>
      have hl : (loadCells ad bs.length).run P w = .ok ((bs.map fun b => (b.toNat : Int)).map (Value.int .u8)).toArray w := by
        have := run_loadCells_list (P := P) w ad (bcs bs) (q4 ad rfl)
        rw [bcs_length] at this
        rw [this]
        simp [bcs, u8c, Function.comp_def]
      rw [run_bytesToString w ad bs.length cap _ hl, foldl_push_bytes]
      simp [str, Function.comp_def]
  refine st_wrun hw (v := .string (str bs)) (w' := w) ?_ h
  unfold execOp
  simp [ho, hx, hrun, Result.andThen]
/-- One text is not itself. -/
theorem st_wneqS (hw : Region.wanted o (yielded ops a.tmps) = true) (t t2 : TypeId) (x y : Operand) (ho : o.op = .binOp .neq t x y t2) {sx : ByteArray} (hx : a.eval x = .string sx) (hy : a.eval y = .string sx)
    (h : K (a.put o.dst (.bool false)) w) : if Region.wanted o (yielded ops a.tmps) = true then Oper.wp P o a w K Q else E := by
  refine st_wrun hw (v := .bool false) (w' := w) ?_ h
  unfold execOp
  simp only [ho, hx, hy, eqGuard_at_string, Sem.run_bind, Sem.run_pure, Result.andThen_ok]
  rw [show binOp .neq t (.string sx) (.string sx) = Op.stringOp .neq sx sx from rfl]
  simp [Op.stringOp, Result.andThen]
end
def frW (k f s : Int) (a0 a1 : Value) (g0 g1 : Nat) (xV yV zV : Value) (T : List UInt8) (E : Int) (u : Nat → Value) : Array Value := #[prV k f s a0, .pointer (some ⟨g0, 0, none⟩), .bool false, .pointer (some ⟨g1, 0, none⟩), xV, (.int .i64 E), yV, (.int .i64 E), zV, (.int .i64 E), (.string (str T)), (.int .i64 E), (.string (str T)), (.int .i64 E), .agg (prL k f s a0).toArray, prV k f s a1, .tuple #[xV, (.int .i64 E)], .agg (prL k f s a1).toArray, .tuple #[xV, (.int .i64 E)], xV, (.int .i64 E), .tuple #[yV, (.int .i64 E)], .agg (prL k f s a1).toArray, .tuple #[yV, (.int .i64 E)], yV, (.int .i64 E), .tuple #[zV, (.int .i64 E)], .agg (prL k f s a0).toArray, .tuple #[zV, (.int .i64 E)], zV, (.int .i64 E), .tuple #[(.string (str T)), (.int .i64 E)], .agg (prL k f s a1).toArray, .tuple #[(.string (str T)), (.int .i64 E)], (.string (str T)), (.int .i64 E), .tuple #[(.string (str T)), (.int .i64 E)], .agg (prL k f s a0).toArray, .tuple #[(.string (str T)), (.int .i64 E)], (.string (str T)), (.int .i64 E), u 41, u 42, u 43, u 44, u 45, u 46, u 47, u 48, u 49, u 50, u 51, u 52, u 53, u 54, u 55, u 56, u 57, u 58, u 59, u 60, u 61, u 62, u 63, u 64, u 65, u 66, u 67, undef, undef, undef, undef, undef, undef, undef, undef, undef, undef, undef, undef, undef, undef, undef]
def valW (k f s : Int) (a0 a1 xV zV : Value) (X T : List UInt8) (E : Int) (V : Bool) : Nat → Value
  | 0 => prV k f s a1
  | 1 => .bool V
  | 2 => prV k f s a0
  | 3 => .bool V
  | 4 => .bool false
  | 5 => .bool false
  | 6 => xV
  | 7 => .string (str X)
  | 8 => zV
  | 9 => .string (str X)
  | 10 => .bool false
  | 11 => .bool false
  | 12 => .bool false
  | 13 => (.int .i64 E)
  | 14 => (.int .i64 E)
  | 15 => .bool false
  | 16 => .bool false
  | 17 => .bool false
  | 18 => (.string (str T))
  | 19 => (.string (str T))
  | 20 => .bool false
  | 21 => .bool false
  | 22 => .bool false
  | 23 => (.int .i64 E)
  | 24 => (.int .i64 E)
  | 25 => .bool false
  | _ => .bool false
theorem c27 {i : Nat} (h : i < 27) : i = 0 ∨ i = 1 ∨ i = 2 ∨ i = 3 ∨ i = 4 ∨ i = 5 ∨ i = 6 ∨ i = 7 ∨ i = 8 ∨ i = 9 ∨ i = 10 ∨ i = 11 ∨ i = 12 ∨ i = 13 ∨ i = 14 ∨ i = 15 ∨ i = 16 ∨ i = 17 ∨ i = 18 ∨ i = 19 ∨ i = 20 ∨ i = 21 ∨ i = 22 ∨ i = 23 ∨ i = 24 ∨ i = 25 ∨ i = 26 := by omega
def xbW (k f s : Int) (ds : List (List UInt8)) : List UInt8 := if valB k f s ds.length then encB k.toNat f.toNat s.toNat ds else []
def tbW (k f s : Int) (ds : List (List UInt8)) : List UInt8 := if valB k f s ds.length then txtB k.toNat f.toNat s.toNat ds else []
def ecW (k f s : Int) (ds : List (List UInt8)) : Int := if valB k f s ds.length then 0 else 2
theorem names_calls (w : World) : Calls Tryd.prog 55 #[] w fun e w' => e = .returned (.bool true) ∧ w = w' := by
  go_enter Tryd.func55, Tryd.ntmps55
  go_wp2
  go_ret
  exact ⟨rfl, rfl⟩
theorem encode_u (k f s : Int) (vp : Value) (ds : List (List UInt8)) (w : World) (hp : Ds w vp ds) : Calls Tryd.prog 47 #[prV k f s vp] w fun e w' => ∃ v, e = .returned (.tuple #[v, .int .i64 (ecW k f s ds)]) ∧ Oct.Own w.heap.size w' v (xbW k f s ds) ∧ Below w.heap.size w w' := by
  refine (encode_calls k f s vp ds w hp).mono ?_
  intro e w' h
  unfold xbW ecW
  cases hb : valB k f s ds.length with
  | true => rw [hb] at h; exact h
  | false => rw [hb] at h; exact ⟨_, h.1, Own.nil _ _, h.2⟩
theorem rencode_u (k f s : Int) (vp : Value) (ds : List (List UInt8)) (w : World) (hp : Ds w vp ds) : Calls Tryd.prog 48 #[prV k f s vp] w fun e w' => ∃ v, e = .returned (.tuple #[v, .int .i64 (ecW k f s ds)]) ∧ Oct.Own w.heap.size w' v (xbW k f s ds) ∧ Below w.heap.size w w' := by
  refine (rencode_calls k f s vp ds w hp).mono ?_
  intro e w' h
  unfold xbW ecW
  cases hb : valB k f s ds.length with
  | true => rw [hb] at h; exact h
  | false => rw [hb] at h; exact ⟨_, h.1, Own.nil _ _, h.2⟩
theorem text_u (k f s : Int) (vp : Value) (ds : List (List UInt8)) (w : World) (hp : Ds w vp ds) (hP : Pows w) (hKi : Kinds w) : Calls Tryd.prog 49 #[prV k f s vp] w fun e w' => e = .returned (.tuple #[.string (str (tbW k f s ds)), .int .i64 (ecW k f s ds)]) ∧ Below w.heap.size w w' := by
  refine (text_calls k f s vp ds w hp hP hKi).mono ?_
  rintro e w' ⟨rfl, hb⟩
  refine ⟨?_, hb⟩
  unfold tbW ecW
  split <;> rfl
theorem rtext_u (k f s : Int) (vp : Value) (ds : List (List UInt8)) (w : World) (hp : Ds w vp ds) : Calls Tryd.prog 50 #[prV k f s vp] w fun e w' => e = .returned (.tuple #[.string (str (tbW k f s ds)), .int .i64 (ecW k f s ds)]) ∧ Below w.heap.size w w' := by
  refine (rtext_calls k f s vp ds w hp).mono ?_
  rintro e w' ⟨rfl, hb⟩
  refine ⟨?_, hb⟩
  unfold tbW ecW
  split <;> rfl
set_option maxRecDepth 100000 in
set_option maxHeartbeats 4000000 in
theorem law_calls (k f s : Int) (vp : Value) (ds : List (List UInt8)) (w : World) (hp : Ds w vp ds) (hl : ds.length * 32 ≤ 140737488355328) (hP : Pows w) (hKi : Kinds w) : Calls Tryd.prog 11 #[prV k f s vp] w fun e w' => e = .returned (.bool true) ∧ Below w.heap.size w w' := by
  obtain ⟨pa, pc, rfl⟩ := hp.open
  have HP := Lib.hid hp
  have HL := Lib.hid hl
  have HPO := Lib.hid hP
  have HKI := Lib.hid hKi
  have hE := encode_u k f s
  have hR := rencode_u k f s
  have hT := text_u k f s
  have hU := rtext_u k f s
  have hsm := hp.small
  have hVa := fun a c w => valid_calls k f s a ds.length c hsm w
  have hVb := fun a c w => rvalid_calls k f s a ds.length c hsm w
  have hE := fun vp w h => hE vp ds w h
  have hR := fun vp w h => hR vp ds w h
  have hT := fun vp w h => hT vp ds w h
  have hU := fun vp w h => hU vp ds w h
  obtain ⟨X, hX⟩ : ∃ x, xbW k f s ds = x := ⟨_, rfl⟩
  obtain ⟨T, hTT⟩ : ∃ x, tbW k f s ds = x := ⟨_, rfl⟩
  obtain ⟨E, hEE⟩ : ∃ x, ecW k f s ds = x := ⟨_, rfl⟩
  obtain ⟨V, hVV⟩ : ∃ x, valB k f s ds.length = x := ⟨_, rfl⟩
  simp only [hX, hTT, hEE] at hE hR hT hU
  simp only [hVV] at hVa hVb
  have HE := Lib.hid hE
  have HR := Lib.hid hR
  have HT := Lib.hid hT
  have HU := Lib.hid hU
  have HVA := Lib.hid hVa
  have HVB := Lib.hid hVb
  clear hE hR hT hU hVa hVb hX hTT hEE hVV hp hl hP hKi
  go_enter Tryd.func11, Tryd.ntmps11
  go_wp2_with (first
    | (((with_reducible refine gate_dst (N := 1) rfl ?_); go_loud (refine wp_box rfl _ _ rfl (v := prV k f s (.slice pa ds.length pc)) rfl ?_); intro w1 hk1 hb1 hz1); rw [pr_cells] at hk1)
    | (((with_reducible refine gate_dst (N := 14) rfl ?_); go_loud (refine wp_load_blk rfl 76 _ rfl aggPr sizePr rfl hk1 (rfl) ?_)))
    | (go_at_call 46; go_loud (refine (lent_calls k f s _ ds _ (HP.out.below hb1) HL.out).mono ?_); rintro e w2 ⟨v2, rfl, hD2, hb2⟩; obtain ⟨qa, qc, rfl⟩ := hD2.open; go_loud (have hb02 := hb1.trans (hb2.mono hb1.size)); go_loud (have hk12 := hk1.below hb2))
    | (((with_reducible refine gate_dst (N := 3) rfl ?_); go_loud (refine wp_alloc rfl _ rfl zeroPr ?_); intro w3 hk3 hb3 hz3); rw [pr_cells] at hk3)
    | (((with_reducible refine gate_store (t := 76) (p := 3) rfl ?_); go_loud (refine wp_store_blk rfl 76 _ _ rfl rfl sizePr rfl hk3 (rfl) (v := prV k f s (.slice qa ds.length qc)) rfl (rfl) ((by rw [pr_cells]; exact pr_one k f s _ _ _)) ?_); intro w4 hk4 hg4); rw [pr_cells] at hk4; go_loud (have hb24 : Below w2.heap.size w2 w4 := hb3.grown hg4 (by have := hb3.size; omega) (fun r e => by injection e with e; omega)); have hin4 := hk4; go_loud (have har4 := hk12.below hb24); go_loud (have hb04 := hb02.trans (hb24.mono hb02.size)); go_loud (have hD4 := hD2.below hb24))
    | (((with_reducible refine gate_dst (N := 17) rfl ?_); go_loud (refine wp_load_blk rfl 76 _ rfl aggPr sizePr rfl hin4 (rfl) ?_)))
    | (go_at_call 47; first | (refine (HE.out _ _ hD4).mono ?_; rintro e w5 ⟨v5, rfl, hx5, hb5⟩; go_loud (have hin5 := hin4.below hb5); go_loud (have har5 := har4.below hb5); go_loud (have hD5 := hD4.below hb5); go_loud (have hb05 := hb04.trans (hb5.mono hb04.size))) | (refine (HE.out _ _ hD5).mono ?_; rintro e w6 ⟨v6, rfl, hy6, hb6⟩; go_loud (have hin6 := hin5.below hb6); go_loud (have har6 := har5.below hb6); go_loud (have hD6 := hD5.below hb6); go_loud (have hx6 := hx5.below hb6); go_loud (have hb06 := hb05.trans (hb6.mono hb05.size))))
    | (((with_reducible refine gate_dst (N := 22) rfl ?_); go_loud (refine wp_load_blk rfl 76 _ rfl aggPr sizePr rfl hin5 (rfl) ?_)))
    | (((with_reducible refine gate_dst (N := 27) rfl ?_); go_loud (refine wp_load_blk rfl 76 _ rfl aggPr sizePr rfl har6 (rfl) ?_)))
    | (go_at_call 48; go_loud (refine (HR.out _ _ (HP.out.below hb06)).mono ?_); rintro e w7 ⟨v7, rfl, hz7, hb7⟩; go_loud (have hin7 := hin6.below hb7); go_loud (have har7 := har6.below hb7); go_loud (have hD7 := hD6.below hb7); go_loud (have hx7 := hx6.below hb7); go_loud (have hy7 := hy6.below hb7); go_loud (have hb07 := hb06.trans (hb7.mono hb06.size)))
    | (((with_reducible refine gate_dst (N := 32) rfl ?_); go_loud (refine wp_load_blk rfl 76 _ rfl aggPr sizePr rfl hin7 (rfl) ?_)))
    | (go_at_call 49; go_loud (refine (HT.out _ _ hD7 (HPO.out.below hb07) (HKI.out.below hb07)).mono ?_); rintro e w8 ⟨rfl, hb8⟩; go_loud (have hin8 := hin7.below hb8); go_loud (have har8 := har7.below hb8); go_loud (have hD8 := hD7.below hb8); go_loud (have hx8 := hx7.below hb8); go_loud (have hy8 := hy7.below hb8); go_loud (have hz8 := hz7.below hb8); go_loud (have hb08 := hb07.trans (hb8.mono hb07.size)))
    | (((with_reducible refine gate_dst (N := 37) rfl ?_); go_loud (refine wp_load_blk rfl 76 _ rfl aggPr sizePr rfl har8 (rfl) ?_)))
    | (go_at_call 50; go_loud (refine (HU.out _ _ (HP.out.below hb08)).mono ?_); rintro e w9 ⟨rfl, hb9⟩; go_loud (have hin9 := hin8.below hb9); go_loud (have har9 := har8.below hb9); go_loud (have hD9 := hD8.below hb9); go_loud (have hx9 := hx8.below hb9); go_loud (have hy9 := hy8.below hb9); go_loud (have hz9 := hz8.below hb9); go_loud (have hb09 := hb08.trans (hb9.mono hb08.size))))
  have hin := Lib.hid hin9
  have har := Lib.hid har9
  have hX5 := Lib.hid hx9
  have hY5 := Lib.hid hy9
  have hZ5 := Lib.hid hz9
  refine wp_region_pure (frW k f s (.slice pa ds.length pc) (.slice qa ds.length qc) w.heap.size w2.heap.size v5 v6 v7 T E) (fun _ => undef) (valW k f s (.slice pa ds.length pc) (.slice qa ds.length qc) v5 v7 X T E V) (by kernel_rfl) (by kernel_rfl) (by kernel_rfl) ?_ ?_ ?_
  · intro i hi u v
    have h27 : i < 27 := hi
    rcases c27 h27 with rfl | rfl | rfl | rfl | rfl | rfl | rfl | rfl | rfl | rfl | rfl | rfl | rfl | rfl | rfl | rfl | rfl | rfl | rfl | rfl | rfl | rfl | rfl | rfl | rfl | rfl | rfl <;> rfl
  · intro i o ho u W hb hdep K hK
    have h27 : i < 27 := (Array.getElem?_eq_some_iff.1 ho).1
    have hinW := hin.out.below hb
    have harW := har.out.below hb
    have hxW : Rd W v5 X := (hX5.out.below hb).rd
    have hzW : Rd W v7 X := (hZ5.out.below hb).rd
    have K0 := hK W (Below.refl _ _)
    clear hin9 har9 hx9 hy9 hz9
    rcases c27 h27 with rfl | rfl | rfl | rfl | rfl | rfl | rfl | rfl | rfl | rfl | rfl | rfl | rfl | rfl | rfl | rfl | rfl | rfl | rfl | rfl | rfl | rfl | rfl | rfl | rfl | rfl | rfl <;> obtain rfl := Option.some.inj ho
    · exact st_load_blk (by rfl) 76 (.tmp 3) (by rfl) aggPr sizePr (by rfl) hinW (by rfl) K0
    · have h1 : u 41 = (valW k f s (.slice pa ds.length pc) (.slice qa ds.length qc) v5 v7 X T E V 0) := hdep ⟨0, .data⟩ (by simp) rfl
      have hc := HVA.out qa qc W
      rw [show prV k f s (.slice qa ds.length qc) = u 41 from h1.symm] at hc
      have HC := Lib.hid hc
      clear hc h1 hdep K0 ho
      refine st_want (a := { tmps := frW k f s (.slice pa ds.length pc) (.slice qa ds.length qc) w.heap.size w2.heap.size v5 v6 v7 T E u, defers := [] }) rfl ?_
      unfold frW
      go_simp
      refine HC.out.mono ?_
      rintro e w' ⟨rfl, hb'⟩
      exact hK w' hb'
    · exact st_load_blk (by rfl) 76 (.tmp 1) (by rfl) aggPr sizePr (by rfl) harW (by rfl) K0
    · have h1 : u 43 = (valW k f s (.slice pa ds.length pc) (.slice qa ds.length qc) v5 v7 X T E V 2) := hdep ⟨2, .data⟩ (by simp) rfl
      have hc := HVB.out pa pc W
      rw [show prV k f s (.slice pa ds.length pc) = u 43 from h1.symm] at hc
      have HC := Lib.hid hc
      clear hc h1 hdep K0 ho
      refine st_want (a := { tmps := frW k f s (.slice pa ds.length pc) (.slice qa ds.length qc) w.heap.size w2.heap.size v5 v6 v7 T E u, defers := [] }) rfl ?_
      unfold frW
      go_simp
      refine HC.out.mono ?_
      rintro e w' ⟨rfl, hb'⟩
      exact hK w' hb'
    · have h1 : u 42 = (valW k f s (.slice pa ds.length pc) (.slice qa ds.length qc) v5 v7 X T E V 1) := hdep ⟨1, .data⟩ (by simp) rfl
      have h2 : u 44 = (valW k f s (.slice pa ds.length pc) (.slice qa ds.length qc) v5 v7 X T E V 3) := hdep ⟨3, .data⟩ (by simp) rfl
      refine st_wrun (by rfl) (v := .bool false) (w' := W) ?_ K0
      clear hdep K0 hK ho
      unfold valW at h1 h2
      unfold frW
      cases V <;> go_simp
    · have h1 : u 45 = (valW k f s (.slice pa ds.length pc) (.slice qa ds.length qc) v5 v7 X T E V 4) := hdep ⟨4, .data⟩ (by simp) rfl
      refine st_wrun (by rfl) (v := (valW k f s (.slice pa ds.length pc) (.slice qa ds.length qc) v5 v7 X T E V 5)) (w' := W) ?_ K0
      clear hdep K0 hK ho
      unfold valW at *
      unfold frW
      go_simp
    · have hgd : u 46 = .bool false := hdep ⟨5, .guard⟩ (by simp) rfl
      refine st_wrun (by unfold frW; simp [Region.wanted, yielded, hgd]) (v := (valW k f s (.slice pa ds.length pc) (.slice qa ds.length qc) v5 v7 X T E V 6)) (w' := W) ?_ K0
      clear hdep K0 hK ho
      unfold frW valW
      go_simp
    · have h1 : u 47 = (valW k f s (.slice pa ds.length pc) (.slice qa ds.length qc) v5 v7 X T E V 6) := hdep ⟨6, .data⟩ (by simp) rfl
      have hgd : u 46 = .bool false := hdep ⟨5, .guard⟩ (by simp) rfl
      exact st_wstr (by unfold frW; simp [Region.wanted, yielded, hgd]) 24 9 5 (.tmp 47) (by rfl) Tryd.underlying24 Tryd.underlying5 Tryd.underlying9 (by exact h1) hxW K0
    · have hgd : u 46 = .bool false := hdep ⟨5, .guard⟩ (by simp) rfl
      refine st_wrun (by unfold frW; simp [Region.wanted, yielded, hgd]) (v := (valW k f s (.slice pa ds.length pc) (.slice qa ds.length qc) v5 v7 X T E V 8)) (w' := W) ?_ K0
      clear hdep K0 hK ho
      unfold frW valW
      go_simp
    · have h1 : u 49 = (valW k f s (.slice pa ds.length pc) (.slice qa ds.length qc) v5 v7 X T E V 8) := hdep ⟨8, .data⟩ (by simp) rfl
      have hgd : u 46 = .bool false := hdep ⟨5, .guard⟩ (by simp) rfl
      exact st_wstr (by unfold frW; simp [Region.wanted, yielded, hgd]) 24 9 5 (.tmp 49) (by rfl) Tryd.underlying24 Tryd.underlying5 Tryd.underlying9 (by exact h1) hzW K0
    · have h1 : u 48 = (valW k f s (.slice pa ds.length pc) (.slice qa ds.length qc) v5 v7 X T E V 7) := hdep ⟨7, .data⟩ (by simp) rfl
      have h2 : u 50 = (valW k f s (.slice pa ds.length pc) (.slice qa ds.length qc) v5 v7 X T E V 9) := hdep ⟨9, .data⟩ (by simp) rfl
      have hgd : u 46 = .bool false := hdep ⟨5, .guard⟩ (by simp) rfl
      exact st_wneqS (by unfold frW; simp [Region.wanted, yielded, hgd]) _ _ (.tmp 48) (.tmp 50) (by rfl) (by exact h1) (by exact h2) K0
    · have h1 : u 46 = (valW k f s (.slice pa ds.length pc) (.slice qa ds.length qc) v5 v7 X T E V 5) := hdep ⟨5, .data⟩ (by simp) rfl
      have h2 : u 51 = (valW k f s (.slice pa ds.length pc) (.slice qa ds.length qc) v5 v7 X T E V 10) := hdep ⟨10, .data⟩ (by simp) rfl
      refine st_wrun (by rfl) (v := (valW k f s (.slice pa ds.length pc) (.slice qa ds.length qc) v5 v7 X T E V 11)) (w' := W) ?_ K0
      clear hdep K0 hK ho
      unfold valW at *
      unfold frW
      go_simp
    · have h1 : u 52 = (valW k f s (.slice pa ds.length pc) (.slice qa ds.length qc) v5 v7 X T E V 11) := hdep ⟨11, .data⟩ (by simp) rfl
      refine st_wrun (by rfl) (v := (valW k f s (.slice pa ds.length pc) (.slice qa ds.length qc) v5 v7 X T E V 12)) (w' := W) ?_ K0
      clear hdep K0 hK ho
      unfold valW at *
      unfold frW
      go_simp
    · have hgd : u 53 = .bool false := hdep ⟨12, .guard⟩ (by simp) rfl
      refine st_wrun (by unfold frW; simp [Region.wanted, yielded, hgd]) (v := (valW k f s (.slice pa ds.length pc) (.slice qa ds.length qc) v5 v7 X T E V 13)) (w' := W) ?_ K0
      clear hdep K0 hK ho
      unfold frW valW
      go_simp
    · have hgd : u 53 = .bool false := hdep ⟨12, .guard⟩ (by simp) rfl
      refine st_wrun (by unfold frW; simp [Region.wanted, yielded, hgd]) (v := (valW k f s (.slice pa ds.length pc) (.slice qa ds.length qc) v5 v7 X T E V 14)) (w' := W) ?_ K0
      clear hdep K0 hK ho
      unfold frW valW
      go_simp
    · have h1 : u 54 = (valW k f s (.slice pa ds.length pc) (.slice qa ds.length qc) v5 v7 X T E V 13) := hdep ⟨13, .data⟩ (by simp) rfl
      have h2 : u 55 = (valW k f s (.slice pa ds.length pc) (.slice qa ds.length qc) v5 v7 X T E V 14) := hdep ⟨14, .data⟩ (by simp) rfl
      have hgd : u 53 = .bool false := hdep ⟨12, .guard⟩ (by simp) rfl
      refine st_wrun (by unfold frW; simp [Region.wanted, yielded, hgd]) (v := .bool false) (w' := W) ?_ K0
      clear hdep K0 hK ho
      unfold valW at *
      unfold frW
      go_simp
    · have h1 : u 53 = (valW k f s (.slice pa ds.length pc) (.slice qa ds.length qc) v5 v7 X T E V 12) := hdep ⟨12, .data⟩ (by simp) rfl
      have h2 : u 56 = (valW k f s (.slice pa ds.length pc) (.slice qa ds.length qc) v5 v7 X T E V 15) := hdep ⟨15, .data⟩ (by simp) rfl
      refine st_wrun (by rfl) (v := (valW k f s (.slice pa ds.length pc) (.slice qa ds.length qc) v5 v7 X T E V 16)) (w' := W) ?_ K0
      clear hdep K0 hK ho
      unfold valW at *
      unfold frW
      go_simp
    · have h1 : u 57 = (valW k f s (.slice pa ds.length pc) (.slice qa ds.length qc) v5 v7 X T E V 16) := hdep ⟨16, .data⟩ (by simp) rfl
      refine st_wrun (by rfl) (v := (valW k f s (.slice pa ds.length pc) (.slice qa ds.length qc) v5 v7 X T E V 17)) (w' := W) ?_ K0
      clear hdep K0 hK ho
      unfold valW at *
      unfold frW
      go_simp
    · have hgd : u 58 = .bool false := hdep ⟨17, .guard⟩ (by simp) rfl
      refine st_wrun (by unfold frW; simp [Region.wanted, yielded, hgd]) (v := (valW k f s (.slice pa ds.length pc) (.slice qa ds.length qc) v5 v7 X T E V 18)) (w' := W) ?_ K0
      clear hdep K0 hK ho
      unfold frW valW
      go_simp
    · have hgd : u 58 = .bool false := hdep ⟨17, .guard⟩ (by simp) rfl
      refine st_wrun (by unfold frW; simp [Region.wanted, yielded, hgd]) (v := (valW k f s (.slice pa ds.length pc) (.slice qa ds.length qc) v5 v7 X T E V 19)) (w' := W) ?_ K0
      clear hdep K0 hK ho
      unfold frW valW
      go_simp
    · have h1 : u 59 = (valW k f s (.slice pa ds.length pc) (.slice qa ds.length qc) v5 v7 X T E V 18) := hdep ⟨18, .data⟩ (by simp) rfl
      have h2 : u 60 = (valW k f s (.slice pa ds.length pc) (.slice qa ds.length qc) v5 v7 X T E V 19) := hdep ⟨19, .data⟩ (by simp) rfl
      have hgd : u 58 = .bool false := hdep ⟨17, .guard⟩ (by simp) rfl
      exact st_wneqS (by unfold frW; simp [Region.wanted, yielded, hgd]) _ _ (.tmp 59) (.tmp 60) (by rfl) (by exact h1) (by exact h2) K0
    · have h1 : u 58 = (valW k f s (.slice pa ds.length pc) (.slice qa ds.length qc) v5 v7 X T E V 17) := hdep ⟨17, .data⟩ (by simp) rfl
      have h2 : u 61 = (valW k f s (.slice pa ds.length pc) (.slice qa ds.length qc) v5 v7 X T E V 20) := hdep ⟨20, .data⟩ (by simp) rfl
      refine st_wrun (by rfl) (v := (valW k f s (.slice pa ds.length pc) (.slice qa ds.length qc) v5 v7 X T E V 21)) (w' := W) ?_ K0
      clear hdep K0 hK ho
      unfold valW at *
      unfold frW
      go_simp
    · have h1 : u 62 = (valW k f s (.slice pa ds.length pc) (.slice qa ds.length qc) v5 v7 X T E V 21) := hdep ⟨21, .data⟩ (by simp) rfl
      refine st_wrun (by rfl) (v := (valW k f s (.slice pa ds.length pc) (.slice qa ds.length qc) v5 v7 X T E V 22)) (w' := W) ?_ K0
      clear hdep K0 hK ho
      unfold valW at *
      unfold frW
      go_simp
    · have hgd : u 63 = .bool false := hdep ⟨22, .guard⟩ (by simp) rfl
      refine st_wrun (by unfold frW; simp [Region.wanted, yielded, hgd]) (v := (valW k f s (.slice pa ds.length pc) (.slice qa ds.length qc) v5 v7 X T E V 23)) (w' := W) ?_ K0
      clear hdep K0 hK ho
      unfold frW valW
      go_simp
    · have hgd : u 63 = .bool false := hdep ⟨22, .guard⟩ (by simp) rfl
      refine st_wrun (by unfold frW; simp [Region.wanted, yielded, hgd]) (v := (valW k f s (.slice pa ds.length pc) (.slice qa ds.length qc) v5 v7 X T E V 24)) (w' := W) ?_ K0
      clear hdep K0 hK ho
      unfold frW valW
      go_simp
    · have h1 : u 64 = (valW k f s (.slice pa ds.length pc) (.slice qa ds.length qc) v5 v7 X T E V 23) := hdep ⟨23, .data⟩ (by simp) rfl
      have h2 : u 65 = (valW k f s (.slice pa ds.length pc) (.slice qa ds.length qc) v5 v7 X T E V 24) := hdep ⟨24, .data⟩ (by simp) rfl
      have hgd : u 63 = .bool false := hdep ⟨22, .guard⟩ (by simp) rfl
      refine st_wrun (by unfold frW; simp [Region.wanted, yielded, hgd]) (v := .bool false) (w' := W) ?_ K0
      clear hdep K0 hK ho
      unfold valW at *
      unfold frW
      go_simp
    · have h1 : u 63 = (valW k f s (.slice pa ds.length pc) (.slice qa ds.length qc) v5 v7 X T E V 22) := hdep ⟨22, .data⟩ (by simp) rfl
      have h2 : u 66 = (valW k f s (.slice pa ds.length pc) (.slice qa ds.length qc) v5 v7 X T E V 25) := hdep ⟨25, .data⟩ (by simp) rfl
      refine st_wrun (by rfl) (v := (valW k f s (.slice pa ds.length pc) (.slice qa ds.length qc) v5 v7 X T E V 26)) (w' := W) ?_ K0
      clear hdep K0 hK ho
      unfold valW at *
      unfold frW
      go_simp
  · intro u W hb hV
    have e67 : u 67 = .bool false := hV 26 (by decide)
    have hb4W : Below w4.heap.size w4 W := ((((hb5.trans (hb6.mono hb5.size)).trans (hb7.mono (by have := hb5.size; have := hb6.size; omega))).trans (hb8.mono (by have := hb5.size; have := hb6.size; have := hb7.size; omega))).trans (hb9.mono (by have := hb5.size; have := hb6.size; have := hb7.size; have := hb8.size; omega))).trans (hb.mono (by have := hb5.size; have := hb6.size; have := hb7.size; have := hb8.size; have := hb9.size; omega))
    have hXW := hX5.out.below hb
    have hYW := hY5.out.below hb
    have hZW := hZ5.out.below hb
    have hs5 := hb5.size
    have hs6 := hb6.size
    have n1 : v6.ownBlock = none ∨ v6.ownBlock ≠ v5.ownBlock := by
      cases h : v6.ownBlock with
      | none => exact .inl rfl
      | some r => exact .inr (fun e => by have := (World.ownsRow.lt hYW r h).1; have := (World.ownsRow.lt hx5 r e.symm).2; omega)
    have n2 : v7.ownBlock = none ∨ v7.ownBlock ≠ v5.ownBlock := by
      cases h : v7.ownBlock with
      | none => exact .inl rfl
      | some r => exact .inr (fun e => by have := (World.ownsRow.lt hZW r h).1; have := (World.ownsRow.lt hx5 r e.symm).2; omega)
    unfold frW
    rw [e67]
    clear hV e67
    have KEEP := fun w10 (hgs : W.grownBy w10 v5.ownBlock) => And.intro (hYW.kept hgs n1) (And.intro (hZW.kept hgs n2) (hb4W.grown hgs (by have := hb4W.size; omega) (fun r e => (World.ownsRow.lt hXW r e).1)))
    go_wp2_with (first
      | (go_at_call 53; go_loud (refine (spoil_calls w4.heap.size v5 X _ hXW).mono ?_); rintro e w10 ⟨rfl, hup, hgs⟩; go_loud (obtain ⟨hY10, hZ10, hb410⟩ := KEEP _ hgs); go_loud (have hin10 := hin4.below hb410); go_loud (have har10 := har4.below hb410); go_loud (have hD10 := hD4.below hb410); go_loud (have hb010 := hb04.trans (hb410.mono hb04.size)))
      | (((with_reducible refine gate_dst (N := 71) rfl ?_); go_loud (refine wp_strB rfl _ rfl hY10.rd rfl ?_)))
      | (((with_reducible refine gate_dst (N := 73) rfl ?_); go_loud (refine wp_strB rfl _ rfl hZ10.rd rfl ?_)))
      | (((with_reducible refine gate_dst (N := 74) rfl ?_); go_loud (refine wp_eq_str rfl _ _ _ _ rfl rfl rfl ((by simp)) ?_)))
      | (((with_reducible refine gate_dst (N := 76) rfl ?_); go_loud (refine wp_load_blk rfl 76 _ rfl aggPr sizePr rfl hin10 (rfl) ?_)))
      | (((with_reducible refine gate_dst (N := 77) rfl ?_); go_loud (refine wp_load_blk rfl 76 _ rfl aggPr sizePr rfl har10 (rfl) ?_)))
      | (go_at_call 54; go_loud (refine (same_calls k f s _ _ ds _ hD10 (HP.out.below hb010)).mono ?_); rintro e w11 ⟨rfl, hb11⟩)
      | (go_at_call 55; go_loud (refine (names_calls _).mono ?_); rintro e w12 ⟨rfl, rfl⟩))
    go_ret
    exact ⟨rfl, hb010.trans (hb11.mono hb010.size)⟩
end Go.Proofs.YtfefcfjedlidnaaDoor.Wir
