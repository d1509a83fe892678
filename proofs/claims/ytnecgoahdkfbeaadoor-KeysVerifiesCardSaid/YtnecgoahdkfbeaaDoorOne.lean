/- One-time keys: chains, public keys; the program's and the reference's. -/
import Derived.Test.YtnecgoahdkfbeaaDoorRma
import Derived.Test.YtnecgoahdkfbeaaDoorTre
namespace Go.Proofs.YtnecgoahdkfbeaaDoor.Mac
open Go Go.RowKit Go.Proofs.YtnecgoahdkfbeaaDoor Go.Proofs.YtnecgoahdkfbeaaDoor.Cop Go.Proofs.YtnecgoahdkfbeaaDoor.Oct Go.Proofs.YtnecgoahdkfbeaaDoor.Sha Go.Proofs.YtnecgoahdkfbeaaDoor.Tre
set_option linter.unusedVariables false
set_option linter.unusedSimpArgs false
theorem zr45_on (w : World) : (zeroValue 45).run Tryd.prog w = .ok (dg Oct.dz) w := by kernel_rfl
theorem in5_on : (Tryd.prog.info? 5).map (fun i => (i.zero, i.size, i.bytes)) = some (some (.int .u8 0), 1, 1) := by kernel_rfl
theorem sz5_on : (Tryd.prog.info? 5).map (fun i => i.size) = some 1 := by kernel_rfl
theorem ag45_on (w : World) : (isAgg 45).run Tryd.prog w = .ok true w := by kernel_rfl
theorem sz45_on : (Tryd.prog.info? 45).map (fun i => i.size) = some 32 := by kernel_rfl
theorem en130_on : Eng.Entr Tryd.prog 130 := ⟨_, Tryd.func130, by kernel_rfl, by kernel_rfl⟩
theorem en132_on : Eng.Entr Tryd.prog 132 := ⟨_, Tryd.func132, by kernel_rfl, by kernel_rfl⟩
theorem en185_on : Eng.Entr Tryd.prog 185 := ⟨_, Tryd.func185, by kernel_rfl, by kernel_rfl⟩
theorem en139_on : Eng.Entr Tryd.prog 139 := ⟨_, Tryd.func139, by kernel_rfl, by kernel_rfl⟩
theorem en122_on : Eng.Entr Tryd.prog 122 := ⟨_, Tryd.func122, by kernel_rfl, by kernel_rfl⟩
theorem en183_on : Eng.Entr Tryd.prog 183 := ⟨_, Tryd.func183, by kernel_rfl, by kernel_rfl⟩
theorem en179_on : Eng.Entr Tryd.prog 179 := ⟨_, Tryd.func179, by kernel_rfl, by kernel_rfl⟩
theorem en180_on : Eng.Entr Tryd.prog 180 := ⟨_, Tryd.func180, by kernel_rfl, by kernel_rfl⟩
theorem en131_on : Eng.Entr Tryd.prog 131 := ⟨_, Tryd.func131, by kernel_rfl, by kernel_rfl⟩
theorem en182_on : Eng.Entr Tryd.prog 182 := ⟨_, Tryd.func182, by kernel_rfl, by kernel_rfl⟩
theorem en138_on : Eng.Entr Tryd.prog 138 := ⟨_, Tryd.func138, by kernel_rfl, by kernel_rfl⟩
/-- A step of a chain; n steps from the f-th on. -/
def stepS (s : List UInt8) (c t : Nat) (x : List UInt8) : List UInt8 := sha (([2] ++ s ++ [(UInt8.ofNat c), (UInt8.ofNat t)]) ++ x)
theorem stepS_len (s : List UInt8) (c t : Nat) (x : List UInt8) : (stepS s c t x).length = 32 := sha_len _
def chainN (s : List UInt8) (c : Nat) : Nat → Nat → List UInt8 → List UInt8
  | 0, _, x => x
  | n + 1, f, x => chainN s c n (f + 1) (stepS s c f x)
theorem chainN_step {s : List UInt8} {c t i : Nat} (h : i < t) (x : List UInt8) : chainN s c (t - i) i x = chainN s c (t - (i + 1)) (i + 1) (stepS s c i x) := by
  rw [show t - i = t - (i + 1) + 1 by omega, chainN]
theorem chainN_len (s : List UInt8) (c : Nat) : ∀ (n f : Nat) (x : List UInt8), x.length = 32 → (chainN s c n f x).length = 32
  | 0, _, _, h => h
  | n + 1, f, x, _ => chainN_len s c n (f + 1) _ (stepS_len _ _ _ _)
def saltS (sd : List UInt8) : List UInt8 := childS sd [115, 97, 108, 116] 0
def secretS (sd : List UInt8) (i : Nat) : List UInt8 := childS sd [99, 104, 97, 105, 110] i
def seedS (sd : List UInt8) (i : Nat) : List UInt8 := childS sd [107, 101, 121, 115] i
theorem childS_len (sd p : List UInt8) (i : Nat) : (childS sd p i).length = 32 := hmac_len _ _
theorem secretS_len (sd : List UInt8) (i : Nat) : (secretS sd i).length = 32 := childS_len _ _ _
/-- The bytes behind the first i chains. -/
def pubB (sd : List UInt8) (i : Nat) : List UInt8 := ([3] ++ saltS sd) ++ ((List.range i).map fun j => chainN (saltS sd) j 3 0 (secretS sd j)).flatten
theorem pubB_zero (sd : List UInt8) : pubB sd 0 = [3] ++ saltS sd := by simp [pubB]
theorem pubB_succ (sd : List UInt8) (i : Nat) : pubB sd i ++ chainN (saltS sd) i 3 0 (secretS sd i) = pubB sd (i + 1) := by simp [pubB, List.range_succ]
theorem pubB_len (sd : List UInt8) (i : Nat) : (pubB sd i).length = 33 + 32 * i := by
  induction i with
  | zero => rw [pubB_zero, List.length_append]; have := childS_len sd [115, 97, 108, 116] 0; unfold saltS; simp; omega
  | succ i ih => rw [← pubB_succ, List.length_append, ih, chainN_len _ _ _ _ _ (secretS_len _ _)]; omega
def pubS (sd : List UInt8) : List UInt8 := sha (pubB sd 133)
theorem pubS_len (sd : List UInt8) : (pubS sd).length = 32 := sha_len _
theorem putD_own {v : Value} {bs d : List UInt8} {w : World} (h : Bs w v bs) (hd : d.length = 32) : Calls Tryd.prog 130 #[v, dg d] w fun e w' => ∃ v', e = .returned v' ∧ Oct.Own w.heap.size w' v' (bs ++ d) ∧ Below w.heap.size w w' := by
  refine (putD v bs d w h hd).mono ?_
  rintro e w' ⟨v', h1, h2, h3⟩
  refine ⟨v', h1, ?_, h3⟩
  unfold Oct.Own
  rw [List.length_append, hd]
  exact h2
set_option maxRecDepth 100000 in
set_option maxHeartbeats 4000000 in
theorem step_calls (s x : List UInt8) (c t : Nat) (w : World) (hs32 : s.length = 32) (hx32 : x.length = 32) (hc : c ≤ 255) (ht : t ≤ 255) (hKn : Kon w) : Calls Tryd.prog 185 #[(dg s), (.int .i64 (c : Int)), (.int .i64 (t : Int)), (dg x)] w (fun e w' => e = .returned (dg (stepS s c t x)) ∧ Below w.heap.size w w') := by
  have hpc : (UInt8.ofNat c).toNat = c := by simp; omega
  have hpt : (UInt8.ofNat t).toNat = t := by simp; omega
  refine Eng.enter (l := [(dg s), (.int .i64 (c : Int)), (.int .i64 (t : Int)), (dg x)]) Tryd.func185 rfl 23 rfl (by simp) ?_
  refine Eng.seqk fun K1 hK1 => ?_
  refine Eng.reg ?_
  refine Eng.bo (v := (dg s)) (cs := (bcs s)) rfl rfl rfl rfl rfl ?_
  intro w2 hk2 hb2 hz2
  refine Eng.bo (v := (dg x)) (cs := (bcs x)) rfl rfl rfl rfl rfl ?_
  intro w3 hk3 hb3 hz3
  refine Eng.al rfl rfl rfl zr45_on (cs := (bcs Oct.dz)) rfl ?_
  intro w4 hk4 hb4 hz4
  refine Eng.nil ?_
  refine hK1 _ _ ?_
  refine Eng.seqk fun K5 hK5 => ?_
  refine Eng.reg ?_
  refine Eng.bs (vs := [(.int .u8 2)]) (cs := (bcs [2])) rfl rfl rfl Tryd.underlying48 in5_on rfl (by decide) rfl rfl (by decide) (by decide) (by simp [Value.cells]) rfl ?_
  intro w6 hk6 hb6 hz6
  have hk7 := (((hk2).below hb3).below hb4).below hb6
  refine Eng.sv rfl rfl (Eng.x_slA rfl Tryd.underlying45 sz5_on rfl) ?_
  refine Eng.apB rfl rfl rfl rfl (Eng.own_lit (base := w4.heap.size) hk6 (Nat.le_refl _) (Nat.le_of_ble_eq_true rfl)) rfl (Rd.of_blk hk7 32 hs32 (by decide)) (by simp only [List.length_append, List.length_cons, List.length_nil, hs32, hx32]; omega) (hb6).size ?_
  intro v8 w8 ho8 hg8
  refine Eng.sv rfl rfl (Eng.x_as (v := v8) rfl rfl) ?_
  refine Eng.nil ?_
  refine hK5 _ _ ?_
  refine Eng.seqk fun K9 hK9 => ?_
  have hB3_5 : Below w4.heap.size w4 w8 := (hb6).grown hg8 (hb6).size (fun k e => Nat.le_trans (Nat.le_refl _) ((World.ownsRow.lt (Eng.own_lit (base := w4.heap.size) hk6 (Nat.le_refl _) (Nat.le_of_ble_eq_true rfl))) _ e).1)
  have hk11 := (((hk3).below hb4).below hb6).grown hg8 (fun e => absurd ((World.ownsRow.lt (Eng.own_lit (base := w4.heap.size) hk6 (Nat.le_refl _) (Nat.le_of_ble_eq_true rfl))) _ e.symm).1 (Nat.not_le_of_lt (Nat.lt_of_lt_of_le hz3 (hb4).size)))
  refine Eng.drawA 8 6 [7] [fun vQ _ => vQ = v8, fun vQ _ => vQ = (.int .i64 (c : Int)), fun vQ _ => vQ = (.int .u8 ((UInt8.ofNat c).toNat : Int)), fun vQ _ => vQ = (.int .i64 (t : Int)), fun vQ _ => vQ = (.int .u8 ((UInt8.ofNat t).toNat : Int)), fun (v : Value) (W : World) => ∃ g, v = .slice (some ⟨g, 0, none⟩) 2 2 ∧ Blk W g 5 (bcs [(UInt8.ofNat c), (UInt8.ofNat t)]) ∧ w8.heap.size ≤ g, fun (_ : Value) (_ : World) => True, fun vQ _ => vQ = (dg x)] (fun (uP : Nat → Value) (V W : World) => Oct.Own w4.heap.size W (uP 19) (([2] ++ s) ++ [(UInt8.ofNat c), (UInt8.ofNat t)]) ∧ V.grownBy W (v8).ownBlock) (by kernel_rfl) (by kernel_rfl) (by kernel_rfl) (by kernel_rfl) (by kernel_rfl) rfl rfl (by kernel_rfl) ?_ rfl ?_ ?_ ?_
  · exact ⟨fun _ _ _ h _ => h, fun _ _ _ h _ => h, fun _ _ _ h _ => h, fun _ _ _ h _ => h, fun _ _ _ h _ => h, fun v W W' ⟨g, h1, h2, h3⟩ hb => ⟨g, h1, h2.below hb, h3⟩, fun _ _ _ _ _ => trivial, fun _ _ _ h _ => h, trivial⟩
  · refine ⟨?_, ?_, ?_, ?_, ?_, ?_, ?_, ?_, trivial⟩
    · refine ⟨fun h_ => absurd h_ (by decide), fun _ => ?_⟩
      intro u' W hbW hkp hdp K hK
      refine Eng.dv rfl rfl ?_ (hK _ _ (Below.refl _ _) rfl)
      exact (Eng.x_mv (v := v8) rfl (show Eng.opv 23 u' (.tmp 9) = v8 from hkp 9 rfl))
    · refine ⟨fun h_ => absurd h_ (by decide), fun _ => ?_⟩
      intro u' W hbW hkp hdp K hK
      refine Eng.dv rfl rfl ?_ (hK _ _ (Below.refl _ _) rfl)
      exact (Eng.x_mv (v := (.int .i64 (c : Int))) rfl (show Eng.opv 23 u' (.tmp 1) = (.int .i64 (c : Int)) from hkp 1 rfl))
    · refine ⟨fun h_ => absurd h_ (by decide), fun _ => ?_⟩
      intro u' W hbW hkp hdp K hK
      have e1 : u' 14 = (.int .i64 (c : Int)) := hdp.1
      refine Eng.dv rfl rfl ?_ (hK _ _ (Below.refl _ _) rfl)
      exact (Eng.x_conv rfl Tryd.underlying3 Tryd.underlying5 (show Eng.opv 23 u' (.tmp 14) = (.int .i64 (c : Int)) from e1) (Eng.wu8 (r := ((UInt8.ofNat c).toNat : Int)) (by omega)))
    · refine ⟨fun h_ => absurd h_ (by decide), fun _ => ?_⟩
      intro u' W hbW hkp hdp K hK
      refine Eng.dv rfl rfl ?_ (hK _ _ (Below.refl _ _) rfl)
      exact (Eng.x_mv (v := (.int .i64 (t : Int))) rfl (show Eng.opv 23 u' (.tmp 2) = (.int .i64 (t : Int)) from hkp 2 rfl))
    · refine ⟨fun h_ => absurd h_ (by decide), fun _ => ?_⟩
      intro u' W hbW hkp hdp K hK
      have e3 : u' 16 = (.int .i64 (t : Int)) := hdp.1
      refine Eng.dv rfl rfl ?_ (hK _ _ (Below.refl _ _) rfl)
      exact (Eng.x_conv rfl Tryd.underlying3 Tryd.underlying5 (show Eng.opv 23 u' (.tmp 16) = (.int .i64 (t : Int)) from e3) (Eng.wu8 (r := ((UInt8.ofNat t).toNat : Int)) (by omega)))
    · refine ⟨fun h_ => absurd h_ (by decide), fun _ => ?_⟩
      intro u' W hbW hkp hdp K hK
      have e2 : u' 15 = (.int .u8 ((UInt8.ofNat c).toNat : Int)) := hdp.1
      have e4 : u' 17 = (.int .u8 ((UInt8.ofNat t).toNat : Int)) := hdp.2.1
      refine Eng.dv rfl rfl ?_ (hK (.slice (some ⟨W.heap.size, 0, none⟩) 2 2) (W.alloc (.cells (bcs [(UInt8.ofNat c), (UInt8.ofNat t)]).toArray 5)) (Eng.below_al _ _) ⟨_, rfl, Blk.new _ _ _, hbW.size⟩)
      exact Eng.x_bs (parts := #[(0, (Go.Operand.tmp 15)), (1, (Go.Operand.tmp 17))]) (vs := [(.int .u8 ((UInt8.ofNat c).toNat : Int)), (.int .u8 ((UInt8.ofNat t).toNat : Int))]) (cs := (bcs [(UInt8.ofNat c), (UInt8.ofNat t)])) (n := 2) rfl Tryd.underlying48 in5_on rfl (by decide) (Eng.lc (Eng.pr (show Eng.opv 23 u' (.tmp 15) = (.int .u8 ((UInt8.ofNat c).toNat : Int)) from e2)) (Eng.lc (Eng.pr (show Eng.opv 23 u' (.tmp 17) = (.int .u8 ((UInt8.ofNat t).toNat : Int)) from e4)) rfl)) rfl (by decide) (by decide) (by simp [Value.cells]) rfl
    · refine ⟨fun _ => ?_, fun h_ => absurd h_ (by decide)⟩
      intro u' W hbW hkp hdp K hK
      have e0 : u' 13 = v8 := hdp.1
      obtain ⟨gd10_5, e5, hkx5, hlx5⟩ : (fun (v : Value) (W : World) => ∃ g, v = .slice (some ⟨g, 0, none⟩) 2 2 ∧ Blk W g 5 (bcs [(UInt8.ofNat c), (UInt8.ofNat t)]) ∧ w8.heap.size ≤ g) (u' 18) W := hdp.2.1
      refine Eng.dapO (ys := [(UInt8.ofNat c), (UInt8.ofNat t)]) rfl rfl rfl (show Eng.opv 23 u' (.tmp 13) = v8 from e0) ((ho8).below hbW) (show Eng.opv 23 u' (.tmp 18) = (.slice (some ⟨gd10_5, 0, none⟩) 2 2) from e5) (Eng.own_lit (base := 0) (l := [(UInt8.ofNat c), (UInt8.ofNat t)]) hkx5 (Nat.zero_le _) (Nat.le_of_ble_eq_true rfl)).rd (by simp only [List.length_append, List.length_cons, List.length_nil, hs32, hx32]; omega) (Nat.le_trans (hB3_5).size hbW.size) ?_
      intro v2 W2 h1_ h2_
      refine hK v2 W2 ?_
      show Oct.Own _ _ (Eng.upd u' 19 v2 19) _ ∧ _
      rw [Eng.upd_same]; exact ⟨h1_, h2_⟩
    · refine ⟨fun h_ => absurd h_ (by decide), fun _ => ?_⟩
      intro u' W hbW hkp hdp K hK
      refine Eng.dv rfl rfl ?_ (hK _ _ (Below.refl _ _) rfl)
      exact (Eng.x_ldB (v := (dg x)) rfl ag45_on sz45_on (show Eng.opv 23 u' (.tmp 7) = (.pointer (some ⟨w2.heap.size, 0, none⟩)) from hkp 7 rfl) ((hk11).below hbW) ((bcs_length _).trans hx32) rfl)
  · refine ⟨?_, trivial⟩
    · refine ⟨fun uP v V W ⟨h1, h2⟩ => ⟨by show Oct.Own _ _ (Eng.upd uP 20 v 19) _; rw [Eng.upd_other uP 20 v 19 (by decide)]; exact h1, h2⟩, fun o ho u' V W hbV ⟨hoP, hgP⟩ hkp hdp K hK => ?_⟩
      obtain rfl := Eng.someInj2 ho
      refine Eng.dv rfl rfl ?_ (hK _ rfl)
      exact (Eng.x_ldB (v := (dg x)) rfl ag45_on sz45_on (show Eng.opv 23 u' (.tmp 7) = (.pointer (some ⟨w2.heap.size, 0, none⟩)) from hkp 7 rfl) (((hk11).below hbV).grown hgP (fun e => absurd ((World.ownsRow.lt ho8) _ e.symm).1 (Nat.not_le_of_lt (Nat.lt_of_lt_of_le hz3 (hb4).size)))) ((bcs_length _).trans hx32) rfl)
  · intro ud10 w10 wB10 hb10 hkp10 ⟨f10_0, f10_1, f10_2, f10_3, f10_4, ⟨gd10_5, f10_5, hkd10_5, hld10_5⟩, _, f10_7, _⟩ ⟨hoP10, hgP10⟩
    obtain ⟨vA10, hvA10⟩ : ∃ v, v = ud10 19 := ⟨_, rfl⟩
    rw [← hvA10] at hoP10
    obtain rfl := Eng.collect (l := [(13, v8), (14, (.int .i64 (c : Int))), (15, (.int .u8 ((UInt8.ofNat c).toNat : Int))), (16, (.int .i64 (t : Int))), (17, (.int .u8 ((UInt8.ofNat t).toNat : Int))), (18, (.slice (some ⟨gd10_5, 0, none⟩) 2 2)), (19, vA10), (20, (dg x))]) hkp10 ⟨f10_0, f10_1, f10_2, f10_3, f10_4, f10_5, hvA10.symm, f10_7, trivial⟩ rfl
    refine Eng.sc rfl (Eng.xc (vl := [vA10, (dg x)]) rfl rfl rfl en130_on) (putD_own ⟨(hoP10).rd, by simp only [List.length_append, List.length_cons, List.length_nil, hs32]; omega⟩ hx32) ?_
    rintro _ w12 ⟨vx12, rfl, ho12, hb12⟩
    refine Eng.aft_v rfl ?_
    have hB0_2 : Below w.heap.size w w3 := (hb2).trans (hb3.mono (hb2).size)
    have hB0_3 : Below w.heap.size w w4 := (hB0_2).trans (hb4.mono (hB0_2).size)
    have hB0_4 : Below w.heap.size w w6 := (hB0_3).trans (hb6.mono (hB0_3).size)
    have hB0_5 : Below w.heap.size w w8 := (hB0_4).grown hg8 (hB0_4).size (fun k e => Nat.le_trans (hB0_3).size ((World.ownsRow.lt (Eng.own_lit (base := w4.heap.size) hk6 (Nat.le_refl _) (Nat.le_of_ble_eq_true rfl))) _ e).1)
    have hB0_6 : Below w.heap.size w w10 := (hB0_5).trans (hb10.mono (hB0_5).size)
    have hB0_7 : Below w.heap.size w wB10 := (hB0_6).grown hgP10 (hB0_6).size (fun k e => Nat.le_trans (hB0_3).size ((World.ownsRow.lt ho8) _ e).1)
    have hB0_8 : Below w.heap.size w w12 := (hB0_7).trans (hb12.mono (hB0_7).size)
    have hr13 := (hKn).below hB0_8
    refine Eng.sc rfl (Eng.xc (vl := [vx12]) rfl rfl rfl en132_on) (hsum_calls _ (((([2] ++ s) ++ [(UInt8.ofNat c), (UInt8.ofNat t)]) ++ x)) _ (ho12).rd (Inn.own ho12) (by simp only [List.length_append, List.length_cons, List.length_nil, hs32, hx32]; omega) hr13) ?_
    rintro _ w14 ⟨rfl, hb14⟩
    refine Eng.aft_v rfl ?_
    have hk15 := ((((((hk4).below hb6).grown hg8 (fun e => absurd ((World.ownsRow.lt (Eng.own_lit (base := w4.heap.size) hk6 (Nat.le_refl _) (Nat.le_of_ble_eq_true rfl))) _ e.symm).1 (Nat.not_le_of_lt (Nat.lt_of_lt_of_le hz4 (Nat.le_refl _))))).below hb10).grown hgP10 (fun e => absurd ((World.ownsRow.lt ho8) _ e.symm).1 (Nat.not_le_of_lt (Nat.lt_of_lt_of_le hz4 (Nat.le_refl _))))).below hb12).below hb14
    refine Eng.stB (v := (dg (sha ((([2] ++ s) ++ [(UInt8.ofNat c), (UInt8.ofNat t)]) ++ x)))) rfl rfl rfl sz45_on rfl hk15 rfl rfl (cs' := (bcs (sha ((([2] ++ s) ++ [(UInt8.ofNat c), (UInt8.ofNat t)]) ++ x)))) rfl ((bcs_length _).trans (sha_len _)) (bcs_one _) ?_
    intro w16 hk16 hg16
    refine Eng.nil ?_
    refine hK9 _ _ ?_
    refine Eng.rt ?_
    refine Eng.ret (Eng.res1 (v1 := (dg (sha ((([2] ++ s) ++ [(UInt8.ofNat c), (UInt8.ofNat t)]) ++ x)))) rfl (Eng.rdc rfl (Eng.lvB ag45_on sz45_on hk16 ((bcs_length _).trans (sha_len _)) rfl))) ?_
    have hB0_9 : Below w.heap.size w w14 := (hB0_8).trans (hb14.mono (hB0_8).size)
    have hB0_10 : Below w.heap.size w w16 := (hB0_9).grown hg16 (hB0_9).size (fun k e => by cases e; exact Nat.le_trans (hB0_2).size (Nat.le_refl _))
    exact ⟨rfl, hB0_10⟩
set_option maxRecDepth 100000 in
set_option maxHeartbeats 4000000 in
theorem chain_calls (s x : List UInt8) (c f t : Nat) (w : World) (hs32 : s.length = 32) (hx32 : x.length = 32) (hc : c ≤ 255) (hft : f ≤ t) (ht : t ≤ 255) (hKn : Kon w) : Calls Tryd.prog 131 #[(dg s), (.int .i64 (c : Int)), (.int .i64 (f : Int)), (.int .i64 (t : Int)), (dg x)] w (fun e w' => e = .returned (dg (chainN s c (t - f) f x)) ∧ Below w.heap.size w w') := by
  refine Eng.enter (l := [(dg s), (.int .i64 (c : Int)), (.int .i64 (f : Int)), (.int .i64 (t : Int)), (dg x)]) Tryd.func131 rfl 24 rfl (by simp) ?_
  refine Eng.seqk fun K1 hK1 => ?_
  refine Eng.reg ?_
  refine Eng.bo (v := (dg s)) (cs := (bcs s)) rfl rfl rfl rfl rfl ?_
  intro w2 hk2 hb2 hz2
  refine Eng.bo (v := (dg x)) (cs := (bcs x)) rfl rfl rfl rfl rfl ?_
  intro w3 hk3 hb3 hz3
  refine Eng.al rfl rfl rfl zr45_on (cs := (bcs Oct.dz)) rfl ?_
  intro w4 hk4 hb4 hz4
  refine Eng.nil ?_
  refine hK1 _ _ ?_
  refine Eng.seqk fun K5 hK5 => ?_
  refine Eng.seqk fun K6 hK6 => ?_
  refine Eng.reg ?_
  refine Eng.sv rfl rfl (Eng.x_mv (v := (.int .i64 (f : Int))) rfl rfl) ?_
  refine Eng.sv rfl rfl (Eng.x_as (v := (.int .i64 (f : Int))) rfl rfl) ?_
  refine Eng.nil ?_
  refine hK6 _ _ ?_
  refine Eng.blk ?_
  have hk8 := ((hk2).below hb3).below hb4
  have hk9 := (hk3).below hb4
  have hB0_2 : Below w.heap.size w w3 := (hb2).trans (hb3.mono (hb2).size)
  have hB0_3 : Below w.heap.size w w4 := (hB0_2).trans (hb4.mono (hB0_2).size)
  refine Eng.loopN (fun zz u w' => ∃ (i : Nat), ∃ (y : List UInt8), zz = t - i ∧ i ≤ t ∧ y.length = 32 ∧ chainN s c (t - i) i y = chainN s c (t - f) f x ∧ Eng.Has u [(1, (.int .i64 (c : Int))), (3, (.int .i64 (t : Int))), (5, (.pointer (some ⟨w.heap.size, 0, none⟩))), (9, (.pointer (some ⟨w2.heap.size, 0, none⟩))), (10, (.pointer (some ⟨w3.heap.size, 0, none⟩))), (11, (.int .i64 (i : Int)))] ∧ Below w.heap.size w w' ∧ w4.heap.size ≤ w'.heap.size ∧ Blk w' w.heap.size 45 (bcs s) ∧ Blk w' w2.heap.size 45 (bcs y) ∧ Blk w' w3.heap.size 45 (bcs Oct.dz)) _ ⟨f, x, rfl, hft, hx32, rfl, ⟨rfl, rfl, rfl, rfl, rfl, rfl, trivial⟩, hB0_3, (Nat.le_refl _), hk8, hk9, hk4⟩ ?_
  rintro _ u7 w7 ⟨i, y, rfl, hs7_0, hs7_1, hs7_2, hH7, hBL7, hzL7, hkL7_0, hkL7_1, hkL7_2⟩ K7 hK7
  obtain ⟨u7, rfl⟩ := hH7.ex
  have hy := hs7_1
  have hx := hs7_2
  refine Eng.seqk fun K10 hK10 => ?_
  refine Eng.seqk fun K11 hK11 => ?_
  refine Eng.reg ?_
  refine Eng.sv rfl rfl (Eng.x_mv (v := (.int .i64 (i : Int))) rfl rfl) ?_
  refine Eng.sv rfl rfl (Eng.x_mv (v := (.int .i64 (t : Int))) rfl rfl) ?_
  by_cases h15 : ((i : Int) : Int) < (t : Int)
  · skip
    refine Eng.sv rfl rfl (Eng.x_lt (r := true) rfl rfl rfl (decide_eq_true (by omega))) ?_
    refine Eng.nil ?_
    refine hK11 _ _ ?_
    refine Eng.cond_t rfl ?_
    refine Eng.skp ?_
    refine hK10 _ _ ?_
    refine Eng.seqk fun K12 hK12 => ?_
    refine Eng.blk ?_
    refine Eng.reg ?_
    refine Eng.sv rfl rfl (Eng.x_ldB (v := (dg s)) rfl ag45_on sz45_on rfl hkL7_0 ((bcs_length _).trans hs32) rfl) ?_
    refine Eng.sv rfl rfl (Eng.x_mv (v := (.int .i64 (c : Int))) rfl rfl) ?_
    refine Eng.sv rfl rfl (Eng.x_mv (v := (.int .i64 (i : Int))) rfl rfl) ?_
    refine Eng.sv rfl rfl (Eng.x_ldB (v := (dg y)) rfl ag45_on sz45_on rfl hkL7_1 ((bcs_length _).trans hy) rfl) ?_
    have hr13 := (hKn).below hBL7
    refine Eng.sc rfl (Eng.xc (vl := [(dg s), (.int .i64 (c : Int)), (.int .i64 (i : Int)), (dg y)]) rfl rfl rfl en185_on) (step_calls s y c i _ hs32 hy hc (by omega) hr13) ?_
    rintro _ w14 ⟨rfl, hb14⟩
    refine Eng.aft_v rfl ?_
    have hk15 := (hkL7_1).below hb14
    refine Eng.stB (v := (dg (stepS s c i y))) rfl rfl rfl sz45_on rfl hk15 ((bcs_length _).trans hy) rfl (cs' := (bcs (stepS s c i y))) rfl ((bcs_length _).trans (stepS_len _ _ _ _)) (bcs_one _) ?_
    intro w16 hk16 hg16
    refine Eng.nil ?_
    refine Eng.nb ?_
    refine hK12 _ _ ?_
    refine Eng.reg ?_
    refine Eng.sv rfl rfl (Eng.x_mv (v := (.int .i64 (i : Int))) rfl rfl) ?_
    refine Eng.sv rfl rfl (Eng.x_add rfl rfl rfl (Eng.w64 (r := ((i + 1 : Nat) : Int)) (by omega))) ?_
    refine Eng.sv rfl rfl (Eng.x_as (v := (.int .i64 ((i + 1 : Nat) : Int))) rfl rfl) ?_
    refine Eng.nil ?_
    have hB0_5 : Below w.heap.size w w14 := (hBL7).trans (hb14.mono (hBL7).size)
    have hB0_6 : Below w.heap.size w w16 := (hB0_5).grown hg16 (hB0_5).size (fun k e => by cases e; exact Nat.le_trans (hb2).size (Nat.le_refl _))
    have hk17 := ((hkL7_0).below hb14).grown hg16 (fun e => absurd (Option.some.inj e) (Nat.ne_of_lt (Nat.lt_of_lt_of_le hz2 (Nat.le_trans (Nat.le_refl _) (Nat.le_refl _)))))
    have hk18 := ((hkL7_2).below hb14).grown hg16 (fun e => absurd (Option.some.inj e) (Nat.ne_of_gt (Nat.lt_of_lt_of_le hz3 (Nat.le_trans (Nat.le_refl _) (Nat.le_refl _)))))
    exact hK7 _ _ _ ⟨i + 1, stepS s c i y, rfl, by omega, stepS_len _ _ _ _, ((chainN_step (by omega) y).symm.trans hx), ⟨rfl, rfl, rfl, rfl, rfl, (Eng.ie (by first | omega | rfl)), trivial⟩, hB0_6, (Nat.le_trans (Nat.le_trans hzL7 (hb14).size) (hg16).size), hk17, hk16, hk18⟩ (by omega)
  · skip
    refine Eng.sv rfl rfl (Eng.x_lt (r := false) rfl rfl rfl (decide_eq_false (by omega))) ?_
    refine Eng.nil ?_
    refine hK11 _ _ ?_
    refine Eng.cond_f rfl ?_
    refine Eng.xt ?_
    refine Eng.te ?_
    refine Eng.te ?_
    refine Eng.be ?_
    refine hK5 _ _ ?_
    refine Eng.seqk fun K19 hK19 => ?_
    refine Eng.reg ?_
    refine Eng.sv rfl rfl (Eng.x_ldB (v := (dg y)) rfl ag45_on sz45_on rfl hkL7_1 ((bcs_length _).trans hy) rfl) ?_
    refine Eng.stB (v := (dg y)) rfl rfl rfl sz45_on rfl hkL7_2 rfl rfl (cs' := (bcs y)) rfl ((bcs_length _).trans hy) (bcs_one _) ?_
    intro w20 hk20 hg20
    refine Eng.nil ?_
    refine hK19 _ _ ?_
    refine Eng.rt ?_
    refine Eng.ret (Eng.res1 (v1 := (dg y)) rfl (Eng.rdc rfl (Eng.lvB ag45_on sz45_on hk20 ((bcs_length _).trans hy) rfl))) ?_
    have q_ : t - i = 0 := by omega
    rw [q_] at hx
    have hB0_5 : Below w.heap.size w w20 := (hBL7).grown hg20 (hBL7).size (fun k e => by cases e; exact Nat.le_trans (hB0_2).size (Nat.le_refl _))
    exact ⟨by rw [← hx]; rfl, hB0_5⟩
set_option maxRecDepth 100000 in
set_option maxHeartbeats 4000000 in
theorem rchain_calls (s x : List UInt8) (c f t : Nat) (w : World) (hs32 : s.length = 32) (hx32 : x.length = 32) (hc : c ≤ 255) (hft : f ≤ t) (ht : t ≤ 255) : Calls Tryd.prog 138 #[(dg s), (.int .i64 (c : Int)), (.int .i64 (f : Int)), (.int .i64 (t : Int)), (dg x)] w (fun e w' => e = .returned (dg (chainN s c (t - f) f x)) ∧ Below w.heap.size w w') := by
  have hpc : (UInt8.ofNat c).toNat = c := by simp; omega
  refine Eng.enter (l := [(dg s), (.int .i64 (c : Int)), (.int .i64 (f : Int)), (.int .i64 (t : Int)), (dg x)]) Tryd.func138 rfl 34 rfl (by simp) ?_
  refine Eng.seqk fun K1 hK1 => ?_
  refine Eng.reg ?_
  refine Eng.bo (v := (dg s)) (cs := (bcs s)) rfl rfl rfl rfl rfl ?_
  intro w2 hk2 hb2 hz2
  refine Eng.bo (v := (dg x)) (cs := (bcs x)) rfl rfl rfl rfl rfl ?_
  intro w3 hk3 hb3 hz3
  refine Eng.al rfl rfl rfl zr45_on (cs := (bcs Oct.dz)) rfl ?_
  intro w4 hk4 hb4 hz4
  refine Eng.nil ?_
  refine hK1 _ _ ?_
  refine Eng.seqk fun K5 hK5 => ?_
  refine Eng.seqk fun K6 hK6 => ?_
  refine Eng.reg ?_
  refine Eng.sv rfl rfl (Eng.x_mv (v := (.int .i64 (f : Int))) rfl rfl) ?_
  refine Eng.sv rfl rfl (Eng.x_as (v := (.int .i64 (f : Int))) rfl rfl) ?_
  refine Eng.nil ?_
  refine hK6 _ _ ?_
  refine Eng.blk ?_
  have hk8 := ((hk2).below hb3).below hb4
  have hk9 := (hk3).below hb4
  have hB0_2 : Below w.heap.size w w3 := (hb2).trans (hb3.mono (hb2).size)
  have hB0_3 : Below w.heap.size w w4 := (hB0_2).trans (hb4.mono (hB0_2).size)
  refine Eng.loopN (fun zz u w' => ∃ (i : Nat), ∃ (y : List UInt8), zz = t - i ∧ i ≤ t ∧ y.length = 32 ∧ chainN s c (t - i) i y = chainN s c (t - f) f x ∧ Eng.Has u [(1, (.int .i64 (c : Int))), (3, (.int .i64 (t : Int))), (5, (.pointer (some ⟨w.heap.size, 0, none⟩))), (9, (.pointer (some ⟨w2.heap.size, 0, none⟩))), (10, (.pointer (some ⟨w3.heap.size, 0, none⟩))), (11, (.int .i64 (i : Int)))] ∧ Below w.heap.size w w' ∧ w4.heap.size ≤ w'.heap.size ∧ Blk w' w.heap.size 45 (bcs s) ∧ Blk w' w2.heap.size 45 (bcs y) ∧ Blk w' w3.heap.size 45 (bcs Oct.dz)) _ ⟨f, x, rfl, hft, hx32, rfl, ⟨rfl, rfl, rfl, rfl, rfl, rfl, trivial⟩, hB0_3, (Nat.le_refl _), hk8, hk9, hk4⟩ ?_
  rintro _ u7 w7 ⟨i, y, rfl, hs7_0, hs7_1, hs7_2, hH7, hBL7, hzL7, hkL7_0, hkL7_1, hkL7_2⟩ K7 hK7
  obtain ⟨u7, rfl⟩ := hH7.ex
  have hy := hs7_1
  have hx := hs7_2
  have hpi : (UInt8.ofNat i).toNat = i := by simp; omega
  refine Eng.seqk fun K10 hK10 => ?_
  refine Eng.seqk fun K11 hK11 => ?_
  refine Eng.reg ?_
  refine Eng.sv rfl rfl (Eng.x_mv (v := (.int .i64 (i : Int))) rfl rfl) ?_
  refine Eng.sv rfl rfl (Eng.x_mv (v := (.int .i64 (t : Int))) rfl rfl) ?_
  by_cases h16 : ((i : Int) : Int) < (t : Int)
  · skip
    refine Eng.sv rfl rfl (Eng.x_lt (r := true) rfl rfl rfl (decide_eq_true (by omega))) ?_
    refine Eng.nil ?_
    refine hK11 _ _ ?_
    refine Eng.cond_t rfl ?_
    refine Eng.skp ?_
    refine hK10 _ _ ?_
    refine Eng.seqk fun K12 hK12 => ?_
    refine Eng.blk ?_
    refine Eng.seqk fun K13 hK13 => ?_
    refine Eng.reg ?_
    refine Eng.bs (vs := [(.int .u8 2)]) (cs := (bcs [2])) rfl rfl rfl Tryd.underlying48 in5_on rfl (by decide) rfl rfl (by decide) (by decide) (by simp [Value.cells]) rfl ?_
    intro w14 hk14 hb14 hz14
    have hk15 := (hkL7_0).below hb14
    refine Eng.sv rfl rfl (Eng.x_slA rfl Tryd.underlying45 sz5_on rfl) ?_
    refine Eng.apB rfl rfl rfl rfl (Eng.own_lit (base := w7.heap.size) hk14 (Nat.le_refl _) (Nat.le_of_ble_eq_true rfl)) rfl (Rd.of_blk hk15 32 hs32 (by decide)) (by simp only [List.length_append, List.length_cons, List.length_nil, hs32, hy]; omega) (hb14).size ?_
    intro v16 w16 ho16 hg16
    refine Eng.sv rfl rfl (Eng.x_as (v := v16) rfl rfl) ?_
    refine Eng.nil ?_
    refine hK13 _ _ ?_
    refine Eng.seqk fun K17 hK17 => ?_
    refine Eng.reg ?_
    refine Eng.sv rfl rfl (Eng.x_mv (v := v16) rfl rfl) ?_
    refine Eng.sv rfl rfl (Eng.x_mv (v := (.int .i64 (c : Int))) rfl rfl) ?_
    refine Eng.sv rfl rfl (Eng.x_conv rfl Tryd.underlying3 Tryd.underlying5 rfl (Eng.wu8 (r := ((UInt8.ofNat c).toNat : Int)) (by omega))) ?_
    refine Eng.sv rfl rfl (Eng.x_mv (v := (.int .i64 (i : Int))) rfl rfl) ?_
    refine Eng.sv rfl rfl (Eng.x_conv rfl Tryd.underlying3 Tryd.underlying5 rfl (Eng.wu8 (r := ((UInt8.ofNat i).toNat : Int)) (by omega))) ?_
    refine Eng.bs (vs := [(.int .u8 ((UInt8.ofNat c).toNat : Int)), (.int .u8 ((UInt8.ofNat i).toNat : Int))]) (cs := (bcs [(UInt8.ofNat c), (UInt8.ofNat i)])) rfl rfl rfl Tryd.underlying48 in5_on rfl (by decide) rfl rfl (by decide) (by decide) (by simp [Value.cells]) rfl ?_
    intro w18 hk18 hb18 hz18
    have hr20 := (ho16).below hb18
    have hB4_6 : Below w7.heap.size w7 w16 := (hb14).grown hg16 (hb14).size (fun k e => Nat.le_trans (Nat.le_refl _) ((World.ownsRow.lt (Eng.own_lit (base := w7.heap.size) hk14 (Nat.le_refl _) (Nat.le_of_ble_eq_true rfl))) _ e).1)
    have hB4_7 : Below w7.heap.size w7 w18 := (hB4_6).trans (hb18.mono (hB4_6).size)
    refine Eng.apB rfl rfl rfl rfl hr20 rfl ((Eng.own_lit (base := w16.heap.size) hk18 (Nat.le_refl _) (Nat.le_of_ble_eq_true rfl))).rd (by simp only [List.length_append, List.length_cons, List.length_nil, hs32, hy]; omega) (hB4_7).size ?_
    intro v19 w19 ho19 hg19
    refine Eng.sv rfl rfl (Eng.x_as (v := v19) rfl rfl) ?_
    refine Eng.nil ?_
    refine hK17 _ _ ?_
    refine Eng.reg ?_
    refine Eng.sv rfl rfl (Eng.x_mv (v := v19) rfl rfl) ?_
    have hk21 := ((((hkL7_1).below hb14).grown hg16 (fun e => absurd ((World.ownsRow.lt (Eng.own_lit (base := w7.heap.size) hk14 (Nat.le_refl _) (Nat.le_of_ble_eq_true rfl))) _ e.symm).1 (Nat.not_le_of_lt (Nat.lt_of_lt_of_le hz3 (Nat.le_trans (hb4).size hzL7))))).below hb18).grown hg19 (fun e => absurd ((World.ownsRow.lt ho16) _ e.symm).1 (Nat.not_le_of_lt (Nat.lt_of_lt_of_le hz3 (Nat.le_trans (hb4).size hzL7))))
    refine Eng.sv rfl rfl (Eng.x_slA rfl Tryd.underlying45 sz5_on rfl) ?_
    have hB4_8 : Below w7.heap.size w7 w19 := (hB4_7).grown hg19 (hB4_7).size (fun k e => Nat.le_trans (Nat.le_refl _) ((World.ownsRow.lt ho16) _ e).1)
    refine Eng.apB rfl rfl rfl rfl ho19 rfl (Rd.of_blk hk21 32 hy (by decide)) (by simp only [List.length_append, List.length_cons, List.length_nil, hs32, hy]; omega) (hB4_8).size ?_
    intro v22 w22 ho22 hg22
    refine Eng.sc rfl (Eng.xc (vl := [v22]) rfl rfl rfl en139_on) (rsum_calls _ (((([2] ++ s) ++ [(UInt8.ofNat c), (UInt8.ofNat i)]) ++ y)) _ (ho22).rd (by simp only [List.length_append, List.length_cons, List.length_nil, hs32, hy]; omega)) ?_
    rintro _ w23 ⟨rfl, hb23⟩
    refine Eng.aft_v rfl ?_
    have hk24 := ((hk21).grown hg22 (fun e => absurd ((World.ownsRow.lt ho19) _ e.symm).1 (Nat.not_le_of_lt (Nat.lt_of_lt_of_le hz3 (Nat.le_trans (hb4).size hzL7))))).below hb23
    refine Eng.stB (v := (dg (sha ((([2] ++ s) ++ [(UInt8.ofNat c), (UInt8.ofNat i)]) ++ y)))) rfl rfl rfl sz45_on rfl hk24 ((bcs_length _).trans hy) rfl (cs' := (bcs (sha ((([2] ++ s) ++ [(UInt8.ofNat c), (UInt8.ofNat i)]) ++ y)))) rfl ((bcs_length _).trans (sha_len _)) (bcs_one _) ?_
    intro w25 hk25 hg25
    refine Eng.nil ?_
    refine Eng.nb ?_
    refine hK12 _ _ ?_
    refine Eng.reg ?_
    refine Eng.sv rfl rfl (Eng.x_mv (v := (.int .i64 (i : Int))) rfl rfl) ?_
    refine Eng.sv rfl rfl (Eng.x_add rfl rfl rfl (Eng.w64 (r := ((i + 1 : Nat) : Int)) (by omega))) ?_
    refine Eng.sv rfl rfl (Eng.x_as (v := (.int .i64 ((i + 1 : Nat) : Int))) rfl rfl) ?_
    refine Eng.nil ?_
    have hB0_5 : Below w.heap.size w w14 := (hBL7).trans (hb14.mono (hBL7).size)
    have hB0_6 : Below w.heap.size w w16 := (hB0_5).grown hg16 (hB0_5).size (fun k e => Nat.le_trans (hBL7).size ((World.ownsRow.lt (Eng.own_lit (base := w7.heap.size) hk14 (Nat.le_refl _) (Nat.le_of_ble_eq_true rfl))) _ e).1)
    have hB0_7 : Below w.heap.size w w18 := (hB0_6).trans (hb18.mono (hB0_6).size)
    have hB0_8 : Below w.heap.size w w19 := (hB0_7).grown hg19 (hB0_7).size (fun k e => Nat.le_trans (hBL7).size ((World.ownsRow.lt ho16) _ e).1)
    have hB0_9 : Below w.heap.size w w22 := (hB0_8).grown hg22 (hB0_8).size (fun k e => Nat.le_trans (hBL7).size ((World.ownsRow.lt ho19) _ e).1)
    have hB0_10 : Below w.heap.size w w23 := (hB0_9).trans (hb23.mono (hB0_9).size)
    have hB0_11 : Below w.heap.size w w25 := (hB0_10).grown hg25 (hB0_10).size (fun k e => by cases e; exact Nat.le_trans (hb2).size (Nat.le_refl _))
    have hB1_3 : Below w2.heap.size w2 w4 := (hb3).trans (hb4.mono (hb3).size)
    have hk26 := ((((((hk15).grown hg16 (fun e => absurd ((World.ownsRow.lt (Eng.own_lit (base := w7.heap.size) hk14 (Nat.le_refl _) (Nat.le_of_ble_eq_true rfl))) _ e.symm).1 (Nat.not_le_of_lt (Nat.lt_of_lt_of_le hz2 (Nat.le_trans (hB1_3).size hzL7))))).below hb18).grown hg19 (fun e => absurd ((World.ownsRow.lt ho16) _ e.symm).1 (Nat.not_le_of_lt (Nat.lt_of_lt_of_le hz2 (Nat.le_trans (hB1_3).size hzL7))))).grown hg22 (fun e => absurd ((World.ownsRow.lt ho19) _ e.symm).1 (Nat.not_le_of_lt (Nat.lt_of_lt_of_le hz2 (Nat.le_trans (hB1_3).size hzL7))))).below hb23).grown hg25 (fun e => absurd (Option.some.inj e) (Nat.ne_of_lt (Nat.lt_of_lt_of_le hz2 (Nat.le_trans (Nat.le_refl _) (Nat.le_refl _)))))
    have hk27 := (((((((hkL7_2).below hb14).grown hg16 (fun e => absurd ((World.ownsRow.lt (Eng.own_lit (base := w7.heap.size) hk14 (Nat.le_refl _) (Nat.le_of_ble_eq_true rfl))) _ e.symm).1 (Nat.not_le_of_lt (Nat.lt_of_lt_of_le hz4 hzL7)))).below hb18).grown hg19 (fun e => absurd ((World.ownsRow.lt ho16) _ e.symm).1 (Nat.not_le_of_lt (Nat.lt_of_lt_of_le hz4 hzL7)))).grown hg22 (fun e => absurd ((World.ownsRow.lt ho19) _ e.symm).1 (Nat.not_le_of_lt (Nat.lt_of_lt_of_le hz4 hzL7)))).below hb23).grown hg25 (fun e => absurd (Option.some.inj e) (Nat.ne_of_gt (Nat.lt_of_lt_of_le hz3 (Nat.le_trans (Nat.le_refl _) (Nat.le_refl _)))))
    exact hK7 _ _ _ ⟨i + 1, stepS s c i y, rfl, by omega, stepS_len _ _ _ _, ((chainN_step (by omega) y).symm.trans hx), ⟨rfl, rfl, rfl, rfl, rfl, (Eng.ie (by first | omega | rfl)), trivial⟩, hB0_11, (Nat.le_trans (Nat.le_trans (Nat.le_trans (Nat.le_trans (Nat.le_trans (Nat.le_trans (Nat.le_trans hzL7 (hb14).size) (hg16).size) (hb18).size) (hg19).size) (hg22).size) (hb23).size) (hg25).size), hk26, hk25, hk27⟩ (by omega)
  · skip
    refine Eng.sv rfl rfl (Eng.x_lt (r := false) rfl rfl rfl (decide_eq_false (by omega))) ?_
    refine Eng.nil ?_
    refine hK11 _ _ ?_
    refine Eng.cond_f rfl ?_
    refine Eng.xt ?_
    refine Eng.te ?_
    refine Eng.te ?_
    refine Eng.be ?_
    refine hK5 _ _ ?_
    refine Eng.seqk fun K28 hK28 => ?_
    refine Eng.reg ?_
    refine Eng.sv rfl rfl (Eng.x_ldB (v := (dg y)) rfl ag45_on sz45_on rfl hkL7_1 ((bcs_length _).trans hy) rfl) ?_
    refine Eng.stB (v := (dg y)) rfl rfl rfl sz45_on rfl hkL7_2 rfl rfl (cs' := (bcs y)) rfl ((bcs_length _).trans hy) (bcs_one _) ?_
    intro w29 hk29 hg29
    refine Eng.nil ?_
    refine hK28 _ _ ?_
    refine Eng.rt ?_
    refine Eng.ret (Eng.res1 (v1 := (dg y)) rfl (Eng.rdc rfl (Eng.lvB ag45_on sz45_on hk29 ((bcs_length _).trans hy) rfl))) ?_
    have q_ : t - i = 0 := by omega
    rw [q_] at hx
    have hB0_5 : Below w.heap.size w w29 := (hBL7).grown hg29 (hBL7).size (fun k e => by cases e; exact Nat.le_trans (hB0_2).size (Nat.le_refl _))
    exact ⟨by rw [← hx]; rfl, hB0_5⟩
set_option maxRecDepth 100000 in
set_option maxHeartbeats 4000000 in
theorem salted_calls (sd : List UInt8) (w : World) (h32 : sd.length = 32) (hKn : Kon w) : Calls Tryd.prog 179 #[(dg sd)] w (fun e w' => e = .returned (dg (saltS sd)) ∧ Below w.heap.size w w') := by
  refine Eng.enter (l := [(dg sd)]) Tryd.func179 rfl 11 rfl (by simp) ?_
  refine Eng.seqk fun K1 hK1 => ?_
  refine Eng.reg ?_
  refine Eng.bo (v := (dg sd)) (cs := (bcs sd)) rfl rfl rfl rfl rfl ?_
  intro w2 hk2 hb2 hz2
  refine Eng.al rfl rfl rfl zr45_on (cs := (bcs Oct.dz)) rfl ?_
  intro w3 hk3 hb3 hz3
  refine Eng.nil ?_
  refine hK1 _ _ ?_
  refine Eng.seqk fun K4 hK4 => ?_
  refine Eng.reg ?_
  have hk5 := (hk2).below hb3
  refine Eng.sv rfl rfl (Eng.x_ldB (v := (dg sd)) rfl ag45_on sz45_on rfl hk5 ((bcs_length _).trans h32) rfl) ?_
  have hB0_2 : Below w.heap.size w w3 := (hb2).trans (hb3.mono (hb2).size)
  have hr6 := (hKn).below hB0_2
  refine Eng.sc rfl (Eng.xc (vl := [(dg sd), (.string (str [115, 97, 108, 116])), (.int .i64 0)]) rfl rfl rfl en122_on) (child_calls sd [115, 97, 108, 116] 0 _ h32 (by decide) (by decide) (by omega) hr6) ?_
  rintro _ w7 ⟨rfl, hb7⟩
  refine Eng.aft_v rfl ?_
  refine Eng.sv rfl rfl (Eng.x_mv (v := (.tuple #[(dg (childS sd [115, 97, 108, 116] 0)), (.int .i64 0)])) rfl rfl) ?_
  refine Eng.sv rfl rfl (Eng.x_ext (v := (dg (childS sd [115, 97, 108, 116] 0))) rfl rfl rfl) ?_
  refine Eng.sv rfl rfl (Eng.x_ext (v := (.int .i64 0)) rfl rfl rfl) ?_
  refine Eng.al rfl rfl rfl zr45_on (cs := (bcs Oct.dz)) rfl ?_
  intro w8 hk8 hb8 hz8
  refine Eng.stB (v := (dg (childS sd [115, 97, 108, 116] 0))) rfl rfl rfl sz45_on rfl hk8 rfl rfl (cs' := (bcs (childS sd [115, 97, 108, 116] 0))) rfl ((bcs_length _).trans (childS_len _ _ _)) (bcs_one _) ?_
  intro w9 hk9 hg9
  refine Eng.sv rfl rfl (Eng.x_as (v := (.int .i64 0)) rfl rfl) ?_
  refine Eng.nil ?_
  refine hK4 _ _ ?_
  refine Eng.seqk fun K10 hK10 => ?_
  refine Eng.reg ?_
  refine Eng.sv rfl rfl (Eng.x_ldB (v := (dg (childS sd [115, 97, 108, 116] 0))) rfl ag45_on sz45_on rfl hk9 ((bcs_length _).trans (childS_len _ _ _)) rfl) ?_
  have hk11 := (((hk3).below hb7).below hb8).grown hg9 (fun e => absurd (Option.some.inj e) (Nat.ne_of_lt (Nat.lt_of_lt_of_le hz3 (Nat.le_trans (hb7).size (Nat.le_refl _)))))
  refine Eng.stB (v := (dg (childS sd [115, 97, 108, 116] 0))) rfl rfl rfl sz45_on rfl hk11 rfl rfl (cs' := (bcs (childS sd [115, 97, 108, 116] 0))) rfl ((bcs_length _).trans (childS_len _ _ _)) (bcs_one _) ?_
  intro w12 hk12 hg12
  refine Eng.nil ?_
  refine hK10 _ _ ?_
  refine Eng.rt ?_
  refine Eng.ret (Eng.res1 (v1 := (dg (childS sd [115, 97, 108, 116] 0))) rfl (Eng.rdc rfl (Eng.lvB ag45_on sz45_on hk12 ((bcs_length _).trans (childS_len _ _ _)) rfl))) ?_
  have hB0_3 : Below w.heap.size w w7 := (hB0_2).trans (hb7.mono (hB0_2).size)
  have hB0_4 : Below w.heap.size w w8 := (hB0_3).trans (hb8.mono (hB0_3).size)
  have hB0_5 : Below w.heap.size w w9 := (hB0_4).grown hg9 (hB0_4).size (fun k e => by cases e; exact Nat.le_trans (hB0_3).size (Nat.le_refl _))
  have hB0_6 : Below w.heap.size w w12 := (hB0_5).grown hg12 (hB0_5).size (fun k e => by cases e; exact Nat.le_trans (hb2).size (Nat.le_refl _))
  exact ⟨rfl, hB0_6⟩
set_option maxRecDepth 100000 in
set_option maxHeartbeats 4000000 in
theorem rsalt_calls (sd : List UInt8) (w : World) (h32 : sd.length = 32) : Calls Tryd.prog 182 #[(dg sd)] w (fun e w' => e = .returned (dg (saltS sd)) ∧ Below w.heap.size w w') := by
  refine Eng.enter (l := [(dg sd)]) Tryd.func182 rfl 11 rfl (by simp) ?_
  refine Eng.seqk fun K1 hK1 => ?_
  refine Eng.reg ?_
  refine Eng.bo (v := (dg sd)) (cs := (bcs sd)) rfl rfl rfl rfl rfl ?_
  intro w2 hk2 hb2 hz2
  refine Eng.al rfl rfl rfl zr45_on (cs := (bcs Oct.dz)) rfl ?_
  intro w3 hk3 hb3 hz3
  refine Eng.nil ?_
  refine hK1 _ _ ?_
  refine Eng.seqk fun K4 hK4 => ?_
  refine Eng.reg ?_
  have hk5 := (hk2).below hb3
  refine Eng.sv rfl rfl (Eng.x_ldB (v := (dg sd)) rfl ag45_on sz45_on rfl hk5 ((bcs_length _).trans h32) rfl) ?_
  refine Eng.sc rfl (Eng.xc (vl := [(dg sd), (.string (str [115, 97, 108, 116])), (.int .i64 0)]) rfl rfl rfl en183_on) (rchild_calls sd [115, 97, 108, 116] 0 _ h32 (by decide) (by decide) (by omega)) ?_
  rintro _ w6 ⟨rfl, hb6⟩
  refine Eng.aft_v rfl ?_
  refine Eng.sv rfl rfl (Eng.x_mv (v := (.tuple #[(dg (childS sd [115, 97, 108, 116] 0)), (.int .i64 0)])) rfl rfl) ?_
  refine Eng.sv rfl rfl (Eng.x_ext (v := (dg (childS sd [115, 97, 108, 116] 0))) rfl rfl rfl) ?_
  refine Eng.sv rfl rfl (Eng.x_ext (v := (.int .i64 0)) rfl rfl rfl) ?_
  refine Eng.al rfl rfl rfl zr45_on (cs := (bcs Oct.dz)) rfl ?_
  intro w7 hk7 hb7 hz7
  refine Eng.stB (v := (dg (childS sd [115, 97, 108, 116] 0))) rfl rfl rfl sz45_on rfl hk7 rfl rfl (cs' := (bcs (childS sd [115, 97, 108, 116] 0))) rfl ((bcs_length _).trans (childS_len _ _ _)) (bcs_one _) ?_
  intro w8 hk8 hg8
  refine Eng.sv rfl rfl (Eng.x_as (v := (.int .i64 0)) rfl rfl) ?_
  refine Eng.nil ?_
  refine hK4 _ _ ?_
  refine Eng.seqk fun K9 hK9 => ?_
  refine Eng.reg ?_
  refine Eng.sv rfl rfl (Eng.x_ldB (v := (dg (childS sd [115, 97, 108, 116] 0))) rfl ag45_on sz45_on rfl hk8 ((bcs_length _).trans (childS_len _ _ _)) rfl) ?_
  have hk10 := (((hk3).below hb6).below hb7).grown hg8 (fun e => absurd (Option.some.inj e) (Nat.ne_of_lt (Nat.lt_of_lt_of_le hz3 (Nat.le_trans (hb6).size (Nat.le_refl _)))))
  refine Eng.stB (v := (dg (childS sd [115, 97, 108, 116] 0))) rfl rfl rfl sz45_on rfl hk10 rfl rfl (cs' := (bcs (childS sd [115, 97, 108, 116] 0))) rfl ((bcs_length _).trans (childS_len _ _ _)) (bcs_one _) ?_
  intro w11 hk11 hg11
  refine Eng.nil ?_
  refine hK9 _ _ ?_
  refine Eng.rt ?_
  refine Eng.ret (Eng.res1 (v1 := (dg (childS sd [115, 97, 108, 116] 0))) rfl (Eng.rdc rfl (Eng.lvB ag45_on sz45_on hk11 ((bcs_length _).trans (childS_len _ _ _)) rfl))) ?_
  have hB0_2 : Below w.heap.size w w3 := (hb2).trans (hb3.mono (hb2).size)
  have hB0_3 : Below w.heap.size w w6 := (hB0_2).trans (hb6.mono (hB0_2).size)
  have hB0_4 : Below w.heap.size w w7 := (hB0_3).trans (hb7.mono (hB0_3).size)
  have hB0_5 : Below w.heap.size w w8 := (hB0_4).grown hg8 (hB0_4).size (fun k e => by cases e; exact Nat.le_trans (hB0_3).size (Nat.le_refl _))
  have hB0_6 : Below w.heap.size w w11 := (hB0_5).grown hg11 (hB0_5).size (fun k e => by cases e; exact Nat.le_trans (hb2).size (Nat.le_refl _))
  exact ⟨rfl, hB0_6⟩
set_option maxRecDepth 100000 in
set_option maxHeartbeats 4000000 in
theorem secret_calls (sd : List UInt8) (i : Nat) (w : World) (h32 : sd.length = 32) (hi : i ≤ 9223372036854775807) (hKn : Kon w) : Calls Tryd.prog 180 #[(dg sd), (.int .i64 (i : Int))] w (fun e w' => e = .returned (dg (secretS sd i)) ∧ Below w.heap.size w w') := by
  refine Eng.enter (l := [(dg sd), (.int .i64 (i : Int))]) Tryd.func180 rfl 14 rfl (by simp) ?_
  refine Eng.seqk fun K1 hK1 => ?_
  refine Eng.reg ?_
  refine Eng.bo (v := (dg sd)) (cs := (bcs sd)) rfl rfl rfl rfl rfl ?_
  intro w2 hk2 hb2 hz2
  refine Eng.al rfl rfl rfl zr45_on (cs := (bcs Oct.dz)) rfl ?_
  intro w3 hk3 hb3 hz3
  refine Eng.nil ?_
  refine hK1 _ _ ?_
  refine Eng.seqk fun K4 hK4 => ?_
  refine Eng.reg ?_
  have hk5 := (hk2).below hb3
  refine Eng.sv rfl rfl (Eng.x_ldB (v := (dg sd)) rfl ag45_on sz45_on rfl hk5 ((bcs_length _).trans h32) rfl) ?_
  refine Eng.sv rfl rfl (Eng.x_mv (v := (.int .i64 (i : Int))) rfl rfl) ?_
  have hB0_2 : Below w.heap.size w w3 := (hb2).trans (hb3.mono (hb2).size)
  have hr6 := (hKn).below hB0_2
  refine Eng.sc rfl (Eng.xc (vl := [(dg sd), (.string (str [99, 104, 97, 105, 110])), (.int .i64 (i : Int))]) rfl rfl rfl en122_on) (child_calls sd [99, 104, 97, 105, 110] i _ h32 (by decide) (by decide) (by omega) hr6) ?_
  rintro _ w7 ⟨rfl, hb7⟩
  refine Eng.aft_v rfl ?_
  refine Eng.sv rfl rfl (Eng.x_mv (v := (.tuple #[(dg (childS sd [99, 104, 97, 105, 110] i)), (.int .i64 0)])) rfl rfl) ?_
  refine Eng.sv rfl rfl (Eng.x_ext (v := (dg (childS sd [99, 104, 97, 105, 110] i))) rfl rfl rfl) ?_
  refine Eng.sv rfl rfl (Eng.x_ext (v := (.int .i64 0)) rfl rfl rfl) ?_
  refine Eng.al rfl rfl rfl zr45_on (cs := (bcs Oct.dz)) rfl ?_
  intro w8 hk8 hb8 hz8
  refine Eng.stB (v := (dg (childS sd [99, 104, 97, 105, 110] i))) rfl rfl rfl sz45_on rfl hk8 rfl rfl (cs' := (bcs (childS sd [99, 104, 97, 105, 110] i))) rfl ((bcs_length _).trans (childS_len _ _ _)) (bcs_one _) ?_
  intro w9 hk9 hg9
  refine Eng.sv rfl rfl (Eng.x_as (v := (.int .i64 0)) rfl rfl) ?_
  refine Eng.nil ?_
  refine hK4 _ _ ?_
  refine Eng.seqk fun K10 hK10 => ?_
  refine Eng.reg ?_
  refine Eng.sv rfl rfl (Eng.x_ldB (v := (dg (childS sd [99, 104, 97, 105, 110] i))) rfl ag45_on sz45_on rfl hk9 ((bcs_length _).trans (childS_len _ _ _)) rfl) ?_
  have hk11 := (((hk3).below hb7).below hb8).grown hg9 (fun e => absurd (Option.some.inj e) (Nat.ne_of_lt (Nat.lt_of_lt_of_le hz3 (Nat.le_trans (hb7).size (Nat.le_refl _)))))
  refine Eng.stB (v := (dg (childS sd [99, 104, 97, 105, 110] i))) rfl rfl rfl sz45_on rfl hk11 rfl rfl (cs' := (bcs (childS sd [99, 104, 97, 105, 110] i))) rfl ((bcs_length _).trans (childS_len _ _ _)) (bcs_one _) ?_
  intro w12 hk12 hg12
  refine Eng.nil ?_
  refine hK10 _ _ ?_
  refine Eng.rt ?_
  refine Eng.ret (Eng.res1 (v1 := (dg (childS sd [99, 104, 97, 105, 110] i))) rfl (Eng.rdc rfl (Eng.lvB ag45_on sz45_on hk12 ((bcs_length _).trans (childS_len _ _ _)) rfl))) ?_
  have hB0_3 : Below w.heap.size w w7 := (hB0_2).trans (hb7.mono (hB0_2).size)
  have hB0_4 : Below w.heap.size w w8 := (hB0_3).trans (hb8.mono (hB0_3).size)
  have hB0_5 : Below w.heap.size w w9 := (hB0_4).grown hg9 (hB0_4).size (fun k e => by cases e; exact Nat.le_trans (hB0_3).size (Nat.le_refl _))
  have hB0_6 : Below w.heap.size w w12 := (hB0_5).grown hg12 (hB0_5).size (fun k e => by cases e; exact Nat.le_trans (hb2).size (Nat.le_refl _))
  exact ⟨rfl, hB0_6⟩
set_option maxRecDepth 100000 in
set_option maxHeartbeats 4000000 in
theorem pub_calls (sd : List UInt8) (w : World) (h32 : sd.length = 32) (hKn : Kon w) : Calls Tryd.prog 120 #[(dg sd)] w (fun e w' => e = .returned (dg (pubS sd)) ∧ Below w.heap.size w w') := by
  refine Eng.enter (l := [(dg sd)]) Tryd.func120 rfl 25 rfl (by simp) ?_
  refine Eng.seqk fun K1 hK1 => ?_
  refine Eng.reg ?_
  refine Eng.bo (v := (dg sd)) (cs := (bcs sd)) rfl rfl rfl rfl rfl ?_
  intro w2 hk2 hb2 hz2
  refine Eng.al rfl rfl rfl zr45_on (cs := (bcs Oct.dz)) rfl ?_
  intro w3 hk3 hb3 hz3
  refine Eng.nil ?_
  refine hK1 _ _ ?_
  refine Eng.seqk fun K4 hK4 => ?_
  refine Eng.reg ?_
  have hk5 := (hk2).below hb3
  refine Eng.sv rfl rfl (Eng.x_ldB (v := (dg sd)) rfl ag45_on sz45_on rfl hk5 ((bcs_length _).trans h32) rfl) ?_
  have hB0_2 : Below w.heap.size w w3 := (hb2).trans (hb3.mono (hb2).size)
  have hr6 := (hKn).below hB0_2
  refine Eng.sc rfl (Eng.xc (vl := [(dg sd)]) rfl rfl rfl en179_on) (salted_calls sd _ h32 hr6) ?_
  rintro _ w7 ⟨rfl, hb7⟩
  refine Eng.aft_v rfl ?_
  refine Eng.al rfl rfl rfl zr45_on (cs := (bcs Oct.dz)) rfl ?_
  intro w8 hk8 hb8 hz8
  refine Eng.stB (v := (dg (saltS sd))) rfl rfl rfl sz45_on rfl hk8 rfl rfl (cs' := (bcs (saltS sd))) rfl ((bcs_length _).trans (childS_len _ _ _)) (bcs_one _) ?_
  intro w9 hk9 hg9
  refine Eng.nil ?_
  refine hK4 _ _ ?_
  refine Eng.seqk fun K10 hK10 => ?_
  refine Eng.reg ?_
  refine Eng.bs (vs := [(.int .u8 3)]) (cs := (bcs [3])) rfl rfl rfl Tryd.underlying48 in5_on rfl (by decide) rfl rfl (by decide) (by decide) (by simp [Value.cells]) rfl ?_
  intro w11 hk11 hb11 hz11
  have hk12 := (hk9).below hb11
  refine Eng.sv rfl rfl (Eng.x_slA rfl Tryd.underlying45 sz5_on rfl) ?_
  refine Eng.apB rfl rfl rfl rfl (Eng.own_lit (base := w9.heap.size) hk11 (Nat.le_refl _) (Nat.le_of_ble_eq_true rfl)) rfl (Rd.of_blk hk12 32 (childS_len _ _ _) (by decide)) (by simp only [List.length_cons, List.length_nil, List.length_append, childS_len, saltS]; omega) (hb11).size ?_
  intro v13 w13 ho13 hg13
  refine Eng.sv rfl rfl (Eng.x_as (v := v13) rfl rfl) ?_
  refine Eng.nil ?_
  refine hK10 _ _ ?_
  refine Eng.seqk fun K14 hK14 => ?_
  refine Eng.seqk fun K15 hK15 => ?_
  refine Eng.reg ?_
  refine Eng.sv rfl rfl (Eng.x_mv (v := (.int .i64 0)) rfl rfl) ?_
  refine Eng.nil ?_
  refine hK15 _ _ ?_
  refine Eng.blk ?_
  have hB1_3 : Below w2.heap.size w2 w7 := (hb3).trans (hb7.mono (hb3).size)
  have hB1_4 : Below w2.heap.size w2 w8 := (hB1_3).trans (hb8.mono (hB1_3).size)
  have hB1_5 : Below w2.heap.size w2 w9 := (hB1_4).grown hg9 (hB1_4).size (fun k e => by cases e; exact Nat.le_trans (hB1_3).size (Nat.le_refl _))
  have hk17 := (((((hk5).below hb7).below hb8).grown hg9 (fun e => absurd (Option.some.inj e) (Nat.ne_of_lt (Nat.lt_of_lt_of_le hz2 (Nat.le_trans (hB1_3).size (Nat.le_refl _)))))).below hb11).grown hg13 (fun e => absurd ((World.ownsRow.lt (Eng.own_lit (base := w9.heap.size) hk11 (Nat.le_refl _) (Nat.le_of_ble_eq_true rfl))) _ e.symm).1 (Nat.not_le_of_lt (Nat.lt_of_lt_of_le hz2 (hB1_5).size)))
  have hB2_4 : Below w3.heap.size w3 w8 := (hb7).trans (hb8.mono (hb7).size)
  have hB2_5 : Below w3.heap.size w3 w9 := (hB2_4).grown hg9 (hB2_4).size (fun k e => by cases e; exact Nat.le_trans (hb7).size (Nat.le_refl _))
  have hk18 := (((((hk3).below hb7).below hb8).grown hg9 (fun e => absurd (Option.some.inj e) (Nat.ne_of_lt (Nat.lt_of_lt_of_le hz3 (Nat.le_trans (hb7).size (Nat.le_refl _)))))).below hb11).grown hg13 (fun e => absurd ((World.ownsRow.lt (Eng.own_lit (base := w9.heap.size) hk11 (Nat.le_refl _) (Nat.le_of_ble_eq_true rfl))) _ e.symm).1 (Nat.not_le_of_lt (Nat.lt_of_lt_of_le hz3 (hB2_5).size)))
  have hk19 := (hk12).grown hg13 (fun e => absurd ((World.ownsRow.lt (Eng.own_lit (base := w9.heap.size) hk11 (Nat.le_refl _) (Nat.le_of_ble_eq_true rfl))) _ e.symm).1 (Nat.not_le_of_lt (Nat.lt_of_lt_of_le hz8 (hg9).size)))
  have hB0_3 : Below w.heap.size w w7 := (hB0_2).trans (hb7.mono (hB0_2).size)
  have hB0_4 : Below w.heap.size w w8 := (hB0_3).trans (hb8.mono (hB0_3).size)
  have hB0_5 : Below w.heap.size w w9 := (hB0_4).grown hg9 (hB0_4).size (fun k e => by cases e; exact Nat.le_trans (hB0_3).size (Nat.le_refl _))
  have hB0_6 : Below w.heap.size w w11 := (hB0_5).trans (hb11.mono (hB0_5).size)
  have hB0_7 : Below w.heap.size w w13 := (hB0_6).grown hg13 (hB0_6).size (fun k e => Nat.le_trans (hB0_5).size ((World.ownsRow.lt (Eng.own_lit (base := w9.heap.size) hk11 (Nat.le_refl _) (Nat.le_of_ble_eq_true rfl))) _ e).1)
  refine Eng.loopN (fun zz u w' => ∃ (i : Nat), ∃ (vb : Value), zz = 133 - i ∧ i ≤ 133 ∧ Eng.Has u [(1, (.pointer (some ⟨w.heap.size, 0, none⟩))), (2, (.pointer (some ⟨w2.heap.size, 0, none⟩))), (3, (.pointer (some ⟨w7.heap.size, 0, none⟩))), (4, vb), (11, (.int .i64 (i : Int)))] ∧ Below w.heap.size w w' ∧ w13.heap.size ≤ w'.heap.size ∧ Blk w' w.heap.size 45 (bcs sd) ∧ Blk w' w2.heap.size 45 (bcs Oct.dz) ∧ Blk w' w7.heap.size 45 (bcs (saltS sd)) ∧ Oct.Own w9.heap.size w' vb (pubB sd i)) _ ⟨0, v13, rfl, by omega, ⟨rfl, rfl, rfl, rfl, (Eng.ie (by first | omega | rfl)), trivial⟩, hB0_7, (Nat.le_refl _), hk17, hk18, hk19, (by rw [pubB_zero]; exact ho13)⟩ ?_
  rintro _ u16 w16 ⟨i, vb, rfl, hs16_0, hH16, hBL16, hzL16, hkL16_0, hkL16_1, hkL16_2, hrL16_0⟩ K16 hK16
  obtain ⟨u16, rfl⟩ := hH16.ex
  have hpl := pubB_len sd i
  refine Eng.seqk fun K20 hK20 => ?_
  refine Eng.reg ?_
  by_cases h12 : ((i : Int) : Int) < 133
  · skip
    refine Eng.sv rfl rfl (Eng.x_lt (r := true) rfl rfl rfl (decide_eq_true (by omega))) ?_
    refine Eng.nil ?_
    refine hK20 _ _ ?_
    refine Eng.seqk fun K21 hK21 => ?_
    refine Eng.cond_t rfl ?_
    refine Eng.skp ?_
    refine hK21 _ _ ?_
    refine Eng.seqk fun K22 hK22 => ?_
    refine Eng.blk ?_
    refine Eng.seqk fun K23 hK23 => ?_
    refine Eng.reg ?_
    refine Eng.sv rfl rfl (Eng.x_mv (v := (.int .i64 (i : Int))) rfl rfl) ?_
    refine Eng.sv rfl rfl (Eng.x_as (v := (.int .i64 (i : Int))) rfl rfl) ?_
    refine Eng.nil ?_
    refine hK23 _ _ ?_
    have hr25 := (hKn).below hBL16
    refine Eng.draw 8 [fun vQ _ => vQ = vb, fun vQ _ => vQ = (dg (saltS sd)), fun vQ _ => vQ = (.int .i64 (i : Int)), fun vQ _ => vQ = (dg sd), fun vQ _ => vQ = (.int .i64 (i : Int)), fun vQ _ => vQ = (dg (secretS sd i)), fun vQ _ => vQ = (dg (chainN (saltS sd) i 3 0 (secretS sd i))), fun (v : Value) (W : World) => Oct.Own w16.heap.size W v (pubB sd i ++ (chainN (saltS sd) i 3 0 (secretS sd i)))] (by kernel_rfl) (by kernel_rfl) (by kernel_rfl) (by kernel_rfl) rfl rfl ?_ ?_ ?_
    · exact ⟨fun _ _ _ h _ => h, fun _ _ _ h _ => h, fun _ _ _ h _ => h, fun _ _ _ h _ => h, fun _ _ _ h _ => h, fun _ _ _ h _ => h, fun _ _ _ h _ => h, fun _ _ _ h hb => h.below hb, trivial⟩
    · refine ⟨?_, ?_, ?_, ?_, ?_, ?_, ?_, ?_, trivial⟩
      · intro u' W hbW hkp hdp K hK
        refine Eng.dv rfl rfl ?_ (hK _ _ (Below.refl _ _) rfl)
        exact (Eng.x_mv (v := vb) rfl (show Eng.opv 25 u' (.tmp 4) = vb from hkp 4 rfl))
      · intro u' W hbW hkp hdp K hK
        refine Eng.dv rfl rfl ?_ (hK _ _ (Below.refl _ _) rfl)
        exact (Eng.x_ldB (v := (dg (saltS sd))) rfl ag45_on sz45_on (show Eng.opv 25 u' (.tmp 3) = (.pointer (some ⟨w7.heap.size, 0, none⟩)) from hkp 3 rfl) ((hkL16_2).below hbW) ((bcs_length _).trans (childS_len _ _ _)) rfl)
      · intro u' W hbW hkp hdp K hK
        refine Eng.dv rfl rfl ?_ (hK _ _ (Below.refl _ _) rfl)
        exact (Eng.x_mv (v := (.int .i64 (i : Int))) rfl (show Eng.opv 25 u' (.tmp 5) = (.int .i64 (i : Int)) from hkp 5 rfl))
      · intro u' W hbW hkp hdp K hK
        refine Eng.dv rfl rfl ?_ (hK _ _ (Below.refl _ _) rfl)
        exact (Eng.x_ldB (v := (dg sd)) rfl ag45_on sz45_on (show Eng.opv 25 u' (.tmp 1) = (.pointer (some ⟨w.heap.size, 0, none⟩)) from hkp 1 rfl) ((hkL16_0).below hbW) ((bcs_length _).trans h32) rfl)
      · intro u' W hbW hkp hdp K hK
        refine Eng.dv rfl rfl ?_ (hK _ _ (Below.refl _ _) rfl)
        exact (Eng.x_mv (v := (.int .i64 (i : Int))) rfl (show Eng.opv 25 u' (.tmp 5) = (.int .i64 (i : Int)) from hkp 5 rfl))
      · intro u' W hbW hkp hdp K hK
        have e3 : u' 17 = (dg sd) := hdp.1
        have e4 : u' 18 = (.int .i64 (i : Int)) := hdp.2.1
        refine Eng.dc (vs := #[(dg sd), (.int .i64 (i : Int))]) rfl ?_ (secret_calls sd i _ h32 (by omega) ((hr25).below hbW)) ?_
        · exact Eng.xc (xs := #[(Go.Operand.tmp 17), (Go.Operand.tmp 18)]) (vl := [(dg sd), (.int .i64 (i : Int))]) rfl rfl (Eng.lc (show Eng.opv 25 u' (.tmp 17) = (dg sd) from e3) (Eng.lc (show Eng.opv 25 u' (.tmp 18) = (.int .i64 (i : Int)) from e4) rfl)) en180_on
        rintro _ W2 ⟨rfl, hb2⟩
        exact Eng.aft_v rfl (hK _ _ hb2 rfl)
      · intro u' W hbW hkp hdp K hK
        have e1 : u' 15 = (dg (saltS sd)) := hdp.1
        have e2 : u' 16 = (.int .i64 (i : Int)) := hdp.2.1
        have e5 : u' 19 = (dg (secretS sd i)) := hdp.2.2.1
        refine Eng.dc (vs := #[(dg (saltS sd)), (.int .i64 (i : Int)), (.int .i64 0), (.int .i64 3), (dg (secretS sd i))]) rfl ?_ (chain_calls (saltS sd) (secretS sd i) i 0 3 _ (childS_len _ _ _) (childS_len _ _ _) (by omega) (by omega) (by omega) ((hr25).below hbW)) ?_
        · exact Eng.xc (xs := #[(Go.Operand.tmp 15), (Go.Operand.tmp 16), (Go.Operand.const (Go.Value.int Go.IntKind.i64 0)), (Go.Operand.const (Go.Value.int Go.IntKind.i64 3)), (Go.Operand.tmp 19)]) (vl := [(dg (saltS sd)), (.int .i64 (i : Int)), (.int .i64 0), (.int .i64 3), (dg (secretS sd i))]) rfl rfl (Eng.lc (show Eng.opv 25 u' (.tmp 15) = (dg (saltS sd)) from e1) (Eng.lc (show Eng.opv 25 u' (.tmp 16) = (.int .i64 (i : Int)) from e2) (Eng.lc rfl (Eng.lc rfl (Eng.lc (show Eng.opv 25 u' (.tmp 19) = (dg (secretS sd i)) from e5) rfl))))) en131_on
        rintro _ W2 ⟨rfl, hb2⟩
        exact Eng.aft_v rfl (hK _ _ hb2 rfl)
      · intro u' W hbW hkp hdp K hK
        have e0 : u' 14 = vb := hdp.1
        have e6 : u' 20 = (dg (chainN (saltS sd) i 3 0 (secretS sd i))) := hdp.2.1
        refine Eng.dc (vs := #[vb, (dg (chainN (saltS sd) i 3 0 (secretS sd i)))]) rfl ?_ (putD_own ⟨(((hrL16_0).below hbW)).rd, by rw [hpl]; omega⟩ (chainN_len _ _ _ _ _ (childS_len _ _ _))) ?_
        · exact Eng.xc (xs := #[(Go.Operand.tmp 14), (Go.Operand.tmp 20)]) (vl := [vb, (dg (chainN (saltS sd) i 3 0 (secretS sd i)))]) rfl rfl (Eng.lc (show Eng.opv 25 u' (.tmp 14) = vb from e0) (Eng.lc (show Eng.opv 25 u' (.tmp 20) = (dg (chainN (saltS sd) i 3 0 (secretS sd i))) from e6) rfl)) en130_on
        rintro _ W2 ⟨v2, rfl, ho2, hb2⟩
        exact Eng.aft_v rfl (hK _ _ hb2 (ho2.mono hbW.size))
    · intro ud24 w24 hb24 hkp24 ⟨f24_0, f24_1, f24_2, f24_3, f24_4, f24_5, f24_6, f24_7, _⟩
      obtain ⟨vd24_7, hv24_7⟩ : ∃ v, v = ud24 21 := ⟨_, rfl⟩
      have g24_7 : (fun (v : Value) (W : World) => Oct.Own w16.heap.size W v (pubB sd i ++ (chainN (saltS sd) i 3 0 (secretS sd i)))) vd24_7 w24 := by rw [hv24_7]; exact f24_7
      obtain rfl := Eng.collect (l := [(14, vb), (15, (dg (saltS sd))), (16, (.int .i64 (i : Int))), (17, (dg sd)), (18, (.int .i64 (i : Int))), (19, (dg (secretS sd i))), (20, (dg (chainN (saltS sd) i 3 0 (secretS sd i)))), (21, vd24_7)]) hkp24 ⟨f24_0, f24_1, f24_2, f24_3, f24_4, f24_5, f24_6, hv24_7.symm, trivial⟩ rfl
      refine Eng.sv rfl rfl (Eng.x_as (v := vd24_7) rfl rfl) ?_
      refine Eng.nil ?_
      refine Eng.nb ?_
      refine hK22 _ _ ?_
      refine Eng.reg ?_
      refine Eng.sv rfl rfl (Eng.x_add rfl rfl rfl (Eng.w64 (r := ((i + 1 : Nat) : Int)) (by omega))) ?_
      refine Eng.sv rfl rfl (Eng.x_mv (v := (.int .i64 ((i + 1 : Nat) : Int))) rfl rfl) ?_
      refine Eng.nil ?_
      have hB5_7 : Below w9.heap.size w9 w13 := (hb11).grown hg13 (hb11).size (fun k e => Nat.le_trans (Nat.le_refl _) ((World.ownsRow.lt (Eng.own_lit (base := w9.heap.size) hk11 (Nat.le_refl _) (Nat.le_of_ble_eq_true rfl))) _ e).1)
      have hB0_9 : Below w.heap.size w w24 := (hBL16).trans (hb24.mono (hBL16).size)
      have hk26 := (hkL16_0).below hb24
      have hk27 := (hkL16_1).below hb24
      have hk28 := (hkL16_2).below hb24
      exact hK16 _ _ _ ⟨i + 1, vd24_7, rfl, by omega, ⟨rfl, rfl, rfl, rfl, (Eng.ie (by first | omega | rfl)), trivial⟩, hB0_9, (Nat.le_trans hzL16 (hb24).size), hk26, hk27, hk28, (by rw [← pubB_succ]; exact (g24_7).mono (Nat.le_trans (hB5_7).size hzL16))⟩ (by omega)
  · skip
    refine Eng.sv rfl rfl (Eng.x_lt (r := false) rfl rfl rfl (decide_eq_false (by omega))) ?_
    refine Eng.nil ?_
    refine hK20 _ _ ?_
    refine Eng.seqk fun K29 hK29 => ?_
    refine Eng.cond_f rfl ?_
    refine Eng.xt ?_
    refine Eng.te ?_
    refine Eng.te ?_
    refine Eng.be ?_
    refine hK14 _ _ ?_
    refine Eng.seqk fun K30 hK30 => ?_
    refine Eng.reg ?_
    refine Eng.sv rfl rfl (Eng.x_mv (v := vb) rfl rfl) ?_
    have hr31 := (hKn).below hBL16
    refine Eng.sc rfl (Eng.xc (vl := [vb]) rfl rfl rfl en132_on) (hsum_calls _ (pubB sd i) _ (hrL16_0).rd (Inn.own hrL16_0) (by rw [hpl]; omega) hr31) ?_
    rintro _ w32 ⟨rfl, hb32⟩
    refine Eng.aft_v rfl ?_
    have hk33 := (hkL16_1).below hb32
    refine Eng.stB (v := (dg (sha (pubB sd i)))) rfl rfl rfl sz45_on rfl hk33 rfl rfl (cs' := (bcs (sha (pubB sd i)))) rfl ((bcs_length _).trans (sha_len _)) (bcs_one _) ?_
    intro w34 hk34 hg34
    refine Eng.nil ?_
    refine hK30 _ _ ?_
    refine Eng.rt ?_
    refine Eng.ret (Eng.res1 (v1 := (dg (sha (pubB sd i)))) rfl (Eng.rdc rfl (Eng.lvB ag45_on sz45_on hk34 ((bcs_length _).trans (sha_len _)) rfl))) ?_
    have q_ : i = 133 := by omega
    have hB0_9 : Below w.heap.size w w32 := (hBL16).trans (hb32.mono (hBL16).size)
    have hB0_10 : Below w.heap.size w w34 := (hB0_9).grown hg34 (hB0_9).size (fun k e => by cases e; exact Nat.le_trans (hb2).size (Nat.le_refl _))
    exact ⟨by rw [q_]; rfl, hB0_10⟩
set_option maxRecDepth 100000 in
set_option maxHeartbeats 4000000 in
theorem rpub_calls (sd : List UInt8) (w : World) (h32 : sd.length = 32) : Calls Tryd.prog 126 #[(dg sd)] w (fun e w' => e = .returned (dg (pubS sd)) ∧ Below w.heap.size w w') := by
  refine Eng.enter (l := [(dg sd)]) Tryd.func126 rfl 32 rfl (by simp) ?_
  refine Eng.seqk fun K1 hK1 => ?_
  refine Eng.reg ?_
  refine Eng.bo (v := (dg sd)) (cs := (bcs sd)) rfl rfl rfl rfl rfl ?_
  intro w2 hk2 hb2 hz2
  refine Eng.al rfl rfl rfl zr45_on (cs := (bcs Oct.dz)) rfl ?_
  intro w3 hk3 hb3 hz3
  refine Eng.nil ?_
  refine hK1 _ _ ?_
  refine Eng.seqk fun K4 hK4 => ?_
  refine Eng.reg ?_
  have hk5 := (hk2).below hb3
  refine Eng.sv rfl rfl (Eng.x_ldB (v := (dg sd)) rfl ag45_on sz45_on rfl hk5 ((bcs_length _).trans h32) rfl) ?_
  refine Eng.sc rfl (Eng.xc (vl := [(dg sd)]) rfl rfl rfl en182_on) (rsalt_calls sd _ h32) ?_
  rintro _ w6 ⟨rfl, hb6⟩
  refine Eng.aft_v rfl ?_
  refine Eng.al rfl rfl rfl zr45_on (cs := (bcs Oct.dz)) rfl ?_
  intro w7 hk7 hb7 hz7
  refine Eng.stB (v := (dg (saltS sd))) rfl rfl rfl sz45_on rfl hk7 rfl rfl (cs' := (bcs (saltS sd))) rfl ((bcs_length _).trans (childS_len _ _ _)) (bcs_one _) ?_
  intro w8 hk8 hg8
  refine Eng.nil ?_
  refine hK4 _ _ ?_
  refine Eng.seqk fun K9 hK9 => ?_
  refine Eng.reg ?_
  refine Eng.bs (vs := [(.int .u8 3)]) (cs := (bcs [3])) rfl rfl rfl Tryd.underlying48 in5_on rfl (by decide) rfl rfl (by decide) (by decide) (by simp [Value.cells]) rfl ?_
  intro w10 hk10 hb10 hz10
  have hk11 := (hk8).below hb10
  refine Eng.sv rfl rfl (Eng.x_slA rfl Tryd.underlying45 sz5_on rfl) ?_
  refine Eng.apB rfl rfl rfl rfl (Eng.own_lit (base := w8.heap.size) hk10 (Nat.le_refl _) (Nat.le_of_ble_eq_true rfl)) rfl (Rd.of_blk hk11 32 (childS_len _ _ _) (by decide)) (by simp only [List.length_cons, List.length_nil, List.length_append, childS_len, saltS]; omega) (hb10).size ?_
  intro v12 w12 ho12 hg12
  refine Eng.sv rfl rfl (Eng.x_as (v := v12) rfl rfl) ?_
  refine Eng.nil ?_
  refine hK9 _ _ ?_
  refine Eng.seqk fun K13 hK13 => ?_
  refine Eng.seqk fun K14 hK14 => ?_
  refine Eng.reg ?_
  refine Eng.sv rfl rfl (Eng.x_as (v := (.int .i64 0)) rfl rfl) ?_
  refine Eng.nil ?_
  refine hK14 _ _ ?_
  refine Eng.blk ?_
  have hB1_3 : Below w2.heap.size w2 w6 := (hb3).trans (hb6.mono (hb3).size)
  have hB1_4 : Below w2.heap.size w2 w7 := (hB1_3).trans (hb7.mono (hB1_3).size)
  have hB1_5 : Below w2.heap.size w2 w8 := (hB1_4).grown hg8 (hB1_4).size (fun k e => by cases e; exact Nat.le_trans (hB1_3).size (Nat.le_refl _))
  have hk16 := (((((hk5).below hb6).below hb7).grown hg8 (fun e => absurd (Option.some.inj e) (Nat.ne_of_lt (Nat.lt_of_lt_of_le hz2 (Nat.le_trans (hB1_3).size (Nat.le_refl _)))))).below hb10).grown hg12 (fun e => absurd ((World.ownsRow.lt (Eng.own_lit (base := w8.heap.size) hk10 (Nat.le_refl _) (Nat.le_of_ble_eq_true rfl))) _ e.symm).1 (Nat.not_le_of_lt (Nat.lt_of_lt_of_le hz2 (hB1_5).size)))
  have hB2_4 : Below w3.heap.size w3 w7 := (hb6).trans (hb7.mono (hb6).size)
  have hB2_5 : Below w3.heap.size w3 w8 := (hB2_4).grown hg8 (hB2_4).size (fun k e => by cases e; exact Nat.le_trans (hb6).size (Nat.le_refl _))
  have hk17 := (((((hk3).below hb6).below hb7).grown hg8 (fun e => absurd (Option.some.inj e) (Nat.ne_of_lt (Nat.lt_of_lt_of_le hz3 (Nat.le_trans (hb6).size (Nat.le_refl _)))))).below hb10).grown hg12 (fun e => absurd ((World.ownsRow.lt (Eng.own_lit (base := w8.heap.size) hk10 (Nat.le_refl _) (Nat.le_of_ble_eq_true rfl))) _ e.symm).1 (Nat.not_le_of_lt (Nat.lt_of_lt_of_le hz3 (hB2_5).size)))
  have hk18 := (hk11).grown hg12 (fun e => absurd ((World.ownsRow.lt (Eng.own_lit (base := w8.heap.size) hk10 (Nat.le_refl _) (Nat.le_of_ble_eq_true rfl))) _ e.symm).1 (Nat.not_le_of_lt (Nat.lt_of_lt_of_le hz7 (hg8).size)))
  have hB0_2 : Below w.heap.size w w3 := (hb2).trans (hb3.mono (hb2).size)
  have hB0_3 : Below w.heap.size w w6 := (hB0_2).trans (hb6.mono (hB0_2).size)
  have hB0_4 : Below w.heap.size w w7 := (hB0_3).trans (hb7.mono (hB0_3).size)
  have hB0_5 : Below w.heap.size w w8 := (hB0_4).grown hg8 (hB0_4).size (fun k e => by cases e; exact Nat.le_trans (hB0_3).size (Nat.le_refl _))
  have hB0_6 : Below w.heap.size w w10 := (hB0_5).trans (hb10.mono (hB0_5).size)
  have hB0_7 : Below w.heap.size w w12 := (hB0_6).grown hg12 (hB0_6).size (fun k e => Nat.le_trans (hB0_5).size ((World.ownsRow.lt (Eng.own_lit (base := w8.heap.size) hk10 (Nat.le_refl _) (Nat.le_of_ble_eq_true rfl))) _ e).1)
  refine Eng.loopN (fun zz u w' => ∃ (i : Nat), ∃ (vb : Value), zz = 133 - i ∧ i ≤ 133 ∧ Eng.Has u [(1, (.pointer (some ⟨w.heap.size, 0, none⟩))), (2, (.pointer (some ⟨w2.heap.size, 0, none⟩))), (3, (.pointer (some ⟨w6.heap.size, 0, none⟩))), (4, vb), (5, (.int .i64 (i : Int)))] ∧ Below w.heap.size w w' ∧ w12.heap.size ≤ w'.heap.size ∧ Blk w' w.heap.size 45 (bcs sd) ∧ Blk w' w2.heap.size 45 (bcs Oct.dz) ∧ Blk w' w6.heap.size 45 (bcs (saltS sd)) ∧ Oct.Own w8.heap.size w' vb (pubB sd i)) _ ⟨0, v12, rfl, by omega, ⟨rfl, rfl, rfl, rfl, (Eng.ie (by first | omega | rfl)), trivial⟩, hB0_7, (Nat.le_refl _), hk16, hk17, hk18, (by rw [pubB_zero]; exact ho12)⟩ ?_
  rintro _ u15 w15 ⟨i, vb, rfl, hs15_0, hH15, hBL15, hzL15, hkL15_0, hkL15_1, hkL15_2, hrL15_0⟩ K15 hK15
  obtain ⟨u15, rfl⟩ := hH15.ex
  have hpl := pubB_len sd i
  refine Eng.seqk fun K19 hK19 => ?_
  refine Eng.seqk fun K20 hK20 => ?_
  refine Eng.reg ?_
  refine Eng.sv rfl rfl (Eng.x_mv (v := (.int .i64 (i : Int))) rfl rfl) ?_
  by_cases h14 : ((i : Int) : Int) < 133
  · skip
    refine Eng.sv rfl rfl (Eng.x_lt (r := true) rfl rfl rfl (decide_eq_true (by omega))) ?_
    refine Eng.nil ?_
    refine hK20 _ _ ?_
    refine Eng.cond_t rfl ?_
    refine Eng.skp ?_
    refine hK19 _ _ ?_
    refine Eng.seqk fun K21 hK21 => ?_
    refine Eng.blk ?_
    refine Eng.seqk fun K22 hK22 => ?_
    refine Eng.reg ?_
    refine Eng.sv rfl rfl (Eng.x_ldB (v := (dg sd)) rfl ag45_on sz45_on rfl hkL15_0 ((bcs_length _).trans h32) rfl) ?_
    refine Eng.sv rfl rfl (Eng.x_mv (v := (.int .i64 (i : Int))) rfl rfl) ?_
    refine Eng.sc rfl (Eng.xc (vl := [(dg sd), (.string (str [99, 104, 97, 105, 110])), (.int .i64 (i : Int))]) rfl rfl rfl en183_on) (rchild_calls sd [99, 104, 97, 105, 110] i _ h32 (by decide) (by decide) (by omega)) ?_
    rintro _ w23 ⟨rfl, hb23⟩
    refine Eng.aft_v rfl ?_
    refine Eng.sv rfl rfl (Eng.x_mv (v := (.tuple #[(dg (secretS sd i)), (.int .i64 0)])) rfl rfl) ?_
    refine Eng.sv rfl rfl (Eng.x_ext (v := (dg (secretS sd i))) rfl rfl rfl) ?_
    refine Eng.sv rfl rfl (Eng.x_ext (v := (.int .i64 0)) rfl rfl rfl) ?_
    refine Eng.al rfl rfl rfl zr45_on (cs := (bcs Oct.dz)) rfl ?_
    intro w24 hk24 hb24 hz24
    refine Eng.stB (v := (dg (secretS sd i))) rfl rfl rfl sz45_on rfl hk24 rfl rfl (cs' := (bcs (secretS sd i))) rfl ((bcs_length _).trans (childS_len _ _ _)) (bcs_one _) ?_
    intro w25 hk25 hg25
    refine Eng.sv rfl rfl (Eng.x_as (v := (.int .i64 0)) rfl rfl) ?_
    refine Eng.nil ?_
    refine hK22 _ _ ?_
    refine Eng.seqk fun K26 hK26 => ?_
    refine Eng.reg ?_
    have hk27 := (((hkL15_2).below hb23).below hb24).grown hg25 (fun e => absurd (Option.some.inj e) (Nat.ne_of_lt (Nat.lt_of_lt_of_le hz7 (Nat.le_trans (Nat.le_trans (Nat.le_trans (Nat.le_trans (Nat.le_trans (hg8).size (hb10).size) (hg12).size) hzL15) (hb23).size) (Nat.le_refl _)))))
    refine Eng.sv rfl rfl (Eng.x_ldB (v := (dg (saltS sd))) rfl ag45_on sz45_on rfl hk27 ((bcs_length _).trans (childS_len _ _ _)) rfl) ?_
    refine Eng.sv rfl rfl (Eng.x_mv (v := (.int .i64 (i : Int))) rfl rfl) ?_
    refine Eng.sv rfl rfl (Eng.x_ldB (v := (dg (secretS sd i))) rfl ag45_on sz45_on rfl hk25 ((bcs_length _).trans (childS_len _ _ _)) rfl) ?_
    refine Eng.sc rfl (Eng.xc (vl := [(dg (saltS sd)), (.int .i64 (i : Int)), (.int .i64 0), (.int .i64 3), (dg (secretS sd i))]) rfl rfl rfl en138_on) (rchain_calls (saltS sd) (secretS sd i) i 0 3 _ (childS_len _ _ _) (childS_len _ _ _) (by omega) (by omega) (by omega)) ?_
    rintro _ w28 ⟨rfl, hb28⟩
    refine Eng.aft_v rfl ?_
    have hk29 := (hk25).below hb28
    refine Eng.stB (v := (dg (chainN (saltS sd) i 3 0 (secretS sd i)))) rfl rfl rfl sz45_on rfl hk29 ((bcs_length _).trans (childS_len _ _ _)) rfl (cs' := (bcs (chainN (saltS sd) i 3 0 (secretS sd i)))) rfl ((bcs_length _).trans (chainN_len _ _ _ _ _ (childS_len _ _ _))) (bcs_one _) ?_
    intro w30 hk30 hg30
    refine Eng.nil ?_
    refine hK26 _ _ ?_
    refine Eng.reg ?_
    refine Eng.sv rfl rfl (Eng.x_mv (v := vb) rfl rfl) ?_
    refine Eng.sv rfl rfl (Eng.x_slA rfl Tryd.underlying45 sz5_on rfl) ?_
    have hr32 := (((((hrL15_0).below hb23).below hb24).kept hg25 (.inr (fun e => absurd ((World.ownsRow.lt hrL15_0) _ e).2 (Nat.not_lt_of_le (Nat.le_trans (hb23).size (Nat.le_refl _)))))).below hb28).kept hg30 (.inr (fun e => absurd ((World.ownsRow.lt hrL15_0) _ e).2 (Nat.not_lt_of_le (Nat.le_trans (hb23).size (Nat.le_refl _)))))
    have hB5_7 : Below w8.heap.size w8 w12 := (hb10).grown hg12 (hb10).size (fun k e => Nat.le_trans (Nat.le_refl _) ((World.ownsRow.lt (Eng.own_lit (base := w8.heap.size) hk10 (Nat.le_refl _) (Nat.le_of_ble_eq_true rfl))) _ e).1)
    refine Eng.apB rfl rfl rfl rfl hr32 rfl (Rd.of_blk hk30 32 (chainN_len _ _ _ _ _ (childS_len _ _ _)) (by decide)) (by rw [hpl, chainN_len _ _ _ _ _ (secretS_len _ _)]; omega) (Nat.le_trans (Nat.le_trans (Nat.le_trans (Nat.le_trans (Nat.le_trans (Nat.le_trans (hB5_7).size hzL15) (hb23).size) (hb24).size) (hg25).size) (hb28).size) (hg30).size) ?_
    intro v31 w31 ho31 hg31
    refine Eng.sv rfl rfl (Eng.x_as (v := v31) rfl rfl) ?_
    refine Eng.nil ?_
    refine Eng.nb ?_
    refine hK21 _ _ ?_
    refine Eng.reg ?_
    refine Eng.sv rfl rfl (Eng.x_mv (v := (.int .i64 (i : Int))) rfl rfl) ?_
    refine Eng.sv rfl rfl (Eng.x_add rfl rfl rfl (Eng.w64 (r := ((i + 1 : Nat) : Int)) (by omega))) ?_
    refine Eng.sv rfl rfl (Eng.x_as (v := (.int .i64 ((i + 1 : Nat) : Int))) rfl rfl) ?_
    refine Eng.nil ?_
    have hB0_9 : Below w.heap.size w w23 := (hBL15).trans (hb23.mono (hBL15).size)
    have hB0_10 : Below w.heap.size w w24 := (hB0_9).trans (hb24.mono (hB0_9).size)
    have hB0_11 : Below w.heap.size w w25 := (hB0_10).grown hg25 (hB0_10).size (fun k e => by cases e; exact Nat.le_trans (hB0_9).size (Nat.le_refl _))
    have hB0_12 : Below w.heap.size w w28 := (hB0_11).trans (hb28.mono (hB0_11).size)
    have hB0_13 : Below w.heap.size w w30 := (hB0_12).grown hg30 (hB0_12).size (fun k e => by cases e; exact Nat.le_trans (hB0_9).size (Nat.le_refl _))
    have hB0_14 : Below w.heap.size w w31 := (hB0_13).grown hg31 (hB0_13).size (fun k e => Nat.le_trans (hB0_5).size ((World.ownsRow.lt hrL15_0) _ e).1)
    have hB1_6 : Below w2.heap.size w2 w10 := (hB1_5).trans (hb10.mono (hB1_5).size)
    have hB1_7 : Below w2.heap.size w2 w12 := (hB1_6).grown hg12 (hB1_6).size (fun k e => Nat.le_trans (hB1_5).size ((World.ownsRow.lt (Eng.own_lit (base := w8.heap.size) hk10 (Nat.le_refl _) (Nat.le_of_ble_eq_true rfl))) _ e).1)
    have hk33 := ((((((hkL15_0).below hb23).below hb24).grown hg25 (fun e => absurd (Option.some.inj e) (Nat.ne_of_lt (Nat.lt_of_lt_of_le hz2 (Nat.le_trans (Nat.le_trans (Nat.le_trans (hB1_7).size hzL15) (hb23).size) (Nat.le_refl _)))))).below hb28).grown hg30 (fun e => absurd (Option.some.inj e) (Nat.ne_of_lt (Nat.lt_of_lt_of_le hz2 (Nat.le_trans (Nat.le_trans (Nat.le_trans (hB1_7).size hzL15) (hb23).size) (Nat.le_refl _)))))).grown hg31 (fun e => absurd ((World.ownsRow.lt hrL15_0) _ e.symm).1 (Nat.not_le_of_lt (Nat.lt_of_lt_of_le hz2 (hB1_5).size)))
    have hB2_6 : Below w3.heap.size w3 w10 := (hB2_5).trans (hb10.mono (hB2_5).size)
    have hB2_7 : Below w3.heap.size w3 w12 := (hB2_6).grown hg12 (hB2_6).size (fun k e => Nat.le_trans (hB2_5).size ((World.ownsRow.lt (Eng.own_lit (base := w8.heap.size) hk10 (Nat.le_refl _) (Nat.le_of_ble_eq_true rfl))) _ e).1)
    have hk34 := ((((((hkL15_1).below hb23).below hb24).grown hg25 (fun e => absurd (Option.some.inj e) (Nat.ne_of_lt (Nat.lt_of_lt_of_le hz3 (Nat.le_trans (Nat.le_trans (Nat.le_trans (hB2_7).size hzL15) (hb23).size) (Nat.le_refl _)))))).below hb28).grown hg30 (fun e => absurd (Option.some.inj e) (Nat.ne_of_lt (Nat.lt_of_lt_of_le hz3 (Nat.le_trans (Nat.le_trans (Nat.le_trans (hB2_7).size hzL15) (hb23).size) (Nat.le_refl _)))))).grown hg31 (fun e => absurd ((World.ownsRow.lt hrL15_0) _ e.symm).1 (Nat.not_le_of_lt (Nat.lt_of_lt_of_le hz3 (hB2_5).size)))
    have hk35 := (((hk27).below hb28).grown hg30 (fun e => absurd (Option.some.inj e) (Nat.ne_of_lt (Nat.lt_of_lt_of_le hz7 (Nat.le_trans (Nat.le_trans (Nat.le_trans (Nat.le_trans (Nat.le_trans (hg8).size (hb10).size) (hg12).size) hzL15) (hb23).size) (Nat.le_refl _)))))).grown hg31 (fun e => absurd ((World.ownsRow.lt hrL15_0) _ e.symm).1 (Nat.not_le_of_lt (Nat.lt_of_lt_of_le hz7 (hg8).size)))
    exact hK15 _ _ _ ⟨i + 1, v31, rfl, by omega, ⟨rfl, rfl, rfl, rfl, (Eng.ie (by first | omega | rfl)), trivial⟩, hB0_14, (Nat.le_trans (Nat.le_trans (Nat.le_trans (Nat.le_trans (Nat.le_trans (Nat.le_trans hzL15 (hb23).size) (hb24).size) (hg25).size) (hb28).size) (hg30).size) (hg31).size), hk33, hk34, hk35, (by rw [← pubB_succ]; exact (ho31).mono (Nat.le_refl _))⟩ (by omega)
  · skip
    refine Eng.sv rfl rfl (Eng.x_lt (r := false) rfl rfl rfl (decide_eq_false (by omega))) ?_
    refine Eng.nil ?_
    refine hK20 _ _ ?_
    refine Eng.cond_f rfl ?_
    refine Eng.xt ?_
    refine Eng.te ?_
    refine Eng.te ?_
    refine Eng.be ?_
    refine hK13 _ _ ?_
    refine Eng.seqk fun K36 hK36 => ?_
    refine Eng.reg ?_
    refine Eng.sv rfl rfl (Eng.x_mv (v := vb) rfl rfl) ?_
    refine Eng.sc rfl (Eng.xc (vl := [vb]) rfl rfl rfl en139_on) (rsum_calls _ (pubB sd i) _ (hrL15_0).rd (by rw [hpl]; omega)) ?_
    rintro _ w37 ⟨rfl, hb37⟩
    refine Eng.aft_v rfl ?_
    have hk38 := (hkL15_1).below hb37
    refine Eng.stB (v := (dg (sha (pubB sd i)))) rfl rfl rfl sz45_on rfl hk38 rfl rfl (cs' := (bcs (sha (pubB sd i)))) rfl ((bcs_length _).trans (sha_len _)) (bcs_one _) ?_
    intro w39 hk39 hg39
    refine Eng.nil ?_
    refine hK36 _ _ ?_
    refine Eng.rt ?_
    refine Eng.ret (Eng.res1 (v1 := (dg (sha (pubB sd i)))) rfl (Eng.rdc rfl (Eng.lvB ag45_on sz45_on hk39 ((bcs_length _).trans (sha_len _)) rfl))) ?_
    have q_ : i = 133 := by omega
    have hB0_9 : Below w.heap.size w w37 := (hBL15).trans (hb37.mono (hBL15).size)
    have hB0_10 : Below w.heap.size w w39 := (hB0_9).grown hg39 (hB0_9).size (fun k e => by cases e; exact Nat.le_trans (hb2).size (Nat.le_refl _))
    exact ⟨by rw [q_]; rfl, hB0_10⟩
end Go.Proofs.YtnecgoahdkfbeaaDoor.Mac
