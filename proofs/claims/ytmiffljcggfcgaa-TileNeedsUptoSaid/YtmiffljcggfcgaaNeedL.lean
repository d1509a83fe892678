/- The law TileNeeds: its walk. -/
import Derived.Test.YtmiffljcggfcgaaNeedR
import Derived.Test.YtmiffljcggfcgaaTilEq
namespace Go.Proofs.Ytmiffljcggfcgaa.Til
open Go Go.RowKit Go.Proofs.Ytmiffljcggfcgaa.Cop
set_option linter.unusedVariables false
set_option linter.unusedSimpArgs false
theorem nnames_calls (w : World) : Calls Try.prog 16 #[] w fun e w' => e = .returned (.bool true) ∧ w = w' := by
  go_enter Try.func16, Try.ntmps16
  go_wp2_with fail
  go_ret
  exact ⟨rfl, rfl⟩
set_option maxRecDepth 100000 in
theorem run_neq_node (w : World) (a b a' b' : Int) : (binOp .neq 23 (.agg #[.int .i64 a, .int .i64 b]) (.agg #[.int .i64 a', .int .i64 b'])).run Try.prog w = .ok (.bool (!((a == a') && (b == b')))) w := by
  rw [run_neq_struct]
  have hi : ∀ (e : Nat) (x y : Int), (Op.equalIn (e + 1) 3 (.int .i64 x) (.int .i64 y)).run Try.prog w = .ok (x == y) w := fun e x y => by
    simp [Op.equalIn, run_underlying Try.underlying3]
  have hu : Try.prog.underlying 23 = some (.struct (Try.prog.fieldsOf 23)) := by kernel_rfl
  have hp : Try.prog.stoodInHeld 23 = false := by kernel_rfl
  have hp3 : ∀ (vs : Array Value) (o : Nat) (v : Value), vs[o]? = some v → (part 3 vs o).run Try.prog w = .ok v w := by
    intro vs o v hv
    have hs : (Try.prog.info? 3).map (fun i => i.size) = some 1 := by kernel_rfl
    have ha : (isAgg 3).run Try.prog w = .ok false w := by kernel_rfl
    simp [part, ha, Go.Proofs.Ytmiffljcggfcgaa.Cop.run_sizeOf hs, hv]
  have q0 := hp3 #[.int .i64 a, .int .i64 b] 0 (.int .i64 a) rfl
  have q1 := hp3 #[.int .i64 a, .int .i64 b] 1 (.int .i64 b) rfl
  have r0 := hp3 #[.int .i64 a', .int .i64 b'] 0 (.int .i64 a') rfl
  have r1 := hp3 #[.int .i64 a', .int .i64 b'] 1 (.int .i64 b') rfl
  have hf : (Try.prog.fieldsOf 23).toList.map (fun f => (f.name, f.type, f.offset)) = [("Level", 3, 0), ("Index", 3, 1)] := by kernel_rfl
  obtain ⟨f0, f1, hl⟩ : ∃ f0 f1, (Try.prog.fieldsOf 23).toList = [f0, f1] := by
    have := congrArg List.length hf
    match h : (Try.prog.fieldsOf 23).toList, this with
    | [f0, f1], _ => exact ⟨f0, f1, rfl⟩
  rw [hl] at hf
  simp only [List.map_cons, List.map_nil, List.cons.injEq, Prod.mk.injEq, and_true] at hf
  obtain ⟨⟨n0, t0, o0⟩, n1, t1, o1⟩ := hf
  rw [show (10000 : Nat) = 9998 + 1 + 1 from rfl, run_equalIn_struct w _ _ _ _ hu hp, hl]
  have m0 : (f0.name ≠ "_") = True := by rw [n0]; decide
  have m1 : (f1.name ≠ "_") = True := by rw [n1]; decide
  simp only [Op.eqFields, Sem.run_bind, Sem.run_ite, m0, m1, if_true, t0, t1, o0, o1, q0, q1, r0, r1, hi, Result.andThen_ok]
  cases (a == a') <;> cases (b == b') <;> simp [Result.andThen]
/-- What Need tells: the error and the tiles. -/
def needR (h : Int) (L : List (Int × Int)) : Int × List Tl :=
  if ht h = true then (match needs h L [] with | none => (2, []) | some s => (0, s)) else (2, [])
def NeedRet2 (h : Int) (c : Int) (s : List Tl) (w : World) (e : Ending) (w' : World) : Prop :=
  ∃ v, e = .returned (.tuple #[v, .int .i64 c]) ∧ OwnS w.heap.size w' h v s ∧ Below w.heap.size w w'
theorem needRet_two {h : Int} {L : List (Int × Int)} (hh : ht h = true) {w w' : World} {e : Ending} (hr : NeedRet h L w e w') : NeedRet2 h (needR h L).1 (needR h L).2 w e w' := by
  obtain ⟨h1, h2⟩ := hr
  unfold needR
  rw [if_pos hh]
  cases hn : needs h L [] with
  | none => rw [hn] at h2; exact ⟨_, h2, OwnS.nil _ _ _, h1⟩
  | some s => rw [hn] at h2; obtain ⟨v, h3, h4⟩ := h2; exact ⟨v, h3, h4, h1⟩
theorem need_calls (h : Int) (v : Value) (L : List (Int × Int)) (w : World) (hr : Row w v L.length (L.flatMap ncl)) (hL : L.length ≤ 1048576) :
    Calls Try.prog 17 #[.int .i64 h, v] w (NeedRet2 h (needR h L).1 (needR h L).2 w) := by
  cases hh : ht h with
  | true => exact (need_yes h v L w hh hr hL).mono fun _ _ hq => needRet_two hh hq
  | false =>
    refine (need_bad h v w hh).mono fun _ _ hq => ?_
    unfold needR
    rw [if_neg (by rw [hh]; decide)]
    exact ⟨_, hq.1, OwnS.nil _ _ _, hq.2⟩
theorem rneed_calls (h : Int) (v : Value) (L : List (Int × Int)) (w : World) (hr : Row w v L.length (L.flatMap ncl)) (hL : L.length ≤ 1048576) :
    Calls Try.prog 18 #[.int .i64 h, v] w (NeedRet2 h (needR h L).1 (needR h L).2 w) := by
  cases hh : ht h with
  | true => exact (rneed_yes h v L w hh hr hL).mono fun _ _ hq => needRet_two hh hq
  | false =>
    refine (rneed_bad h v w hh).mono fun _ _ hq => ?_
    unfold needR
    rw [if_neg (by rw [hh]; decide)]
    exact ⟨_, hq.1, OwnS.nil _ _ _, hq.2⟩
theorem infoNd : (Try.prog.info? 23).map (fun i => (i.zero, i.size, i.bytes)) = some (some (.agg #[.int .i64 0, .int .i64 0]), 2, 16) := by kernel_rfl
theorem ncl_one (L : List (Int × Int)) : ∀ u ∈ L.flatMap ncl, u.oneCell' = true := by
  intro u hu
  obtain ⟨n, _, hn⟩ := List.mem_flatMap.1 hu
  simp only [ncl, List.mem_cons, List.not_mem_nil, or_false] at hn
  rcases hn with rfl | rfl <;> rfl
attribute [local go_sem] Oper.semAt_some run_neq_tile run_neq_node
theorem needR_len (h : Int) (L : List (Int × Int)) (hL : L.length ≤ 1048576) : (needR h L).2.length ≤ 1048576 := by
  have key : ∀ (L : List (Int × Int)) (s r : List Tl), needs h L s = some r → r.length ≤ s.length + L.length := by
    intro L
    induction L with
    | nil => intro s r hr; simp [needs] at hr; subst hr; simp
    | cons n L ih =>
      intro s r hr
      rw [needs] at hr
      split at hr
      · cases hr
      · rename_i t _
        have := ih _ _ hr
        have := upd_len s t
        simp only [List.length_cons]
        omega
  unfold needR
  split
  · split
    · simp
    · rename_i s hs
      have := key _ _ _ hs
      simp at this
      simp only
      omega
  · simp
/-- Within the first loop: x is spoilt up to a place. -/
def LRel (B0 B1 B2 B3 : Nat) (h : Int) (L : List (Int × Int)) (s : List Tl) (vi vx vy vz : Value) (w : World) (k : Nat) (wr : World) : Prop :=
  (∃ s' : List Tl, s'.length = s.length ∧ (∀ j, k ≤ j → s'[j]? = s[j]?) ∧ OwnS B1 wr h vx s') ∧ OwnS B2 wr h vy s ∧ OwnS B3 wr h vz s ∧ wr.ownsRow B0 23 2 vi L.length (L.flatMap ncl) ∧ Below B0 w wr ∧ B3 ≤ wr.heap.size
def YRel (B0 B2 B3 : Nat) (h : Int) (L : List (Int × Int)) (s : List Tl) (vi vy vz : Value) (w : World) (wr : World) : Prop :=
  OwnS B2 wr h vy s ∧ OwnS B3 wr h vz s ∧ wr.ownsRow B0 23 2 vi L.length (L.flatMap ncl) ∧ Below B0 w wr
theorem add_one' (a : Addr) (n : Nat) : a.add (n + 1) = ⟨(a.add n).block, (a.add n).off + 1, none⟩ := by
  unfold Addr.add
  by_cases h : n = 0
  · simp [h]
  · simp [h, Nat.add_assoc]
theorem kept_at {B g : Nat} {e : TypeId} {sz n : Nat} {v u : Value} {xs : List Value} {wr : World} {o : Nat} (h : wr.ownsRow B e sz v n xs) (hne : ∀ k, v.ownBlock = some k → k ≠ g) : (wr.setCell ⟨g, o, none⟩ u).drew.ownsRow B e sz v n xs := by
  have hg : wr.grownBy (wr.setCell ⟨g, o, none⟩ u).drew (some g) := ⟨rfl, rfl, rfl, by simp [World.setCell], fun k _ hk => heap_setCell_other wr ⟨g, o, none⟩ k u (fun e => hk (by simp [e]))⟩
  refine World.ownsRow.kept h hg ?_
  cases hv : v.ownBlock with
  | none => exact .inl rfl
  | some k => exact .inr (fun e => by injection e with e; exact hne k hv e)
theorem lstep {B0 B1 B2 B3 k gx cx : Nat} {h a b e : Int} {L : List (Int × Int)} {s s' : List Tl} {vi vy vz : Value} {w wr : World} {u : Value} (hs' : s'[k]? = some (a, b, e)) (hl : s'.length = s.length) (hss : ∀ j, k ≤ j → s'[j]? = s[j]?)
    (hx : OwnS B1 wr h (.slice (some ⟨gx, 0, none⟩) s'.length cx) s') (hy : OwnS B2 wr h vy s) (hz : OwnS B3 wr h vz s) (hi : wr.ownsRow B0 23 2 vi L.length (L.flatMap ncl)) (hbel : Below B0 w wr) (hB3 : B3 ≤ wr.heap.size)
    (hg1 : B1 ≤ gx) (hg2 : gx < B2) (h12 : B1 ≤ B2) (h23 : B2 ≤ B3) (hil : ∀ g, vi.ownBlock = some g → g < B1) (hu : u = .int .i64 (-3) := by rfl) (h01 : B0 ≤ B1 := by omega) :
    LRel B0 B1 B2 B3 h L s vi (.slice (some ⟨gx, 0, none⟩) s.length cx) vy vz w (k + 1) (wr.setCell ⟨gx, k * 4 + 3, none⟩ u).drew := by
  subst hu
  refine ⟨⟨s'.set k (a, b, -3), by simp [hl], fun j hj => by rw [List.getElem?_set_ne (by omega)]; exact hss j (by omega), ?_⟩, kept_at hy (fun g hg => by have := (World.ownsRow.lt hy g hg).1; omega), kept_at hz (fun g hg => by have := (World.ownsRow.lt hz g hg).1; omega), kept_at hi (fun g hg => by have := hil g hg; omega), (hbel.setCell (p := ⟨gx, k * 4 + 3, none⟩) (by show B0 ≤ gx; omega) _).drew, by show B3 ≤ (wr.setCell _ _).heap.size; simpa [World.setCell] using hB3⟩
  rw [← hl]
  obtain ⟨h1, h2⟩ := World.ownsRow.stored hx (k * 4 + 3) (.int .i64 (-3))
  unfold OwnS
  rw [List.length_set, tcl_set h s' k a b e (-3) hs']
  exact h1
set_option maxHeartbeats 8000000 in
set_option maxRecDepth 100000 in
theorem needs_law (h : Int) (v : Value) (L : List (Int × Int)) (w : World) (hr : Row w v L.length (L.flatMap ncl)) (hL : L.length ≤ 1048576) :
    Calls Try.prog 4 #[.int .i64 h, v] w fun e w' => e = .returned (.bool true) ∧ Below w.heap.size w w' := by
  obtain ⟨B0, hB0⟩ : ∃ B, w.heap.size = B := ⟨_, rfl⟩
  have HB0 := Lib.hid hB0
  have hsl := needR_len h L hL
  have hcn : ∀ v w, Row w v L.length (L.flatMap ncl) → Calls Try.prog 17 #[.int .i64 h, v] w (NeedRet2 h (needR h L).1 (needR h L).2 w) := fun v w hr => need_calls h v L w hr hL
  have hcr : ∀ v w, Row w v L.length (L.flatMap ncl) → Calls Try.prog 18 #[.int .i64 h, v] w (NeedRet2 h (needR h L).1 (needR h L).2 w) := fun v w hr => rneed_calls h v L w hr hL
  obtain ⟨⟨c, s⟩, hcs⟩ : ∃ q, needR h L = q := ⟨_, rfl⟩
  rw [hcs] at hsl hcn hcr
  have HCN := Lib.hid hcn
  have HCR := Lib.hid hcr
  obtain ⟨va, vc, rfl, hro⟩ := Row.open hr
  clear hcn hcr hcs hB0 hr
  go_enter Try.func4, Try.ntmps4
  go_wp2_with ((with_reducible refine gate_dst (N := 17) rfl ?_); go_loud (refine wp_append rfl (.tmp 15) (.tmp 16) 33 23 rfl Try.underlying33 infoNd rfl (by decide) (base := w.heap.size) (n := 0) (xs := []) rfl (World.ownsRow_made w #[] 0 (Nat.le_refl _) (Nat.zero_le _) rfl) (m := L.length) (cs := L.flatMap ncl) rfl (Row.alloc hro _) (ncl_len L) (ncl_one L) (by unfold maxLen; omega) (by omega) (by simp) ?_); intro vi w1 hown1 hgrow1)
  rw [Nat.zero_add, List.nil_append] at hown1
  have hb1 : Below w.heap.size w w1 := ((Below.refl _ w).alloc (Nat.le_refl _) _).grown hgrow1 (by simp) (fun r e => Nat.le_of_eq (Option.some.inj (show some w.heap.size = some r from e)))
  clear hgrow1
  rw [HB0.out] at hown1 hb1
  refine (HCN.out _ w1 (Row.of_own hown1)).mono ?_
  rintro e w2 ⟨vx, rfl, hox, hb2⟩
  go_wp2_with fail
  have hown2 := own_below hown1 hb2
  refine (HCN.out _ w2 (Row.of_own hown2)).mono ?_
  rintro e w3 ⟨vy, rfl, hoy, hb3⟩
  go_wp2_with fail
  have hb13 : Below w1.heap.size w1 w3 := hb2.trans (hb3.mono hb2.size)
  have hb03 : Below B0 w w3 := hb1.trans (hb13.mono (by have := hb1.size; rw [HB0.out] at this; exact this))
  refine (HCR.out _ w3 (hro.below (by rw [HB0.out]; exact hb03))).mono ?_
  rintro e w4 ⟨vz, rfl, hoz, hb4⟩
  have hoy4 := own_below hoy hb4
  have hox3 := own_below hox hb3
  have hox4 := own_below hox3 hb4
  have hin4 := own_below (own_below hown2 hb3) hb4
  obtain ⟨B1, hB1⟩ : ∃ B, w1.heap.size = B := ⟨_, rfl⟩
  obtain ⟨B2, hB2⟩ : ∃ B, w2.heap.size = B := ⟨_, rfl⟩
  obtain ⟨B3, hB3⟩ : ∃ B, w3.heap.size = B := ⟨_, rfl⟩
  have z1 := hb1.size
  have z2 := hb2.size
  have z3 := hb3.size
  have z4 := hb4.size
  have hb04 : Below B0 w w4 := hb03.trans (hb4.mono (by rw [HB0.out] at z1; omega))
  have hxl : ∀ g, vx.ownBlock = some g → B1 ≤ g ∧ g < B2 := fun g hg => by
    have := World.ownsRow.lt hox g hg
    omega
  have hil : ∀ g, vi.ownBlock = some g → g < B1 := fun g hg => by
    have := World.ownsRow.lt hown1 g hg
    omega
  rw [HB0.out] at z1
  rw [hB1] at hox4 z1 z2
  rw [hB2] at hoy4 z2 z3
  rw [hB3] at hoz z3 z4
  clear hown1 hb1 hox hb2 hown2 hoy hb3 hb13 hb03 hb4 hox3 hB1 hB2 hB3
  have HXL := Lib.hid hxl
  have HIL := Lib.hid hil
  clear hxl hil
  have hz2 : B1 ≤ B2 := z2
  have hz3 : B2 ≤ B3 := z3
  have q0 : (c != c) = false := by simp
  have q1 : ((s.length : Int) != (s.length : Int)) = false := by simp
  go_wp2_with (first | ((with_reducible refine gate_dst (N := 41) rfl ?_); go_loud (refine wp_len rfl _ 34 25 rfl Try.underlying34 rfl (Row.of_own hox4) ?_)) | ((with_reducible refine gate_dst (N := 43) rfl ?_); go_loud (refine wp_len rfl _ 34 25 rfl Try.underlying34 rfl (Row.of_own hoz) ?_)) | ((with_reducible refine gate_dst (N := 48) rfl ?_); go_loud (refine wp_len rfl _ 34 25 rfl Try.underlying34 rfl (Row.of_own hoy4) ?_)) | ((with_reducible refine gate_dst (N := 50) rfl ?_); go_loud (refine wp_len rfl _ 34 25 rfl Try.underlying34 rfl (Row.of_own hoz) ?_)))
  go_loopw [12] (fun i wr => ∃ k : Nat, i = .int .i64 (k : Int) ∧ k ≤ s.length ∧ LRel B0 B1 B2 B3 h L s vi vx vy vz w k wr) (fun i _ => s.length - (intOf i).toNat)
  case atStart => exact ⟨0, rfl, Nat.zero_le _, ⟨s, rfl, fun _ _ => rfl, hox4⟩, hoy4, hoz, hin4, hb04, z4⟩
  case round =>
    obtain ⟨k, rfl, hk, ⟨s', hs'l, hs', hx⟩, hy, hz, hi, hbel, hB3⟩ := hrel
    by_cases hlt : k < s.length
    · have d1 : decide ((k : Int) < (s.length : Int)) = true := decide_eq_true (by omega)
      obtain ⟨⟨a, b, e⟩, hsk⟩ : ∃ q, s[k]? = some q := ⟨_, List.getElem?_eq_getElem hlt⟩
      have hsk' : s'[k]? = some (a, b, e) := by rw [hs' k (Nat.le_refl _), hsk]
      obtain ⟨gx, cx, rfl, hgx, hgxw, hcx, hfx⟩ := OwnS.at hx hsk'
      obtain ⟨gz, cz, rfl, hgz, hgzw, hcz, hfz⟩ := OwnS.at hz hsk
      rw [hs'l]
      have x0 : wr.cell? ⟨gx, k * 4, none⟩ = some (.int .i64 h) := hcx 0 _ (by omega) rfl
      have x1 := hcx 1 _ (by omega) rfl
      have x2 := hcx 2 _ (by omega) rfl
      have x3 := hcx 3 _ (by omega) rfl
      have y0 : wr.cell? ⟨gz, k * 4, none⟩ = some (.int .i64 h) := hcz 0 _ (by omega) rfl
      have y1 := hcz 1 _ (by omega) rfl
      have y2 := hcz 2 _ (by omega) rfl
      have y3 := hcz 3 _ (by omega) rfl
      have f3 := hfx (k * 4 + 3)
      have i1 : (k : Int) < (s.length : Int) := by omega
      clear hcx hcz hfx hfz
      have HS := Lib.hid hsk
      have HS' := Lib.hid hsk'
      have HSL := Lib.hid hs'l
      have HSS := Lib.hid hs'
      clear hsk hsk' hs'l hs'
      go_wp2_with fail
      go_region
      all_goals
        go_wp2_with fail
      have hnew := lstep (u := .int .i64 (-3)) HS'.out HSL.out HSS.out hx hy hz hi hbel hB3 hgx (HXL.out gx rfl).2 hz2 hz3 HIL.out
      clear x0 x1 x2 x3 y0 y1 y2 y3 f3
      go_roundw
      case rel => exact ⟨k + 1, by first | rfl | go_num, by omega, hnew⟩
      case measure => simp [intOf]; omega
    · have d1 : decide ((k : Int) < (s.length : Int)) = false := decide_eq_false (by omega)
      obtain ⟨vax, vcx, rfl, _⟩ := Row.open (Row.of_own hx)
      go_wp2_with fail
      clear hx
      go_loopw [13] (fun i wr => ∃ k : Nat, i = .int .i64 (k : Int) ∧ k ≤ s.length ∧ YRel B0 B2 B3 h L s vi vy vz w wr) (fun i _ => s.length - (intOf i).toNat)
      case atStart => exact ⟨0, rfl, Nat.zero_le _, hy, hz, hi, hbel⟩
      case round =>
        clear hy hz hi hbel hB3 hs' hs'l d1 hk hlt
        obtain ⟨k2, rfl, hk, hy, hz, hi, hbel⟩ := hrel
        by_cases hlt : k2 < s.length
        · have d1 : decide ((k2 : Int) < (s.length : Int)) = true := decide_eq_true (by omega)
          obtain ⟨⟨a, b, e⟩, hsk⟩ : ∃ q, s[k2]? = some q := ⟨_, List.getElem?_eq_getElem hlt⟩
          obtain ⟨gx, cx, rfl, hgx, hgxw, hcx, _⟩ := OwnS.at hy hsk
          obtain ⟨gz, cz, rfl, hgz, hgzw, hcz, _⟩ := OwnS.at hz hsk
          have x0 : wr.cell? ⟨gx, k2 * 4, none⟩ = some (.int .i64 h) := hcx 0 _ (by omega) rfl
          have x1 := hcx 1 _ (by omega) rfl
          have x2 := hcx 2 _ (by omega) rfl
          have x3 := hcx 3 _ (by omega) rfl
          have y0 : wr.cell? ⟨gz, k2 * 4, none⟩ = some (.int .i64 h) := hcz 0 _ (by omega) rfl
          have y1 := hcz 1 _ (by omega) rfl
          have y2 := hcz 2 _ (by omega) rfl
          have y3 := hcz 3 _ (by omega) rfl
          have i1 : (k2 : Int) < (s.length : Int) := by omega
          clear hcx hcz hsk
          go_wp2_with fail
          go_region
          all_goals
            go_wp2_with fail
          clear x0 x1 x2 x3 y0 y1 y2 y3
          go_roundw
          case rel => exact ⟨k2 + 1, by first | rfl | go_num, by omega, hy, hz, hi, hbel.drew⟩
          case measure => simp [intOf]; omega
        · have d1 : decide ((k2 : Int) < (s.length : Int)) = false := decide_eq_false (by omega)
          obtain ⟨vax2, vcx2, rfl, _⟩ := Row.open (Row.of_own hy)
          go_wp2_with fail
          clear hy hz
          go_loopw [14] (fun i wr => ∃ k : Nat, i = .int .i64 (k : Int) ∧ k ≤ L.length ∧ wr.ownsRow B0 23 2 vi L.length (L.flatMap ncl) ∧ Below B0 w wr) (fun i _ => L.length - (intOf i).toNat)
          case atStart => exact ⟨0, rfl, Nat.zero_le _, hi, hbel⟩
          case round =>
            clear hi hbel d1 hk hlt
            obtain ⟨k3, rfl, hk, hi, hbel⟩ := hrel
            have hrl : Row wr (.slice va L.length vc) L.length (L.flatMap ncl) := hro.below (by rw [HB0.out]; exact hbel)
            by_cases hlt : k3 < L.length
            · have d1 : decide ((k3 : Int) < (L.length : Int)) = true := decide_eq_true (by omega)
              have hne := ncl_at L k3 hlt
              obtain ⟨⟨n1, n2⟩, hn⟩ : ∃ n, L[k3] = n := ⟨_, rfl⟩
              rw [hn] at hne
              obtain ⟨ai, ci, rfl, hci⟩ := (Row.of_own hi).at (ncl_len L) (by decide) hlt
              obtain ⟨al, cl, hl, hcl⟩ := hrl.at (ncl_len L) (by decide) hlt
              injection hl with hl1 _ hl2
              subst hl1 hl2
              have i1 : (k3 : Int) < (L.length : Int) := by omega
              have hn0 : (L.flatMap ncl)[k3 * 2]? = some (.int .i64 n1) := by
                have := congrArg (fun l => l[0]?) hne
                simpa [List.getElem?_take, List.getElem?_drop, ncl] using this
              have hn1 : (L.flatMap ncl)[k3 * 2 + 1]? = some (.int .i64 n2) := by
                have := congrArg (fun l => l[1]?) hne
                simpa [List.getElem?_take, List.getElem?_drop, ncl] using this
              have x0 := hci _ _ hn0
              have x1 := hci _ _ hn1
              have y0 := hcl _ _ hn0
              have y1 := hcl _ _ hn1
              rw [add_one'] at x1 y1
              have HI := Lib.hid hi
              clear hci hcl hne hn0 hn1 hn hi
              go_wp2_with ((with_reducible refine gate_dst (N := 89) rfl ?_); go_loud (refine wp_len rfl _ 33 23 rfl Try.underlying33 rfl hrl ?_))
              clear hrl
              go_region
              all_goals
                go_wp2_with fail
              clear x0 x1 y0 y1
              go_roundw
              case rel => exact ⟨k3 + 1, by first | rfl | go_num, by omega, HI.out, hbel.drew⟩
              case measure => simp [intOf]; omega
            · have d1 : decide ((k3 : Int) < (L.length : Int)) = false := decide_eq_false (by omega)
              go_wp2_with ((with_reducible refine gate_dst (N := 89) rfl ?_); go_loud (refine wp_len rfl _ 33 23 rfl Try.underlying33 rfl hrl ?_))
              refine (nnames_calls _).mono ?_
              rintro e w' ⟨rfl, rfl⟩
              go_wp2_with fail
              go_ret
              exact ⟨rfl, by rw [HB0.out]; exact hbel⟩
end Go.Proofs.Ytmiffljcggfcgaa.Til
