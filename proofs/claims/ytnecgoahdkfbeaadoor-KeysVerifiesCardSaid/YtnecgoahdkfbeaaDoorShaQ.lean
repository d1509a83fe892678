/- The hash of bytes, plain (no program in sight): the words of a block, a round, a block's compression, the padding, the digest. -/
import Derived.Test.YtnecgoahdkfbeaaDoorLib
import Derived.Lib.EndianBits
namespace Go.Proofs.YtnecgoahdkfbeaaDoor.Sha
open Go Go.RowKit Go.Proofs.YtnecgoahdkfbeaaDoor.Cop
set_option linter.unusedVariables false
set_option linter.unusedSimpArgs false
theorem bits_or_comm (k : IntKind) (x y : Int) : bits .or k x y = bits .or k y x := by
  unfold bits
  simp only [BitVec.or_comm]
/-- A word turned to the right. -/
def rorI (x k : Int) : Int := bits .or .u32 (x / 2 ^ k.toNat) (x * 2 ^ (32 - k.toNat) % 4294967296)
/-- A word's cell. -/
abbrev u32c (x : Int) : Value := .int .u32 x
def wcs (l : List Int) : List Value := l.map u32c
theorem wcs_len (l : List Int) : (wcs l).length = l.length := by simp [wcs]
theorem wcs_one (l : List Int) : ∀ u ∈ wcs l, u.oneCell' = true := by
  intro u hu
  obtain ⟨_, _, rfl⟩ := List.mem_map.1 hu
  rfl
/-- Four bytes as a word. -/
def be4 (bs : List UInt8) (t : Nat) : Int := ((bs.getD (4 * t) 0).toNat : Int) * 16777216 + ((bs.getD (4 * t + 1) 0).toNat : Int) * 65536 + ((bs.getD (4 * t + 2) 0).toNat : Int) * 256 + ((bs.getD (4 * t + 3) 0).toNat : Int)
/-- The word behind: of the words 2, 7, 15 and 16 places ahead. -/
def nextw (a c b d : Int) : Int :=
  IntKind.u32.wrap (IntKind.u32.wrap (IntKind.u32.wrap (bits .xor .u32 (bits .xor .u32 (rorI a 17) (rorI a 19)) (a / 1024) + c) + bits .xor .u32 (bits .xor .u32 (rorI b 7) (rorI b 18)) (b / 8)) + d)
def wn (bs : List UInt8) (l : List Int) (t : Nat) : Int :=
  if t < 16 then be4 bs t else nextw (l.getD (t - 2) 0) (l.getD (t - 7) 0) (l.getD (t - 15) 0) (l.getD (t - 16) 0)
/-- The first words of a block. -/
def wl (bs : List UInt8) : Nat → List Int
  | 0 => []
  | t + 1 => wl bs t ++ [wn bs (wl bs t) t]
theorem wl_len (bs : List UInt8) : ∀ t, (wl bs t).length = t
  | 0 => rfl
  | t + 1 => by rw [wl, List.length_append, wl_len bs t]; rfl
/-- The array's cells when so many words are told. -/
def warr (bs : List UInt8) (t : Nat) : List Value := wcs (wl bs t) ++ List.replicate (64 - t) (u32c 0)
theorem warr_len (bs : List UInt8) (t : Nat) (h : t ≤ 64) : (warr bs t).length = 64 := by simp [warr, wcs_len, wl_len]; omega
theorem warr_zero (bs : List UInt8) : warr bs 0 = List.replicate 64 (u32c 0) := rfl
theorem warr_full (bs : List UInt8) : warr bs 64 = wcs (wl bs 64) := by simp [warr]
theorem warr_set (bs : List UInt8) (t : Nat) (h : t < 64) : (warr bs t).set t (u32c (wn bs (wl bs t) t)) = warr bs (t + 1) := by
  unfold warr
  have hl : (wcs (wl bs t)).length = t := by rw [wcs_len, wl_len]
  rw [List.set_append_right _ _ (by omega), hl, Nat.sub_self]
  obtain ⟨r, hr⟩ : ∃ r, 64 - t = r + 1 := ⟨63 - t, by omega⟩
  have e2 : 64 - (t + 1) = r := by omega
  rw [hr, e2, List.replicate_succ, List.set_cons_zero, wl]
  simp [wcs]
theorem warr_at (bs : List UInt8) (t i : Nat) (h : i < t) : (warr bs t)[i]? = some (u32c ((wl bs t).getD i 0)) := by
  unfold warr
  have hl : (wl bs t).length = t := wl_len bs t
  rw [List.getElem?_append_left (by rw [wcs_len, hl]; exact h)]
  simp [wcs, List.getElem?_eq_getElem (show i < (wl bs t).length by omega)]
theorem or_three (b0 b1 b2 b3 : Nat) (h0 : b0 < 256) (h1 : b1 < 256) (h2 : b2 < 256) (h3 : b3 < 256) :
    bits .or .u32 (bits .or .u32 (bits .or .u32 ((b0 : Int) * 16777216) ((b1 : Int) * 65536)) ((b2 : Int) * 256)) (b3 : Int) = (b0 : Int) * 16777216 + (b1 : Int) * 65536 + (b2 : Int) * 256 + (b3 : Int) := by
  have e1 : bits .or .u32 ((b0 : Int) * 16777216) ((b1 : Int) * 65536) = (b0 : Int) * 16777216 + (b1 : Int) * 65536 := by
    rw [bits_or_comm, u32_or24 _ _ (by omega) (by omega) (by omega) (by omega) (by omega)]; omega
  have e2 : bits .or .u32 ((b0 : Int) * 16777216 + (b1 : Int) * 65536) ((b2 : Int) * 256) = (b0 : Int) * 16777216 + (b1 : Int) * 65536 + (b2 : Int) * 256 := by
    rw [bits_or_comm, u32_or16 _ _ (by omega) (by omega) (by omega) (by omega) (by omega)]; omega
  have e3 : bits .or .u32 ((b0 : Int) * 16777216 + (b1 : Int) * 65536 + (b2 : Int) * 256) (b3 : Int) = (b0 : Int) * 16777216 + (b1 : Int) * 65536 + (b2 : Int) * 256 + (b3 : Int) := by
    rw [bits_or_comm, u32_or8 _ _ (by omega) (by omega) (by omega) (by omega) (by omega)]; omega
  rw [e1, e2, e3]
def rx (k w s4 s5 s6 s7 : Int) : Int := s7 + bits .xor .u32 (bits .xor .u32 (rorI s4 6) (rorI s4 11)) (rorI s4 25) + bits .xor .u32 (bits .and .u32 s4 s5) (bits .and .u32 (bits .xor .u32 IntKind.u32.max s4) s6) + k + w
def ry (s0 s1 s2 : Int) : Int := bits .xor .u32 (bits .xor .u32 (rorI s0 2) (rorI s0 13)) (rorI s0 22) + bits .xor .u32 (bits .xor .u32 (bits .and .u32 s0 s1) (bits .and .u32 s0 s2)) (bits .and .u32 s1 s2)
/-- A round: the words behind it (k: the round's constant, w: its word). -/
def rnd (k w : Int) : List Int → List Int
  | [s0, s1, s2, s3, s4, s5, s6, s7] => [(rx k w s4 s5 s6 s7 + ry s0 s1 s2) % 4294967296, s0, s1, s2, (s3 + rx k w s4 s5 s6 s7) % 4294967296, s4, s5, s6]
  | l => l
/-- The rounds' constants. -/
def kt : List Int := [1116352408, 1899447441, 3049323471, 3921009573, 961987163, 1508970993, 2453635748, 2870763221, 3624381080, 310598401, 607225278, 1426881987, 1925078388, 2162078206, 2614888103, 3248222580, 3835390401, 4022224774, 264347078, 604807628, 770255983, 1249150122, 1555081692, 1996064986, 2554220882, 2821834349, 2952996808, 3210313671, 3336571891, 3584528711, 113926993, 338241895, 666307205, 773529912, 1294757372, 1396182291, 1695183700, 1986661051, 2177026350, 2456956037, 2730485921, 2820302411, 3259730800, 3345764771, 3516065817, 3600352804, 4094571909, 275423344, 430227734, 506948616, 659060556, 883997877, 958139571, 1322822218, 1537002063, 1747873779, 1955562222, 2024104815, 2227730452, 2361852424, 2428436474, 2756734187, 3204031479, 3329325298]
/-- The words behind so many rounds. -/
def rds (ws h : List Int) : Nat → List Int
  | 0 => h
  | t + 1 => rnd (kt.getD t 0) (ws.getD t 0) (rds ws h t)
theorem rnd_len (k w : Int) (l : List Int) (h : l.length = 8) : (rnd k w l).length = 8 := by
  match l, h with
  | [_, _, _, _, _, _, _, _], _ => rfl
theorem rds_len (ws h : List Int) (hh : h.length = 8) : ∀ t, (rds ws h t).length = 8
  | 0 => hh
  | t + 1 => rnd_len _ _ _ (rds_len ws h hh t)
theorem eight (l : List Int) (h : l.length = 8) : ∃ s0 s1 s2 s3 s4 s5 s6 s7, l = [s0, s1, s2, s3, s4, s5, s6, s7] := by
  match l, h with
  | [s0, s1, s2, s3, s4, s5, s6, s7], _ => exact ⟨_, _, _, _, _, _, _, _, rfl⟩
/-- Words are put to words. -/
def adds (s h : List Int) : List Int := List.zipWith (fun x y => IntKind.u32.wrap (x + y)) s h
/-- A block is taken in. -/
def comp (h : List Int) (bs : List UInt8) : List Int := adds (rds (wl bs 64) h 64) h
theorem comp_len (h : List Int) (bs : List UInt8) (hh : h.length = 8) : (comp h bs).length = 8 := by
  unfold comp adds
  rw [List.length_zipWith, rds_len _ _ hh, hh]
  rfl
/-- The array while the sums are laid: so many are done. -/
def sarr (s h : List Int) (i : Nat) : List Value := wcs ((adds s h).take i ++ s.drop i)
theorem sarr_zero (s h : List Int) : sarr s h 0 = wcs s := by simp [sarr]
theorem adds_len (s h : List Int) (hs : s.length = 8) (hh : h.length = 8) : (adds s h).length = 8 := by
  unfold adds
  rw [List.length_zipWith, hs, hh]
  rfl
theorem sarr_full (s h : List Int) (hs : s.length = 8) (hh : h.length = 8) : sarr s h 8 = wcs (adds s h) := by
  unfold sarr
  rw [List.take_of_length_le (by rw [adds_len s h hs hh]; exact Nat.le_refl _), List.drop_of_length_le (by omega), List.append_nil]
theorem sarr_len (s h : List Int) (i : Nat) (hs : s.length = 8) (hh : h.length = 8) (hi : i ≤ 8) : (sarr s h i).length = 8 := by
  unfold sarr
  rw [wcs_len, List.length_append, List.length_take, List.length_drop, adds_len s h hs hh]
  omega
theorem sarr_at (s h : List Int) (i : Nat) (hs : s.length = 8) (hh : h.length = 8) (hi : i < 8) : (sarr s h i)[i]? = some (u32c (s.getD i 0)) := by
  unfold sarr wcs
  rw [List.getElem?_map, List.getElem?_append_right (by rw [List.length_take, adds_len s h hs hh]; omega), List.length_take, adds_len s h hs hh, List.getElem?_drop, List.getD_eq_getElem?_getD, show i + (i - min i 8) = i from by omega, List.getElem?_eq_getElem (by omega)]
  rfl
theorem sarr_set (s h : List Int) (i : Nat) (hs : s.length = 8) (hh : h.length = 8) (hi : i < 8) : (sarr s h i).set i (u32c (IntKind.u32.wrap (s.getD i 0 + h.getD i 0))) = sarr s h (i + 1) := by
  have ha : (adds s h)[i]? = some (IntKind.u32.wrap (s.getD i 0 + h.getD i 0)) := by
    unfold adds
    rw [List.getElem?_zipWith, List.getElem?_eq_getElem (show i < s.length by omega), List.getElem?_eq_getElem (show i < h.length by omega), List.getD_eq_getElem?_getD, List.getD_eq_getElem?_getD, List.getElem?_eq_getElem (show i < s.length by omega), List.getElem?_eq_getElem (show i < h.length by omega)]
    rfl
  obtain ⟨hal, hav⟩ := List.getElem?_eq_some_iff.1 ha
  unfold sarr wcs
  rw [← List.map_set]
  congr 1
  have h1 : ((adds s h).take i).length = i := by rw [List.length_take]; omega
  rw [List.set_append_right _ _ (by omega), h1, Nat.sub_self, List.drop_eq_getElem_cons (show i < s.length by omega), List.set_cons_zero, List.take_add_one, ha]
  simp
end Go.Proofs.YtnecgoahdkfbeaaDoor.Sha
