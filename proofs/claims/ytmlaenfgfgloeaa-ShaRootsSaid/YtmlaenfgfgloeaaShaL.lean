import Derived.Test.YtmlaenfgfgloeaaByt
/-! SHA-512: the plain law. -/
set_option maxRecDepth 4000
set_option linter.unusedVariables false
set_option linter.unusedSimpArgs false
namespace Go.Proofs.Ytmlaenfgfgloeaa
open Go.RowKit

def shaK : List (BitVec 64) := [0x428a2f98d728ae22, 0x7137449123ef65cd, 0xb5c0fbcfec4d3b2f, 0xe9b5dba58189dbbc, 0x3956c25bf348b538, 0x59f111f1b605d019, 0x923f82a4af194f9b, 0xab1c5ed5da6d8118, 0xd807aa98a3030242, 0x12835b0145706fbe, 0x243185be4ee4b28c, 0x550c7dc3d5ffb4e2, 0x72be5d74f27b896f, 0x80deb1fe3b1696b1, 0x9bdc06a725c71235, 0xc19bf174cf692694, 0xe49b69c19ef14ad2, 0xefbe4786384f25e3, 0x0fc19dc68b8cd5b5, 0x240ca1cc77ac9c65, 0x2de92c6f592b0275, 0x4a7484aa6ea6e483, 0x5cb0a9dcbd41fbd4, 0x76f988da831153b5, 0x983e5152ee66dfab, 0xa831c66d2db43210, 0xb00327c898fb213f, 0xbf597fc7beef0ee4, 0xc6e00bf33da88fc2, 0xd5a79147930aa725, 0x06ca6351e003826f, 0x142929670a0e6e70, 0x27b70a8546d22ffc, 0x2e1b21385c26c926, 0x4d2c6dfc5ac42aed, 0x53380d139d95b3df, 0x650a73548baf63de, 0x766a0abb3c77b2a8, 0x81c2c92e47edaee6, 0x92722c851482353b, 0xa2bfe8a14cf10364, 0xa81a664bbc423001, 0xc24b8b70d0f89791, 0xc76c51a30654be30, 0xd192e819d6ef5218, 0xd69906245565a910, 0xf40e35855771202a, 0x106aa07032bbd1b8, 0x19a4c116b8d2d0c8, 0x1e376c085141ab53, 0x2748774cdf8eeb99, 0x34b0bcb5e19b48a8, 0x391c0cb3c5c95a63, 0x4ed8aa4ae3418acb, 0x5b9cca4f7763e373, 0x682e6ff3d6b2b8a3, 0x748f82ee5defb2fc, 0x78a5636f43172f60, 0x84c87814a1f0ab72, 0x8cc702081a6439ec, 0x90befffa23631e28, 0xa4506cebde82bde9, 0xbef9a3f7b2c67915, 0xc67178f2e372532b, 0xca273eceea26619c, 0xd186b8c721c0c207, 0xeada7dd6cde0eb1e, 0xf57d4f7fee6ed178, 0x06f067aa72176fba, 0x0a637dc5a2c898a6, 0x113f9804bef90dae, 0x1b710b35131c471b, 0x28db77f523047d84, 0x32caab7b40c72493, 0x3c9ebe0a15c9bebc, 0x431d67c49c100d4c, 0x4cc5d4becb3e42b6, 0x597f299cfc657e2a, 0x5fcb6fab3ad6faec, 0x6c44198c4a475817]
def shaH : List (BitVec 64) := [0x6a09e667f3bcc908, 0xbb67ae8584caa73b, 0x3c6ef372fe94f82b, 0xa54ff53a5f1d36f1, 0x510e527fade682d1, 0x9b05688c2b3e6c1f, 0x1f83d9abfb41bd6b, 0x5be0cd19137e2179]
/-- Turned to the right. -/
def rr (x : BitVec 64) (n : Nat) : BitVec 64 := x.rotateLeft (64 - n)
def sg0 (a : BitVec 64) : BitVec 64 := rr a 1 ^^^ rr a 8 ^^^ (a >>> 7)
def sg1 (b : BitVec 64) : BitVec 64 := rr b 19 ^^^ rr b 61 ^^^ (b >>> 6)
def bs1 (e : BitVec 64) : BitVec 64 := rr e 14 ^^^ rr e 18 ^^^ rr e 41
def bs0 (a : BitVec 64) : BitVec 64 := rr a 28 ^^^ rr a 34 ^^^ rr a 39
def chs (e f g : BitVec 64) : BitVec 64 := g ^^^ (e &&& (f ^^^ g))
def mjs (a b c : BitVec 64) : BitVec 64 := (a &&& b) ||| (c &&& (a ||| b))
theorem chs_ref (e f g : BitVec 64) : (e &&& f) ^^^ (~~~ e &&& g) = chs e f g := by
  unfold chs
  ext i
  simp
  cases e[i] <;> cases f[i] <;> cases g[i] <;> rfl
theorem mjs_ref (a b c : BitVec 64) : (a &&& b) ^^^ (a &&& c) ^^^ (b &&& c) = mjs a b c := by
  unfold mjs
  ext i
  simp
  cases a[i] <;> cases b[i] <;> cases c[i] <;> rfl
/-- One step: the state, the constant and the word. -/
def stepV (v : List (BitVec 64)) (k x : BitVec 64) : List (BitVec 64) :=
  let one := nb v 7 + bs1 (nb v 4) + chs (nb v 4) (nb v 5) (nb v 6) + k + x
  let two := bs0 (nb v 0) + mjs (nb v 0) (nb v 1) (nb v 2)
  [one + two, nb v 0, nb v 1, nb v 2, nb v 3 + one, nb v 4, nb v 5, nb v 6]
/-- The first sixteen words of a block, i bytes taken in (of n words). -/
def w16 (n : Nat) (ys : List (BitVec 8)) : Nat → List (BitVec 64)
  | 0 => List.replicate n 0
  | i + 1 => (w16 n ys i).set (i / 8) (((nb (w16 n ys i) (i / 8)) <<< 8) ||| (ny ys i).setWidth 64)
theorem w16_len (n : Nat) (ys : List (BitVec 8)) (i : Nat) : (w16 n ys i).length = n := by induction i <;> simp [w16, *]
/-- The words, one and all. -/
def wf (b : List (BitVec 64)) (t : Nat) : BitVec 64 :=
  if h : t < 16 then nb b t else sg1 (wf b (t - 2)) + wf b (t - 7) + sg0 (wf b (t - 15)) + wf b (t - 16)
  termination_by t
  decreasing_by all_goals omega
theorem wf_lt (b : List (BitVec 64)) (t : Nat) (h : t < 16) : wf b t = nb b t := by rw [wf, dif_pos h]
theorem wf_ge (b : List (BitVec 64)) (t : Nat) (h : 16 ≤ t) : wf b t = sg1 (wf b (t - 2)) + wf b (t - 7) + sg0 (wf b (t - 15)) + wf b (t - 16) := by rw [wf, dif_neg (by omega)]
def vGo (b s : List (BitVec 64)) : Nat → List (BitVec 64)
  | 0 => s
  | t + 1 => stepV (vGo b s t) (nb shaK t) (wf b t)
theorem vGo_len (b s : List (BitVec 64)) (hs : s.length = 8) (t : Nat) : (vGo b s t).length = 8 := by
  cases t with
  | zero => exact hs
  | succ t => rfl
def addGo (v s : List (BitVec 64)) : Nat → List (BitVec 64)
  | 0 => s
  | i + 1 => (addGo v s i).set i (nb (addGo v s i) i + nb v i)
theorem addGo_len (v s : List (BitVec 64)) (i : Nat) : (addGo v s i).length = s.length := by induction i <;> simp [addGo, *]
/-- 128 bytes into a state. -/
def blockL (s : List (BitVec 64)) (ys : List (BitVec 8)) : List (BitVec 64) := addGo (vGo (w16 16 ys 128) s 80) s 8
theorem blockL_len (s : List (BitVec 64)) (ys : List (BitVec 8)) : (blockL s ys).length = s.length := addGo_len _ _ _

/-! ### the circle of sixteen words -/
/-- The circle behind t steps (the words of steps 16 and on put in as they come). -/
def circ (b : List (BitVec 64)) (t j : Nat) : BitVec 64 := if t ≤ 16 then nb b j else wf b (t - 1 - (t - 1 - j) % 16)
def cw (b : List (BitVec 64)) : Nat → List (BitVec 64)
  | 0 => b
  | t + 1 => if 16 ≤ t then (cw b t).set (t % 16) (nb (cw b t) (t % 16) + (nb (cw b t) ((t + 9) % 16) + sg0 (nb (cw b t) ((t + 1) % 16)) + sg1 (nb (cw b t) ((t + 14) % 16)))) else cw b t
theorem cw_len (b : List (BitVec 64)) (t : Nat) : (cw b t).length = b.length := by
  induction t with
  | zero => rfl
  | succ t ih => unfold cw; split <;> simp [ih]
theorem nb_set (xs : List (BitVec 64)) (i j : Nat) (x : BitVec 64) (h : i < xs.length) : nb (xs.set i x) j = if i = j then x else nb xs j := by
  unfold nb
  simp only [List.getD_eq_getElem?_getD, List.getElem?_set]
  split <;> simp_all
theorem cw_early (b : List (BitVec 64)) (t : Nat) (h : t ≤ 16) : cw b t = b := by
  induction t with
  | zero => rfl
  | succ t ih => unfold cw; rw [if_neg (by omega)]; exact ih (by omega)
/-- At the begin of step t the circle has the last sixteen words. -/
theorem cw_spec (b : List (BitVec 64)) (hb : b.length = 16) (t : Nat) : ∀ s, s < max t 16 → max t 16 ≤ s + 16 → nb (cw b t) (s % 16) = wf b s := by
  induction t with
  | zero =>
    intro s h1 h2
    have : s < 16 := by omega
    rw [wf_lt b s this, Nat.mod_eq_of_lt this]; rfl
  | succ t ih =>
    intro s h1 h2
    unfold cw
    split
    · rename_i h16
      rw [nb_set _ _ _ _ (by rw [cw_len, hb]; omega)]
      have e1 := ih (t - 16) (by omega) (by omega)
      have e2 := ih (t - 7) (by omega) (by omega)
      have e3 := ih (t - 15) (by omega) (by omega)
      have e4 := ih (t - 2) (by omega) (by omega)
      rw [show (t - 16) % 16 = t % 16 from by omega] at e1
      rw [show (t - 7) % 16 = (t + 9) % 16 from by omega] at e2
      rw [show (t - 15) % 16 = (t + 1) % 16 from by omega] at e3
      rw [show (t - 2) % 16 = (t + 14) % 16 from by omega] at e4
      rw [e1, e2, e3, e4]
      by_cases hst : s = t
      · subst hst
        rw [if_pos rfl, wf_ge b s h16]
        ac_rfl
      · rw [if_neg (by omega)]
        exact ih s (by omega) (by omega)
    · exact ih s (by omega) (by omega)
theorem cw_word (b : List (BitVec 64)) (hb : b.length = 16) (t : Nat) : nb (cw b (t + 1)) (t % 16) = wf b t := by
  by_cases h : t < 16
  · rw [cw_early b (t + 1) (by omega), wf_lt b t h, Nat.mod_eq_of_lt h]
  · exact cw_spec b hb (t + 1) t (by omega) (by omega)

/-! ### the reference's eighty words -/
def w80 (b : List (BitVec 64)) : Nat → List (BitVec 64)
  | 0 => b
  | t + 1 => (w80 b t).set (16 + t) (sg1 (nb (w80 b t) (16 + t - 2)) + nb (w80 b t) (16 + t - 7) + sg0 (nb (w80 b t) (16 + t - 15)) + nb (w80 b t) (16 + t - 16))
theorem w80_len (b : List (BitVec 64)) (t : Nat) : (w80 b t).length = b.length := by induction t <;> simp [w80, *]
theorem w80_spec (b c : List (BitVec 64)) (hb : b.length = 80) (h : ∀ j, j < 16 → nb b j = nb c j) (t : Nat) (ht : t ≤ 64) : ∀ s, s < 16 + t → nb (w80 b t) s = wf c s := by
  induction t with
  | zero => intro s hs; rw [wf_lt c s (by omega)]; exact h s (by omega)
  | succ t ih =>
    intro s hs
    have ih := ih (by omega)
    unfold w80
    rw [nb_set _ _ _ _ (by rw [w80_len, hb]; omega)]
    by_cases hst : s = 16 + t
    · subst hst
      rw [if_pos rfl, ih _ (by omega), ih _ (by omega), ih _ (by omega), ih _ (by omega), wf_ge c (16 + t) (by omega)]
    · rw [if_neg (by omega)]
      exact ih s (by omega)
theorem nb_zero (n j : Nat) : nb (List.replicate n 0) j = 0 := by
  unfold nb
  rw [List.getD_eq_getElem?_getD, List.getElem?_replicate]
  split <;> rfl
theorem w16_more (ys : List (BitVec 8)) (i : Nat) (hi : i ≤ 128) : ∀ j, j < 16 → nb (w16 80 ys i) j = nb (w16 16 ys i) j := by
  induction i with
  | zero =>
    intro j hj
    show nb (List.replicate 80 0) j = nb (List.replicate 16 0) j
    rw [nb_zero, nb_zero]
  | succ i ih =>
    intro j hj
    unfold w16
    rw [nb_set _ _ _ _ (by rw [w16_len]; omega), nb_set _ _ _ _ (by rw [w16_len]; omega), ih (by omega) _ (by omega)]
    split
    · rfl
    · exact ih (by omega) j hj
theorem w80_word (ys : List (BitVec 8)) (t : Nat) (ht : t < 80) : nb (w80 (w16 80 ys 128) 64) t = wf (w16 16 ys 128) t :=
  w80_spec _ _ (w16_len _ _ _) (w16_more ys 128 (by omega)) 64 (by omega) t (by omega)

/-! ### blocks, and the end -/
def chunkS (m : List (BitVec 8)) (k : Nat) : List (BitVec 8) := (m.drop (128 * k)).take 128
def absS (s : List (BitVec 64)) (m : List (BitVec 8)) : Nat → List (BitVec 64)
  | 0 => s
  | k + 1 => blockL (absS s m k) (chunkS m k)
theorem absS_len (s : List (BitVec 64)) (m : List (BitVec 8)) (k : Nat) : (absS s m k).length = s.length := by induction k <;> simp [absS, blockL_len, *]
/-- The length, as sixteen bytes (of a text shorter than 2^61 bytes). -/
def lenY (n : Nat) : List (BitVec 8) := (List.range 16).map fun i => BitVec.ofNat 8 (8 * n / 2 ^ (8 * (15 - i)))
def padZ (n : Nat) : Nat := (239 - n % 128) % 128
/-- What stands behind a text of n bytes. -/
def tailS (n : Nat) : List (BitVec 8) := 128#8 :: (List.replicate (padZ n) 0 ++ lenY n)
theorem tailS_len (n : Nat) : (n + (tailS n).length) % 128 = 0 := by
  simp [tailS, lenY, padZ]; omega
def outS (s : List (BitVec 64)) : Nat → List (BitVec 8)
  | 0 => List.replicate 64 0
  | i + 1 => (outS s i).set i ((nb s (i / 8) >>> (56 - 8 * (i % 8))).setWidth 8)
theorem outS_len (s : List (BitVec 64)) (i : Nat) : (outS s i).length = 64 := by induction i <;> simp [outS, *]
def padS (m : List (BitVec 8)) : List (BitVec 8) := m ++ tailS m.length
def shaL (m : List (BitVec 8)) : List (BitVec 8) := outS (absS shaH (padS m) ((padS m).length / 128)) 64
theorem shaL_len (m : List (BitVec 8)) : (shaL m).length = 64 := outS_len _ _
end Go.Proofs.Ytmlaenfgfgloeaa
