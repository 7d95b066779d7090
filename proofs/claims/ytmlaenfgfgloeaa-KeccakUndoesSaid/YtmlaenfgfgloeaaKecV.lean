import Derived.Test.YtmlaenfgfgloeaaKecC
/-! keccak: a permutation undone: the plain law. -/
set_option linter.unusedVariables false
set_option linter.unusedSimpArgs false
namespace Go.Proofs.Ytmlaenfgfgloeaa
open Go.RowKit

/-- The bits of v, k-th (modulo five). -/
def vbit (v k : Nat) : Bool := (v >>> (k % 5)) % 2 == 1
def msk (b : Bool) : BitVec 64 := if b then BitVec.allOnes 64 else 0
/-- What chi makes of the five bits of v, at x. -/
def vchi (v x : Nat) : Bool := Bool.xor (vbit v x) (!(vbit v (x + 1)) && vbit v (x + 2))
/-- Where the row is what chi makes of v: the first x lanes looked at. -/
def isGo (row : List (BitVec 64)) (v : Nat) : Nat → BitVec 64
  | 0 => BitVec.allOnes 64
  | x + 1 => isGo row v x &&& ~~~ (nb row x ^^^ msk (vchi v x))
def outRow (is : BitVec 64) (v : Nat) (out : List (BitVec 64)) : Nat → List (BitVec 64)
  | 0 => out
  | x + 1 => (outRow is v out x).set x (nb (outRow is v out x) x ||| (is &&& msk (vbit v x)))
def unGo (row : List (BitVec 64)) : Nat → List (BitVec 64)
  | 0 => [0, 0, 0, 0, 0]
  | v + 1 => outRow (isGo row v 5) v (unGo row v) 5
def unchiL (row : List (BitVec 64)) : List (BitVec 64) := unGo row 32
theorem outRow_len (is : BitVec 64) (v : Nat) (out : List (BitVec 64)) (x : Nat) : (outRow is v out x).length = out.length := by induction x <;> simp [outRow, *]
theorem unGo_len (row : List (BitVec 64)) (v : Nat) : (unGo row v).length = 5 := by induction v <;> simp [unGo, outRow_len, *]
theorem unchiL_len (row : List (BitVec 64)) : (unchiL row).length = 5 := unGo_len _ _

theorem nbv_set (s : List (BitVec 64)) (i j : Nat) (x : BitVec 64) (hi : i < s.length) : nb (s.set i x) j = if i = j then x else nb s j := by
  unfold nb
  rw [List.getD_eq_getElem?_getD, List.getElem?_set, List.getD_eq_getElem?_getD]
  split <;> simp_all
theorem nb_ext {s t : List (BitVec 64)} (hl : s.length = t.length) (h : ∀ i, i < s.length → nb s i = nb t i) : s = t := by
  apply List.ext_getElem hl
  intro i h1 h2
  have := h i h1
  unfold nb at this
  simpa [List.getD_eq_getElem?_getD, h1, h2] using this

theorem getLsbD_msk (b : Bool) (j : Nat) (hj : j < 64) : (msk b).getLsbD j = b := by
  unfold msk; cases b
  · simp
  · rw [if_pos rfl, BitVec.getLsbD_allOnes]; simp [hj]
def bisGo (row : Nat → Bool) (v : Nat) : Nat → Bool
  | 0 => true
  | x + 1 => bisGo row v x && !(Bool.xor (row x) (vchi v x))
theorem isGo_bit (row : List (BitVec 64)) (v x j : Nat) (hj : j < 64) : (isGo row v x).getLsbD j = bisGo (fun i => (nb row i).getLsbD j) v x := by
  induction x with
  | zero => rw [isGo, bisGo, BitVec.getLsbD_allOnes]; simp [hj]
  | succ x ih => simp only [isGo, bisGo, BitVec.getLsbD_and, ih, BitVec.getLsbD_not, BitVec.getLsbD_xor, getLsbD_msk _ _ hj]; simp [hj]
theorem outRow_nb (is : BitVec 64) (v : Nat) (out : List (BitVec 64)) (ho : out.length = 5) (x : Nat) (hx : x ≤ 5) (i : Nat) :
    nb (outRow is v out x) i = if i < x then nb out i ||| (is &&& msk (vbit v i)) else nb out i := by
  induction x with
  | zero => simp [outRow]
  | succ x ih =>
    have ih := ih (by omega)
    rw [outRow, nbv_set _ _ _ _ (by rw [outRow_len]; omega)]
    by_cases h : x = i
    · subst h
      rw [if_pos rfl, if_pos (by omega), ih, if_neg (by omega)]
    · rw [if_neg h, ih]
      by_cases h2 : i < x
      · rw [if_pos h2, if_pos (by omega)]
      · rw [if_neg h2, if_neg (by omega)]
def bunGo (row : Nat → Bool) (i : Nat) : Nat → Bool
  | 0 => false
  | v + 1 => bunGo row i v || (bisGo row v 5 && vbit v i)
theorem unGo_bit (row : List (BitVec 64)) (v i j : Nat) (hi : i < 5) (hj : j < 64) : (nb (unGo row v) i).getLsbD j = bunGo (fun i => (nb row i).getLsbD j) i v := by
  induction v with
  | zero =>
    have : i = 0 ∨ i = 1 ∨ i = 2 ∨ i = 3 ∨ i = 4 := by omega
    rcases this with rfl | rfl | rfl | rfl | rfl <;> simp [unGo, nb, bunGo]
  | succ v ih =>
    rw [unGo, outRow_nb _ _ _ (unGo_len _ _) 5 (by omega), if_pos hi]
    simp only [bunGo, BitVec.getLsbD_or, BitVec.getLsbD_and, ih, isGo_bit _ _ _ _ hj, getLsbD_msk _ _ hj]
/-- Five bits as a function. -/
def five (a b c d e : Bool) : Nat → Bool
  | 0 => a | 1 => b | 2 => c | 3 => d | _ => e
theorem bisGo_five (row : Nat → Bool) (v : Nat) : bisGo row v 5 = bisGo (five (row 0) (row 1) (row 2) (row 3) (row 4)) v 5 := by
  simp [bisGo, five]
theorem bunGo_five (row : Nat → Bool) (i v : Nat) : bunGo row i v = bunGo (five (row 0) (row 1) (row 2) (row 3) (row 4)) i v := by
  induction v with
  | zero => rfl
  | succ v ih => rw [bunGo, bunGo, ih, bisGo_five]
theorem chi_un (a b c d e : Bool) : ∀ i, i < 5 → Bool.xor (bunGo (five a b c d e) i 32) (!(bunGo (five a b c d e) ((i + 1) % 5) 32) && bunGo (five a b c d e) ((i + 2) % 5) 32) = five a b c d e i := by
  cases a <;> cases b <;> cases c <;> cases d <;> cases e <;> decide +kernel
theorem un_chi (a b c d e : Bool) : ∀ i, i < 5 → bunGo (five (Bool.xor a (!b && c)) (Bool.xor b (!c && d)) (Bool.xor c (!d && e)) (Bool.xor d (!e && a)) (Bool.xor e (!a && b))) i 32 = five a b c d e i := by
  cases a <;> cases b <;> cases c <;> cases d <;> cases e <;> decide +kernel

/-- chi of one row. -/
def chi5 (row : List (BitVec 64)) (x : Nat) : BitVec 64 := nb row x ^^^ (~~~ nb row ((x + 1) % 5) &&& nb row ((x + 2) % 5))
theorem chi5_bit (row : List (BitVec 64)) (x j : Nat) (hj : j < 64) : (chi5 row x).getLsbD j = Bool.xor ((nb row x).getLsbD j) (!((nb row ((x + 1) % 5)).getLsbD j) && (nb row ((x + 2) % 5)).getLsbD j) := by
  simp [chi5, hj]
theorem chi5_unchi (row : List (BitVec 64)) (x : Nat) (hx : x < 5) : chi5 (unchiL row) x = nb row x := by
  apply BitVec.eq_of_getLsbD_eq
  intro j hj
  have h1 : (x + 1) % 5 < 5 := Nat.mod_lt _ (by omega)
  have h2 : (x + 2) % 5 < 5 := Nat.mod_lt _ (by omega)
  rw [chi5_bit _ _ _ hj]
  unfold unchiL
  rw [unGo_bit _ _ _ _ hx hj, unGo_bit _ _ _ _ h1 hj, unGo_bit _ _ _ _ h2 hj, bunGo_five, bunGo_five _ ((x + 1) % 5), bunGo_five _ ((x + 2) % 5), chi_un _ _ _ _ _ x hx]
  have : x = 0 ∨ x = 1 ∨ x = 2 ∨ x = 3 ∨ x = 4 := by omega
  rcases this with rfl | rfl | rfl | rfl | rfl <;> rfl
theorem unchi_chi5 (row row2 : List (BitVec 64)) (h : ∀ x, x < 5 → nb row2 x = chi5 row x) (x : Nat) (hx : x < 5) : nb (unchiL row2) x = nb row x := by
  apply BitVec.eq_of_getLsbD_eq
  intro j hj
  unfold unchiL
  rw [unGo_bit _ _ _ _ hx hj, bunGo_five]
  rw [h 0 (by omega), h 1 (by omega), h 2 (by omega), h 3 (by omega), h 4 (by omega)]
  simp only [chi5_bit _ _ _ hj]
  have := un_chi ((nb row 0).getLsbD j) ((nb row 1).getLsbD j) ((nb row 2).getLsbD j) ((nb row 3).getLsbD j) ((nb row 4).getLsbD j) x hx
  refine Eq.trans (show _ = _ from this) ?_
  have : x = 0 ∨ x = 1 ∨ x = 2 ∨ x = 3 ∨ x = 4 := by omega
  rcases this with rfl | rfl | rfl | rfl | rfl <;> rfl

/-- A row laid into a state. -/
def putRow (s row : List (BitVec 64)) (y : Nat) : List (BitVec 64) := s.take y ++ row ++ s.drop (y + 5)
theorem putRow_len (s row : List (BitVec 64)) (y : Nat) (hr : row.length = 5) (hy : y + 5 ≤ s.length) : (putRow s row y).length = s.length := by
  simp [putRow, hr]; omega
theorem putRow_nb (s row : List (BitVec 64)) (y : Nat) (hr : row.length = 5) (hy : y + 5 ≤ s.length) (i : Nat) : nb (putRow s row y) i = if y ≤ i ∧ i < y + 5 then nb row (i - y) else nb s i := by
  unfold nb putRow
  simp only [List.getD_eq_getElem?_getD]
  by_cases h1 : i < y
  · rw [if_neg (by omega), List.append_assoc, List.getElem?_append_left (by simp; omega), List.getElem?_take, if_pos h1]
  · by_cases h2 : i < y + 5
    · rw [if_pos (by omega), List.append_assoc, List.getElem?_append_right (by simp; omega), List.length_take, Nat.min_eq_left (by omega), List.getElem?_append_left (by omega)]
    · rw [if_neg (by omega), List.getElem?_append_right (by simp [hr]; omega), List.getElem?_drop]
      congr 2
      simp [hr]; omega
def unchiGo (s : List (BitVec 64)) : Nat → List (BitVec 64)
  | 0 => s
  | j + 1 => putRow (unchiGo s j) (unchiL (rowAt (unchiGo s j) (5 * j))) (5 * j)
theorem unchiGo_len (s : List (BitVec 64)) (hs : s.length = 25) (j : Nat) (hj : j ≤ 5) : (unchiGo s j).length = 25 := by
  induction j with
  | zero => exact hs
  | succ j ih => rw [unchiGo, putRow_len _ _ _ (unchiL_len _) (by rw [ih (by omega)]; omega), ih (by omega)]
theorem rowAt_nb (s : List (BitVec 64)) (y x : Nat) (hx : x < 5) : nb (rowAt s y) x = nb s (y + x) := by
  have : x = 0 ∨ x = 1 ∨ x = 2 ∨ x = 3 ∨ x = 4 := by omega
  rcases this with rfl | rfl | rfl | rfl | rfl <;> rfl
theorem unchiGo_nb (s : List (BitVec 64)) (hs : s.length = 25) (j : Nat) (hj : j ≤ 5) (i : Nat) : nb (unchiGo s j) i = if i < 5 * j then nb (unchiL (rowAt s (5 * (i / 5)))) (i % 5) else nb s i := by
  induction j generalizing i with
  | zero => simp [unchiGo]
  | succ j ih =>
    have hr : rowAt (unchiGo s j) (5 * j) = rowAt s (5 * j) := by
      unfold rowAt
      rw [ih (by omega), ih (by omega), ih (by omega), ih (by omega), ih (by omega)]
      rw [if_neg (by omega), if_neg (by omega), if_neg (by omega), if_neg (by omega), if_neg (by omega)]
    rw [unchiGo, hr, putRow_nb _ _ _ (unchiL_len _) (by rw [unchiGo_len s hs j (by omega)]; omega)]
    by_cases h1 : i < 5 * j
    · rw [if_neg (by omega), if_pos (by omega), ih (by omega), if_pos h1]
    · by_cases h2 : i < 5 * (j + 1)
      · rw [if_pos (by omega), if_pos h2, show i / 5 = j by omega, show i % 5 = i - 5 * j by omega]
      · rw [if_neg (by omega), if_neg h2, ih (by omega), if_neg h1]
theorem chiRow_nb (row s : List (BitVec 64)) (y : Nat) (hy : y + 5 ≤ s.length) (x : Nat) (hx : x ≤ 5) (i : Nat) :
    nb (chiRow row s y x) i = if y ≤ i ∧ i < y + x then nb s i ^^^ (~~~ nb row ((i - y + 1) % 5) &&& nb row ((i - y + 2) % 5)) else nb s i := by
  induction x generalizing i with
  | zero => rw [if_neg (by omega)]; rfl
  | succ x ih =>
    rw [chiRow, nbv_set _ _ _ _ (by rw [chiRow_len]; omega)]
    by_cases h : y + x = i
    · subst h
      rw [if_pos rfl, if_pos (by omega), ih (by omega), if_neg (by omega), show y + x - y = x by omega]
    · rw [if_neg h, ih (by omega)]
      by_cases h2 : y ≤ i ∧ i < y + x
      · rw [if_pos h2, if_pos (by omega)]
      · rw [if_neg h2, if_neg (by omega)]
theorem chiGo_nb (s : List (BitVec 64)) (hs : s.length = 25) (j : Nat) (hj : j ≤ 5) (i : Nat) : nb (chiGo s j) i = if i < 5 * j then chi5 (rowAt s (5 * (i / 5))) (i % 5) else nb s i := by
  induction j generalizing i with
  | zero => simp [chiGo]
  | succ j ih =>
    have hr : rowAt (chiGo s j) (5 * j) = rowAt s (5 * j) := by
      unfold rowAt
      rw [ih (by omega), ih (by omega), ih (by omega), ih (by omega), ih (by omega)]
      rw [if_neg (by omega), if_neg (by omega), if_neg (by omega), if_neg (by omega), if_neg (by omega)]
    rw [chiGo, hr, chiRow_nb _ _ _ (by rw [chiGo_len]; omega) 5 (by omega)]
    by_cases h1 : i < 5 * j
    · rw [if_neg (by omega), if_pos (by omega), ih (by omega), if_pos h1]
    · by_cases h2 : i < 5 * (j + 1)
      · rw [if_pos (by omega), if_pos h2, ih (by omega), if_neg h1, show i / 5 = j by omega, show i % 5 = i - 5 * j by omega, chi5, rowAt_nb s (5 * j) (i - 5 * j) (by omega), show 5 * j + (i - 5 * j) = i by omega]
      · rw [if_neg (by omega), if_neg h2, ih (by omega), if_neg h1]
theorem unchi_chi (s : List (BitVec 64)) (hs : s.length = 25) : unchiGo (chiL s) 5 = s := by
  have hc : (chiL s).length = 25 := by unfold chiL; rw [chiGo_len]; exact hs
  refine nb_ext (by rw [unchiGo_len _ hc 5 (by omega), hs]) fun i hi => ?_
  rw [unchiGo_len _ hc 5 (by omega)] at hi
  rw [unchiGo_nb _ hc 5 (by omega), if_pos (by omega), unchi_chi5 (rowAt s (5 * (i / 5))) _ (fun x hx => ?_) _ (Nat.mod_lt _ (by omega)), rowAt_nb _ _ _ (Nat.mod_lt _ (by omega)), show 5 * (i / 5) + i % 5 = i by omega]
  rw [rowAt_nb _ _ _ hx]
  unfold chiL
  rw [chiGo_nb _ hs 5 (by omega), if_pos (by omega), show (5 * (i / 5) + x) / 5 = i / 5 by omega, show (5 * (i / 5) + x) % 5 = x by omega]
theorem chi_unchi (s : List (BitVec 64)) (hs : s.length = 25) : chiL (unchiGo s 5) = s := by
  have hc := unchiGo_len s hs 5 (by omega)
  unfold chiL
  refine nb_ext (by rw [chiGo_len, hc, hs]) fun i hi => ?_
  rw [chiGo_len, hc] at hi
  rw [chiGo_nb _ hc 5 (by omega), if_pos (by omega)]
  have hr : ∀ x, x < 5 → nb (rowAt (unchiGo s 5) (5 * (i / 5))) x = nb (unchiL (rowAt s (5 * (i / 5)))) x := by
    intro x hx
    rw [rowAt_nb _ _ _ hx, unchiGo_nb _ hs 5 (by omega), if_pos (by omega), show (5 * (i / 5) + x) / 5 = i / 5 by omega, show (5 * (i / 5) + x) % 5 = x by omega]
  have h0 : i % 5 < 5 := Nat.mod_lt _ (by omega)
  unfold chi5
  rw [hr _ h0, hr _ (Nat.mod_lt _ (by omega)), hr _ (Nat.mod_lt _ (by omega))]
  have := chi5_unchi (rowAt s (5 * (i / 5))) (i % 5) h0
  unfold chi5 at this
  rw [this, rowAt_nb _ _ _ h0, show 5 * (i / 5) + i % 5 = i by omega]
theorem rotv_bit (x : BitVec 64) (n j : Nat) (hj : j < 64) : (x.rotateLeft n).getLsbD j = x.getLsbD ((j + 64 - n % 64) % 64) := by
  rw [BitVec.getLsbD_rotateLeft]
  by_cases h : j < n % 64
  · rw [decide_eq_true h, cond_true]; congr 1; omega
  · rw [decide_eq_false h, cond_false, decide_eq_true hj, Bool.true_and]; congr 1; omega
theorem rotv_xor (x y : BitVec 64) (n : Nat) : (x ^^^ y).rotateLeft n = x.rotateLeft n ^^^ y.rotateLeft n := by
  apply BitVec.eq_of_getLsbD_eq
  intro j hj
  rw [BitVec.getLsbD_xor, rotv_bit _ _ _ hj, rotv_bit _ _ _ hj, rotv_bit _ _ _ hj, BitVec.getLsbD_xor]
theorem rotv_rot (x : BitVec 64) (a b : Nat) (_ha : a ≤ 64) (_hb : b ≤ 64) : (x.rotateLeft a).rotateLeft b = x.rotateLeft ((a + b) % 64) := by
  apply BitVec.eq_of_getLsbD_eq
  intro j hj
  rw [rotv_bit _ _ _ hj, rotv_bit _ _ _ (Nat.mod_lt _ (by omega)), rotv_bit _ _ _ hj]
  congr 1; omega
theorem rotv_zero (x : BitVec 64) : x.rotateLeft 0 = x := by
  apply BitVec.eq_of_getLsbD_eq
  intro j hj
  rw [rotv_bit _ _ _ hj]; congr 1; omega

/-- What a theta makes of the columns' sums: p and q apart, n turned. -/
def J (p q n : Nat) (f : Nat → BitVec 64) : Nat → BitVec 64 := fun x => f x ^^^ f (x + p) ^^^ (f (x + q)).rotateLeft n
theorem J_J (p q n : Nat) (hn : n ≤ 64) (f : Nat → BitVec 64) : J p q n (J p q n f) = J (2 * p) (2 * q) (2 * n % 64) f := by
  funext x
  unfold J
  rw [rotv_xor, rotv_xor, rotv_rot _ _ _ hn hn, show x + p + p = x + 2 * p by omega, show x + q + p = x + p + q by omega, show x + q + q = x + 2 * q by omega, show n + n = 2 * n by omega]
  generalize f (x + 2 * p) = a
  generalize (f (x + 2 * q)).rotateLeft (2 * n % 64) = b
  generalize (f (x + p + q)).rotateLeft n = c
  generalize (f (x + q)).rotateLeft n = d
  generalize f (x + p) = e
  generalize f x = g
  apply BitVec.eq_of_getLsbD_eq
  intro j hj
  simp only [BitVec.getLsbD_xor]
  cases a.getLsbD j <;> cases b.getLsbD j <;> cases c.getLsbD j <;> cases d.getLsbD j <;> cases e.getLsbD j <;> cases g.getLsbD j <;> rfl
def iter {α : Type} (f : α → α) : Nat → α → α
  | 0, x => x
  | n + 1, x => f (iter f n x)
theorem iter_add {α : Type} (f : α → α) (m n : Nat) (x : α) : iter f (m + n) x = iter f m (iter f n x) := by
  induction m with
  | zero => simp [iter]
  | succ m ih => rw [show m + 1 + n = (m + n) + 1 by omega, iter, iter, ih]
theorem iter_two {α : Type} (f g : α → α) (m : Nat) (h : ∀ x, iter f m x = g x) (x : α) : iter f (m + m) x = g (g x) := by rw [iter_add, h, h]
theorem J64 (f : Nat → BitVec 64) : iter (J 4 1 1) 64 f = J 256 64 0 f := by
  have h0 : ∀ f, iter (J 4 1 1) 1 f = J 4 1 1 f := fun _ => rfl
  have h1 : ∀ f, iter (J 4 1 1) 2 f = J 8 2 2 f := fun f => by rw [show 2 = 1 + 1 from rfl, iter_two _ _ _ h0, J_J _ _ _ (by omega)]
  have h2 : ∀ f, iter (J 4 1 1) 4 f = J 16 4 4 f := fun f => by rw [show 4 = 2 + 2 from rfl, iter_two _ _ _ h1, J_J _ _ _ (by omega)]
  have h3 : ∀ f, iter (J 4 1 1) 8 f = J 32 8 8 f := fun f => by rw [show 8 = 4 + 4 from rfl, iter_two _ _ _ h2, J_J _ _ _ (by omega)]
  have h4 : ∀ f, iter (J 4 1 1) 16 f = J 64 16 16 f := fun f => by rw [show 16 = 8 + 8 from rfl, iter_two _ _ _ h3, J_J _ _ _ (by omega)]
  have h5 : ∀ f, iter (J 4 1 1) 32 f = J 128 32 32 f := fun f => by rw [show 32 = 16 + 16 from rfl, iter_two _ _ _ h4, J_J _ _ _ (by omega)]
  exact (iter_two _ _ 32 h5 f).trans (by rw [J_J _ _ _ (by omega)])
theorem J192 (f : Nat → BitVec 64) (hp : ∀ x, f x = f (x % 5)) (x : Nat) : iter (J 4 1 1) 192 f x = f x := by
  rw [show 192 = 64 + (64 + 64) from rfl, iter_add, iter_add, J64, J64, J64]
  simp only [J, rotv_zero]
  have e : ∀ y z, y % 5 = z % 5 → f y = f z := fun y z h => by rw [hp y, hp z, h]
  have g : ∀ k, f (x + k) = f (x + k % 5) := fun k => e _ _ (by omega)
  simp only [Nat.add_assoc, Nat.reduceAdd]
  rw [g 64, g 256, g 128, g 320, g 512, g 192, g 384, g 576, g 768]
  simp only [Nat.reduceMod, Nat.add_zero]
  generalize f (x + 1) = a
  generalize f (x + 2) = b
  generalize f (x + 3) = c
  generalize f (x + 4) = d
  generalize f x = g
  apply BitVec.eq_of_getLsbD_eq
  intro j hj
  simp only [BitVec.getLsbD_xor]
  cases a.getLsbD j <;> cases b.getLsbD j <;> cases c.getLsbD j <;> cases d.getLsbD j <;> cases g.getLsbD j <;> rfl

theorem thGo_nb (c s : List (BitVec 64)) (k : Nat) (hk : k ≤ s.length) (i : Nat) : nb (thGo c s k) i = if i < k then nb s i ^^^ (nb c ((i + 4) % 5) ^^^ (nb c ((i + 1) % 5)).rotateLeft 1) else nb s i := by
  induction k generalizing i with
  | zero => simp [thGo]
  | succ k ih =>
    rw [thGo, nbv_set _ _ _ _ (by rw [thGo_len]; omega)]
    by_cases h : k = i
    · subst h; rw [if_pos rfl, if_pos (by omega), ih (by omega), if_neg (by omega)]
    · rw [if_neg h, ih (by omega)]
      by_cases h2 : i < k
      · rw [if_pos h2, if_pos (by omega)]
      · rw [if_neg h2, if_neg (by omega)]
/-- The columns' sums as a function. -/
def col (s : List (BitVec 64)) (x : Nat) : BitVec 64 := nb s (x % 5) ^^^ nb s (x % 5 + 5) ^^^ nb s (x % 5 + 10) ^^^ nb s (x % 5 + 15) ^^^ nb s (x % 5 + 20)
theorem csum_col (s : List (BitVec 64)) (x : Nat) (hx : x < 5) : nb (csum s 25) x = col s x := by
  have : x = 0 ∨ x = 1 ∨ x = 2 ∨ x = 3 ∨ x = 4 := by omega
  rcases this with rfl | rfl | rfl | rfl | rfl <;> simp [csum, col, nb]
theorem theta_nb (s : List (BitVec 64)) (hs : s.length = 25) (i : Nat) (hi : i < 25) : nb (thetaL s) i = nb s i ^^^ (col s i ^^^ J 4 1 1 (col s) i) := by
  unfold thetaL
  rw [thGo_nb _ _ _ (by omega), if_pos hi, csum_col _ _ (Nat.mod_lt _ (by omega)), csum_col _ _ (Nat.mod_lt _ (by omega))]
  have e : ∀ y, col s (y % 5) = col s y := fun y => by unfold col; rw [Nat.mod_mod]
  rw [e, e]
  unfold J
  generalize col s i = a
  generalize col s (i + 4) = b
  generalize (col s (i + 1)).rotateLeft 1 = c
  generalize nb s i = d
  apply BitVec.eq_of_getLsbD_eq
  intro j hj
  simp only [BitVec.getLsbD_xor]
  cases a.getLsbD j <;> cases b.getLsbD j <;> cases c.getLsbD j <;> cases d.getLsbD j <;> rfl
theorem col_per (s : List (BitVec 64)) (y : Nat) : col s y = col s (y % 5) := by unfold col; rw [Nat.mod_mod]
theorem J_per (p q n : Nat) (f : Nat → BitVec 64) (h : ∀ y, f y = f (y % 5)) (y : Nat) : J p q n f y = J p q n f (y % 5) := by
  unfold J
  have e : ∀ y z, y % 5 = z % 5 → f y = f z := fun y z g => by rw [h y, h z, g]
  rw [e y (y % 5) (by omega), e (y + p) (y % 5 + p) (by omega), e (y + q) (y % 5 + q) (by omega)]
theorem col_theta (s : List (BitVec 64)) (hs : s.length = 25) : col (thetaL s) = J 4 1 1 (col s) := by
  funext x
  have h5 : x % 5 < 5 := Nat.mod_lt _ (by omega)
  rw [J_per _ _ _ _ (col_per s)]
  have e : ∀ k, (x % 5 + 5 * k) % 5 = x % 5 := fun k => by omega
  have c : ∀ k, col s (x % 5 + 5 * k) = col s (x % 5) := fun k => by rw [col_per, e, col_per s (x % 5), Nat.mod_mod]
  have jj : ∀ k, J 4 1 1 (col s) (x % 5 + 5 * k) = J 4 1 1 (col s) (x % 5) := fun k => by rw [J_per _ _ _ _ (col_per s), e]
  show nb (thetaL s) (x % 5) ^^^ nb (thetaL s) (x % 5 + 5 * 1) ^^^ nb (thetaL s) (x % 5 + 5 * 2) ^^^ nb (thetaL s) (x % 5 + 5 * 3) ^^^ nb (thetaL s) (x % 5 + 5 * 4) = _
  rw [theta_nb s hs _ (by omega), theta_nb s hs _ (by omega), theta_nb s hs _ (by omega), theta_nb s hs _ (by omega), theta_nb s hs _ (by omega)]
  rw [c, c, c, c, jj, jj, jj, jj]
  have hc : col s (x % 5) = nb s (x % 5) ^^^ nb s (x % 5 + 5 * 1) ^^^ nb s (x % 5 + 5 * 2) ^^^ nb s (x % 5 + 5 * 3) ^^^ nb s (x % 5 + 5 * 4) := by unfold col; rw [Nat.mod_mod]
  generalize J 4 1 1 (col s) (x % 5) = g
  rw [hc]
  generalize nb s (x % 5) = a0
  generalize nb s (x % 5 + 5 * 1) = a1
  generalize nb s (x % 5 + 5 * 2) = a2
  generalize nb s (x % 5 + 5 * 3) = a3
  generalize nb s (x % 5 + 5 * 4) = a4
  apply BitVec.eq_of_getLsbD_eq
  intro j hj
  simp only [BitVec.getLsbD_xor]
  cases a0.getLsbD j <;> cases a1.getLsbD j <;> cases a2.getLsbD j <;> cases a3.getLsbD j <;> cases a4.getLsbD j <;> cases g.getLsbD j <;> rfl
theorem iterT_len (s : List (BitVec 64)) (n : Nat) : (iter thetaL n s).length = s.length := by
  induction n with
  | zero => rfl
  | succ n ih => rw [iter, thetaL_len, ih]
theorem iterT_col (s : List (BitVec 64)) (hs : s.length = 25) (n : Nat) : col (iter thetaL n s) = iter (J 4 1 1) n (col s) := by
  induction n with
  | zero => rfl
  | succ n ih => rw [iter, iter, col_theta _ (by rw [iterT_len]; exact hs), ih]
theorem iterT_nb (s : List (BitVec 64)) (hs : s.length = 25) (n i : Nat) (hi : i < 25) : nb (iter thetaL n s) i = nb s i ^^^ (col s i ^^^ iter (J 4 1 1) n (col s) i) := by
  induction n with
  | zero => simp [iter]
  | succ n ih =>
    rw [iter, theta_nb _ (by rw [iterT_len]; exact hs) i hi, ih, iterT_col s hs, iter]
    generalize nb s i = a
    generalize col s i = b
    generalize iter (J 4 1 1) n (col s) = f
    generalize f i = c
    generalize J 4 1 1 f i = d
    apply BitVec.eq_of_getLsbD_eq
    intro j hj
    simp only [BitVec.getLsbD_xor]
    cases a.getLsbD j <;> cases b.getLsbD j <;> cases c.getLsbD j <;> cases d.getLsbD j <;> rfl
theorem theta192 (s : List (BitVec 64)) (hs : s.length = 25) : iter thetaL 192 s = s := by
  refine nb_ext (iterT_len s 192) fun i hi => ?_
  rw [iterT_len, hs] at hi
  rw [iterT_nb s hs 192 i hi, J192 _ (col_per s)]
  simp
theorem iter_comm {α : Type} (f : α → α) (n : Nat) (x : α) : iter f n (f x) = f (iter f n x) := by
  induction n with
  | zero => rfl
  | succ n ih => rw [iter, ih, iter]

/-- rho and pi undone: the lanes walked back. -/
def prGo (t : List (BitVec 64)) : Nat → List (BitVec 64) × Nat
  | 0 => (t, 1)
  | i + 1 => ((prGo t i).1.set (prGo t i).2 ((nb t (laneN i)).rotateLeft (64 - turnN i)), laneN i)
theorem prGo_len (t : List (BitVec 64)) (i : Nat) : (prGo t i).1.length = t.length := by induction i <;> simp [prGo, *]
def pirho (t : List (BitVec 64)) : List (BitVec 64) := (prGo t 24).1
theorem lenv25 (s : List (BitVec 64)) (hs : s.length = 25) : s = [nb s 0, nb s 1, nb s 2, nb s 3, nb s 4, nb s 5, nb s 6, nb s 7, nb s 8, nb s 9, nb s 10, nb s 11, nb s 12, nb s 13, nb s 14, nb s 15, nb s 16, nb s 17, nb s 18, nb s 19, nb s 20, nb s 21, nb s 22, nb s 23, nb s 24] := by
  refine nb_ext (by simpa using hs) fun i hi => ?_
  rw [hs] at hi
  have : i = 0 ∨ i = 1 ∨ i = 2 ∨ i = 3 ∨ i = 4 ∨ i = 5 ∨ i = 6 ∨ i = 7 ∨ i = 8 ∨ i = 9 ∨ i = 10 ∨ i = 11 ∨ i = 12 ∨ i = 13 ∨ i = 14 ∨ i = 15 ∨ i = 16 ∨ i = 17 ∨ i = 18 ∨ i = 19 ∨ i = 20 ∨ i = 21 ∨ i = 22 ∨ i = 23 ∨ i = 24 := by omega
  rcases this with rfl | rfl | rfl | rfl | rfl | rfl | rfl | rfl | rfl | rfl | rfl | rfl | rfl | rfl | rfl | rfl | rfl | rfl | rfl | rfl | rfl | rfl | rfl | rfl | rfl <;> rfl
theorem rhopi_eq (a0 a1 a2 a3 a4 a5 a6 a7 a8 a9 b0 b1 b2 b3 b4 b5 b6 b7 b8 b9 c0 c1 c2 c3 c4 : BitVec 64) :
    rhopi [a0, a1, a2, a3, a4, a5, a6, a7, a8, a9, b0, b1, b2, b3, b4, b5, b6, b7, b8, b9, c0, c1, c2, c3, c4] =
    [a0, a6.rotateLeft 44, b2.rotateLeft 43, b8.rotateLeft 21, c4.rotateLeft 14, a3.rotateLeft 28, a9.rotateLeft 20, b0.rotateLeft 3, b6.rotateLeft 45, c2.rotateLeft 61,
     a1.rotateLeft 1, a7.rotateLeft 6, b3.rotateLeft 25, b9.rotateLeft 8, c0.rotateLeft 18, a4.rotateLeft 27, a5.rotateLeft 36, b1.rotateLeft 10, b7.rotateLeft 15, c3.rotateLeft 56, a2.rotateLeft 62, a8.rotateLeft 55, b4.rotateLeft 39, b5.rotateLeft 41, c1.rotateLeft 2] := by
  kernel_rfl
theorem pirho_eq (a0 a1 a2 a3 a4 a5 a6 a7 a8 a9 b0 b1 b2 b3 b4 b5 b6 b7 b8 b9 c0 c1 c2 c3 c4 : BitVec 64) :
    pirho [a0, a1, a2, a3, a4, a5, a6, a7, a8, a9, b0, b1, b2, b3, b4, b5, b6, b7, b8, b9, c0, c1, c2, c3, c4] =
    [a0, b0.rotateLeft 63, c0.rotateLeft 2, a5.rotateLeft 36, b5.rotateLeft 37, b6.rotateLeft 28, a1.rotateLeft 20, b1.rotateLeft 58, c1.rotateLeft 9, a6.rotateLeft 44,
     a7.rotateLeft 61, b7.rotateLeft 54, a2.rotateLeft 21, b2.rotateLeft 39, c2.rotateLeft 25, c3.rotateLeft 23, a8.rotateLeft 19, b8.rotateLeft 49, a3.rotateLeft 43, b3.rotateLeft 56, b4.rotateLeft 46, c4.rotateLeft 62, a9.rotateLeft 3, b9.rotateLeft 8, a4.rotateLeft 50] := by
  kernel_rfl
theorem rot_back (x : BitVec 64) (a b : Nat) (h : a + b = 64) : (x.rotateLeft a).rotateLeft b = x := by
  rw [rotv_rot _ _ _ (by omega) (by omega), h]; exact rotv_zero x
theorem pirho_rhopi (s : List (BitVec 64)) (hs : s.length = 25) : pirho (rhopi s) = s := by
  have h := lenv25 s hs
  rw [h, rhopi_eq, pirho_eq]
  simp only [rot_back _ _ _ (show 44 + 20 = 64 from rfl), rot_back _ _ _ (show 43 + 21 = 64 from rfl), rot_back _ _ _ (show 21 + 43 = 64 from rfl), rot_back _ _ _ (show 14 + 50 = 64 from rfl), rot_back _ _ _ (show 28 + 36 = 64 from rfl), rot_back _ _ _ (show 20 + 44 = 64 from rfl), rot_back _ _ _ (show 3 + 61 = 64 from rfl), rot_back _ _ _ (show 45 + 19 = 64 from rfl), rot_back _ _ _ (show 61 + 3 = 64 from rfl), rot_back _ _ _ (show 1 + 63 = 64 from rfl), rot_back _ _ _ (show 6 + 58 = 64 from rfl), rot_back _ _ _ (show 25 + 39 = 64 from rfl), rot_back _ _ _ (show 8 + 56 = 64 from rfl), rot_back _ _ _ (show 18 + 46 = 64 from rfl), rot_back _ _ _ (show 27 + 37 = 64 from rfl), rot_back _ _ _ (show 36 + 28 = 64 from rfl), rot_back _ _ _ (show 10 + 54 = 64 from rfl), rot_back _ _ _ (show 15 + 49 = 64 from rfl), rot_back _ _ _ (show 56 + 8 = 64 from rfl), rot_back _ _ _ (show 62 + 2 = 64 from rfl), rot_back _ _ _ (show 55 + 9 = 64 from rfl), rot_back _ _ _ (show 39 + 25 = 64 from rfl), rot_back _ _ _ (show 41 + 23 = 64 from rfl), rot_back _ _ _ (show 2 + 62 = 64 from rfl)]
theorem rhopi_pirho (s : List (BitVec 64)) (hs : s.length = 25) : rhopi (pirho s) = s := by
  have h := lenv25 s hs
  rw [h, pirho_eq, rhopi_eq]
  simp only [rot_back _ _ _ (show 20 + 44 = 64 from rfl), rot_back _ _ _ (show 21 + 43 = 64 from rfl), rot_back _ _ _ (show 43 + 21 = 64 from rfl), rot_back _ _ _ (show 50 + 14 = 64 from rfl), rot_back _ _ _ (show 36 + 28 = 64 from rfl), rot_back _ _ _ (show 44 + 20 = 64 from rfl), rot_back _ _ _ (show 61 + 3 = 64 from rfl), rot_back _ _ _ (show 19 + 45 = 64 from rfl), rot_back _ _ _ (show 3 + 61 = 64 from rfl), rot_back _ _ _ (show 63 + 1 = 64 from rfl), rot_back _ _ _ (show 58 + 6 = 64 from rfl), rot_back _ _ _ (show 39 + 25 = 64 from rfl), rot_back _ _ _ (show 56 + 8 = 64 from rfl), rot_back _ _ _ (show 46 + 18 = 64 from rfl), rot_back _ _ _ (show 37 + 27 = 64 from rfl), rot_back _ _ _ (show 28 + 36 = 64 from rfl), rot_back _ _ _ (show 54 + 10 = 64 from rfl), rot_back _ _ _ (show 49 + 15 = 64 from rfl), rot_back _ _ _ (show 8 + 56 = 64 from rfl), rot_back _ _ _ (show 2 + 62 = 64 from rfl), rot_back _ _ _ (show 9 + 55 = 64 from rfl), rot_back _ _ _ (show 25 + 39 = 64 from rfl), rot_back _ _ _ (show 23 + 41 = 64 from rfl), rot_back _ _ _ (show 62 + 2 = 64 from rfl)]

theorem iota_iota (s : List (BitVec 64)) (hs : s.length = 25) (r : Nat) : iotaL (iotaL s r) r = s := by
  unfold iotaL
  rw [nbv_set _ _ _ _ (by omega), if_pos rfl, List.set_set]
  refine nb_ext (by simp) fun i hi => ?_
  simp at hi
  rw [nbv_set _ _ _ _ (by omega)]
  split
  · rename_i h; subst h; rw [BitVec.xor_assoc]; simp
  · rfl
def unround (s : List (BitVec 64)) (r : Nat) : List (BitVec 64) := iter thetaL 191 (pirho (unchiGo (iotaL s r) 5))
theorem iotaL_len (s : List (BitVec 64)) (r : Nat) : (iotaL s r).length = s.length := by simp [iotaL]
theorem pirho_len (s : List (BitVec 64)) : (pirho s).length = s.length := prGo_len _ _
theorem unround_len (s : List (BitVec 64)) (hs : s.length = 25) (r : Nat) : (unround s r).length = 25 := by
  unfold unround; rw [iterT_len, pirho_len, unchiGo_len _ (by rw [iotaL_len]; exact hs) 5 (by omega)]
theorem unround_round (s : List (BitVec 64)) (hs : s.length = 25) (r : Nat) : unround (roundL s r) r = s := by
  have h1 : (thetaL s).length = 25 := by rw [thetaL_len]; exact hs
  have h2 : (rhopi (thetaL s)).length = 25 := by unfold rhopi; rw [rpGo_len]; exact h1
  have h3 : (chiL (rhopi (thetaL s))).length = 25 := by unfold chiL; rw [chiGo_len]; exact h2
  unfold unround roundL
  rw [iota_iota _ h3, unchi_chi _ h2, pirho_rhopi _ h1, iter_comm]
  exact theta192 s hs
theorem round_unround (s : List (BitVec 64)) (hs : s.length = 25) (r : Nat) : roundL (unround s r) r = s := by
  have h1 : (iotaL s r).length = 25 := by rw [iotaL_len]; exact hs
  have h2 : (unchiGo (iotaL s r) 5).length = 25 := unchiGo_len _ h1 5 (by omega)
  have h3 : (pirho (unchiGo (iotaL s r) 5)).length = 25 := by rw [pirho_len]; exact h2
  unfold unround roundL
  rw [show thetaL (iter thetaL 191 (pirho (unchiGo (iotaL s r) 5))) = iter thetaL 192 (pirho (unchiGo (iotaL s r) 5)) from rfl, theta192 _ h3, rhopi_pirho _ h2, chi_unchi _ h1, iota_iota _ hs]
def undoGo (s : List (BitVec 64)) : Nat → List (BitVec 64)
  | 0 => s
  | k + 1 => unround (undoGo s k) (23 - k)
theorem undoGo_len (s : List (BitVec 64)) (hs : s.length = 25) (k : Nat) : (undoGo s k).length = 25 := by
  induction k with
  | zero => exact hs
  | succ k ih => rw [undoGo, unround_len _ ih]
def undoL (s : List (BitVec 64)) : List (BitVec 64) := undoGo s 24
theorem undo_perm (s : List (BitVec 64)) (hs : s.length = 25) : undoL (permL s) = s := by
  have h : ∀ k, k ≤ 24 → undoGo (permL s) k = permGo s (24 - k) := by
    intro k hk
    induction k with
    | zero => rfl
    | succ k ih =>
      rw [undoGo, ih (by omega), show 24 - k = (23 - k) + 1 by omega, permGo, unround_round _ (by rw [permGo_len]; exact hs), show 24 - (k + 1) = 23 - k by omega]
  exact h 24 (by omega)
theorem perm_undo (s : List (BitVec 64)) (hs : s.length = 25) : permL (undoL s) = s := by
  have h : ∀ k, k ≤ 24 → permGo (undoL s) k = undoGo s (24 - k) := by
    intro k hk
    induction k with
    | zero => rfl
    | succ k ih =>
      rw [permGo, ih (by omega), show 24 - k = (23 - k) + 1 by omega, undoGo, show 23 - (23 - k) = k by omega, round_unround _ (undoGo_len _ hs _), show 24 - (k + 1) = 23 - k by omega]
  exact h 24 (by omega)
end Go.Proofs.Ytmlaenfgfgloeaa
