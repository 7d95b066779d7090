import Derived.Test.YtfidbiabgmioaaaDivB
import Derived.Test.YtfidbiabgmioaaaWordD
/-! word.step: the plain law. -/
set_option maxRecDepth 4000
set_option linter.unusedVariables false
set_option linter.unusedSimpArgs false
namespace Go.Proofs.Ytfidbiabgmioaaa
open Go.RowKit

/-- i limbs from the k-th on. -/
def win (Z k i : Nat) : Nat := Z / 2 ^ (64 * k) % 2 ^ (64 * i)
theorem win_zero (Z k : Nat) : win Z k 0 = 0 := by unfold win; rw [Nat.mul_zero, Nat.pow_zero, Nat.mod_one]
theorem win_succ (Z k i : Nat) : win Z k (i + 1) = win Z k i + 2 ^ (64 * i) * lmN Z (k + i) := by
  unfold win
  rw [low_succ]
  congr 2
  unfold lmN
  rw [Nat.div_div_eq_div_mul, ← Nat.pow_add]; congr 3; omega
theorem win_lt (Z k i : Nat) : win Z k i < 2 ^ (64 * i) := Nat.mod_lt _ (Nat.pow_pos (by omega))
theorem win_set (Z k i v : Nat) (hv : v < 2 ^ 64) : win (setL Z (k + i) v) k i = win Z k i := by
  induction i with
  | zero => rw [win_zero, win_zero]
  | succ i ih =>
    have h : ∀ m, m ≤ i → win (setL Z (k + (i + 1)) v) k m = win Z k m := fun m hm => by
      induction m with
      | zero => rw [win_zero, win_zero]
      | succ m ihm => rw [win_succ, win_succ, ihm (by omega), lmN_setL _ _ _ _ hv, if_neg (by omega)]
    rw [win_succ, win_succ, h i (Nat.le_refl _), lmN_setL _ _ _ _ hv, if_neg (by omega)]
theorem win_put (Z k i v : Nat) (hv : v < 2 ^ 64) : win (setL Z (k + i) v) k (i + 1) = win Z k i + 2 ^ (64 * i) * v := by
  rw [win_succ, win_set Z k i v hv, lmN_setL _ _ _ _ hv, if_pos rfl]

/-- i limbs were turned: what they were, and the others are as they were. -/
structure Turn (Z0 Z k i : Nat) : Prop where
  eq : Z + 2 ^ (64 * k) * win Z0 k i = Z0 + 2 ^ (64 * k) * win Z k i
  up : ∀ j, i ≤ j → lmN Z (k + j) = lmN Z0 (k + j)
theorem Turn.start (Z k : Nat) : Turn Z Z k 0 := ⟨rfl, fun _ _ => rfl⟩
theorem Turn.set {Z0 Z k i : Nat} (h : Turn Z0 Z k i) (v : Nat) (hv : v < 2 ^ 64) : Turn Z0 (setL Z (k + i) v) k (i + 1) := by
  refine ⟨?_, fun j hj => by rw [lmN_setL _ _ _ _ hv, if_neg (by omega)]; exact h.up j (by omega)⟩
  have h1 := setL_eq Z (k + i) v
  have h2 := h.eq
  have h3 := h.up i (Nat.le_refl _)
  rw [win_succ Z0, win_put Z k i v hv, Nat.mul_add, Nat.mul_add, ← Nat.mul_assoc, ← Nat.mul_assoc, ← Nat.pow_add, ← Nat.mul_add, ← h3]
  omega
/-- All that was turned, once more. -/
theorem Turn.trans {Z0 Z1 Z2 k n : Nat} (h : Turn Z0 Z1 k n) (g : Turn Z1 Z2 k n) : Turn Z0 Z2 k n := by
  refine ⟨?_, fun j hj => (g.up j hj).trans (h.up j hj)⟩
  have h1 := h.eq
  have h2 := g.eq
  omega

/-- The products taken away, limb by limb: G times V from the window. -/
def Mul (Z0 Z k V G i b c : Nat) : Prop := win Z k i + G * (V % 2 ^ (64 * i)) = win Z0 k i + 2 ^ (64 * i) * (b + c)
theorem Mul.start (Z k V G : Nat) : Mul Z Z k V G 0 0 0 := by
  unfold Mul; rw [Nat.mul_zero, Nat.pow_zero, Nat.mod_one]; omega
theorem Mul.step {Z0 Z k V G i b c hi lo l2 cc nw b2 : Nat} (h : Mul Z0 Z k V G i b c) (hup : lmN Z (k + i) = lmN Z0 (k + i)) (hnw : nw < 2 ^ 64)
    (h1 : G * lmN V i = lo + 2 ^ 64 * hi) (h2 : lo + c = l2 + 2 ^ 64 * cc) (h3 : nw + l2 + b = lmN Z (k + i) + 2 ^ 64 * b2) :
    Mul Z0 (setL Z (k + i) nw) k V G (i + 1) b2 (hi + cc) := by
  unfold Mul at *
  rw [win_put _ _ _ _ hnw, win_succ Z0, low_succ, Nat.mul_add G, pow64_succ]
  have e1 : G * (2 ^ (64 * i) * lmN V i) = 2 ^ (64 * i) * lo + 2 ^ (64 * i) * (2 ^ 64 * hi) := by rw [Nat.mul_left_comm, h1, Nat.mul_add]
  have e2 : 2 ^ (64 * i) * lo + 2 ^ (64 * i) * c = 2 ^ (64 * i) * l2 + 2 ^ (64 * i) * (2 ^ 64 * cc) := by rw [← Nat.mul_add, h2, Nat.mul_add]
  have e3 : 2 ^ (64 * i) * nw + 2 ^ (64 * i) * l2 + 2 ^ (64 * i) * b = 2 ^ (64 * i) * lmN Z0 (k + i) + 2 ^ (64 * i) * (2 ^ 64 * b2) := by rw [← Nat.mul_add, ← Nat.mul_add, h3, hup, Nat.mul_add]
  rw [Nat.mul_add] at h
  rw [Nat.mul_assoc, Nat.mul_add, Nat.mul_add, Nat.mul_add]
  rw [Nat.mul_add]
  omega
/-- The last limb. -/
theorem Mul.last {Z0 Z k V G n b c nw b2 : Nat} (h : Mul Z0 Z k V G n b c) (hV : V < 2 ^ (64 * n)) (hup : lmN Z (k + n) = lmN Z0 (k + n)) (hnw : nw < 2 ^ 64) (h3 : nw + c + b = lmN Z (k + n) + 2 ^ 64 * b2) :
    win (setL Z (k + n) nw) k (n + 1) + G * V = win Z0 k (n + 1) + 2 ^ (64 * (n + 1)) * b2 := by
  unfold Mul at h
  rw [Nat.mod_eq_of_lt hV] at h
  rw [win_put _ _ _ _ hnw, win_succ Z0, pow64_succ]
  have e3 : 2 ^ (64 * n) * nw + 2 ^ (64 * n) * c + 2 ^ (64 * n) * b = 2 ^ (64 * n) * lmN Z0 (k + n) + 2 ^ (64 * n) * (2 ^ 64 * b2) := by rw [← Nat.mul_add, ← Nat.mul_add, h3, hup, Nat.mul_add]
  rw [Nat.mul_add] at h
  rw [Nat.mul_assoc]
  omega
/-- V added back, limb by limb. -/
def Adb (Z0 Z k V i c : Nat) : Prop := win Z k i + 2 ^ (64 * i) * c = win Z0 k i + V % 2 ^ (64 * i)
theorem Adb.start (Z k V : Nat) : Adb Z Z k V 0 0 := by
  unfold Adb; rw [Nat.mul_zero, Nat.pow_zero, Nat.mod_one]
theorem Adb.step {Z0 Z k V i c nw c2 : Nat} (h : Adb Z0 Z k V i c) (hup : lmN Z (k + i) = lmN Z0 (k + i)) (hnw : nw < 2 ^ 64) (h1 : lmN Z (k + i) + lmN V i + c = nw + 2 ^ 64 * c2) :
    Adb Z0 (setL Z (k + i) nw) k V (i + 1) c2 := by
  unfold Adb at *
  rw [win_put _ _ _ _ hnw, win_succ Z0, low_succ, pow64_succ]
  have e1 : 2 ^ (64 * i) * lmN Z0 (k + i) + 2 ^ (64 * i) * lmN V i + 2 ^ (64 * i) * c = 2 ^ (64 * i) * nw + 2 ^ (64 * i) * (2 ^ 64 * c2) := by rw [← Nat.mul_add, ← Nat.mul_add, ← hup, h1, Nat.mul_add]
  rw [Nat.mul_assoc]
  omega
theorem Adb.last {Z0 Z k V n c nw c2 : Nat} (h : Adb Z0 Z k V n c) (hV : V < 2 ^ (64 * n)) (hup : lmN Z (k + n) = lmN Z0 (k + n)) (hnw : nw < 2 ^ 64) (h1 : lmN Z (k + n) + 0 + c = nw + 2 ^ 64 * c2) :
    win (setL Z (k + n) nw) k (n + 1) + 2 ^ (64 * (n + 1)) * c2 = win Z0 k (n + 1) + V := by
  unfold Adb at h
  rw [Nat.mod_eq_of_lt hV] at h
  rw [win_put _ _ _ _ hnw, win_succ Z0, pow64_succ]
  have e1 : 2 ^ (64 * n) * lmN Z0 (k + n) + 2 ^ (64 * n) * c = 2 ^ (64 * n) * nw + 2 ^ (64 * n) * (2 ^ 64 * c2) := by rw [← Nat.mul_add, ← hup]; rw [Nat.add_zero] at h1; rw [h1, Nat.mul_add]
  rw [Nat.mul_assoc]
  omega

/-- A guess is no less than the quotient: the top limbs alone. -/
theorem guess_top (X V n q : Nat) (hq : q = X / V) (hV : 0 < V) (hv : 0 < lmN V n) (hVn : V < 2 ^ (64 * (n + 1))) :
    q ≤ (X / 2 ^ (64 * n)) / lmN V n := by
  have hp : 0 < 2 ^ (64 * n) := Nat.pow_pos (by omega)
  have hv1 : lmN V n = V / 2 ^ (64 * n) := by
    unfold lmN
    rw [pow64_succ, Nat.mul_comm] at hVn
    exact Nat.mod_eq_of_lt ((Nat.div_lt_iff_lt_mul hp).2 hVn)
  rw [Nat.le_div_iff_mul_le hv, Nat.le_div_iff_mul_le hp, hv1]
  have h1 := Nat.div_mul_le_self V (2 ^ (64 * n))
  have h2 := Nat.div_mul_le_self X V
  rw [← hq] at h2
  exact Nat.le_trans (by rw [Nat.mul_assoc]; exact Nat.mul_le_mul_left _ h1) h2
/-- A guess is too big, as two limbs tell. -/
theorem guess_more (X V n q g r : Nat) (hq : q = X / V) (hV : 0 < V) (hs : X / 2 ^ (64 * (n + 1)) = g * (V / 2 ^ (64 * (n + 1))) + r) (hgt : r * 2 ^ 64 + lmN X n < g * lmN V n) : q < g := by
  rw [hq, Nat.div_lt_iff_lt_mul hV]
  have hp : 0 < 2 ^ (64 * n) := Nat.pow_pos (by omega)
  have h1 : V / 2 ^ (64 * n) = V / 2 ^ (64 * (n + 1)) * 2 ^ 64 + lmN V n := div_succ V n
  have h2 : X / 2 ^ (64 * n) = X / 2 ^ (64 * (n + 1)) * 2 ^ 64 + lmN X n := div_succ X n
  have h3 : X / 2 ^ (64 * n) < g * (V / 2 ^ (64 * n)) := by
    rw [h1, h2, hs]
    generalize V / 2 ^ (64 * (n + 1)) = A
    generalize lmN V n = v at hgt ⊢
    generalize lmN X n = x at hgt ⊢
    clear h1 h2 hs hq hp
    generalize (2 : Nat) ^ 64 = B at hgt ⊢
    rw [Nat.mul_add g (A * B) v, Nat.add_mul (g * A) r B, ← Nat.mul_assoc g A B]; omega
  have h4 := Nat.div_mul_le_self V (2 ^ (64 * n))
  have h5 := Nat.lt_of_lt_of_le ((Nat.div_lt_iff_lt_mul hp).1 h3) (Nat.le_of_eq (Nat.mul_assoc g (V / 2 ^ (64 * n)) (2 ^ (64 * n))))
  exact Nat.lt_of_lt_of_le h5 (Nat.mul_le_mul_left g h4)
end Go.Proofs.Ytfidbiabgmioaaa
