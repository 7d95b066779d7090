import Derived.Test.YtfidbiabgmioaaaDivC
import Derived.Test.YtfidbiabgmioaaaDivD
/-! word.divide by more limbs. -/
set_option maxRecDepth 4000
set_option linter.unusedVariables false
set_option linter.unusedSimpArgs false
namespace Go.Proofs.Ytfidbiabgmioaaa
open Go.RowKit

/-- A limb of a number shifted up by less than a limb. -/
theorem shl_limb0 (x s : Nat) : lmN (x * 2 ^ s) 0 = lmN x 0 * 2 ^ s % 2 ^ 64 := by
  unfold lmN
  rw [Nat.mul_zero, Nat.pow_zero, Nat.div_one, Nat.div_one, Nat.mod_mul_mod]
theorem shl_limb (x s i : Nat) (hs : s < 64) : lmN (x * 2 ^ s) (i + 1) = lmN x (i + 1) * 2 ^ s % 2 ^ 64 ||| lmN x i / 2 ^ (64 - s) := by
  have h := (lmN_shl x s (i + 1)).2.2 (by omega)
  rw [show s / 64 = 0 by omega, show s % 64 = s by omega, Nat.sub_zero, Nat.add_sub_cancel] at h
  by_cases h0 : s = 0
  · subst h0
    rw [h, if_pos rfl, Nat.pow_zero, Nat.mul_one, Nat.mod_eq_of_lt (lmN_lt _ _), Nat.div_eq_of_lt (lmN_lt _ _), Nat.or_zero]
  · rw [h, if_neg h0]
/-- A limb of a number shifted down by less than a limb. -/
theorem shr_limb (x s i : Nat) (hs : s < 64) : lmN (x / 2 ^ s) i = lmN x i / 2 ^ s ||| lmN x (i + 1) * 2 ^ (64 - s) % 2 ^ 64 := by
  by_cases h0 : s = 0
  · subst h0
    rw [Nat.pow_zero, Nat.div_one, Nat.div_one, Nat.sub_zero, Nat.mul_mod_left, Nat.or_zero]
  · have h := lmN_shr x s i (by omega)
    rw [show s / 64 = 0 by omega, show s % 64 = s by omega, Nat.add_zero] at h
    exact h
theorem or_shl (c u s : Nat) (hs : s < 64) (hc : c < 2 ^ s) : c ||| u * 2 ^ s % 2 ^ 64 = c + u * 2 ^ s % 2 ^ 64 := by
  have e : u * 2 ^ s % 2 ^ 64 = u % 2 ^ (64 - s) * 2 ^ s := by
    have h := shl_mod u (64 - s) (by omega)
    rw [show 64 - (64 - s) = s by omega] at h
    rw [h, Nat.mul_comm]
  rw [e, or_add _ _ _ hc]
/-- One limb more of what is shifted up. -/
theorem lift_step (U s i : Nat) (hs : s < 64) :
    lmN (U % 2 ^ (64 * i) * 2 ^ s) i < 2 ^ s ∧ lmN (U % 2 ^ (64 * i) * 2 ^ s) i + lmN U i * 2 ^ s % 2 ^ 64 < 2 ^ 64 ∧
    setL (setL (U % 2 ^ (64 * i) * 2 ^ s) i (lmN (U % 2 ^ (64 * i) * 2 ^ s) i + lmN U i * 2 ^ s % 2 ^ 64)) (i + 1) (lmN U i / 2 ^ (64 - s)) = U % 2 ^ (64 * (i + 1)) * 2 ^ s := by
  have hl := low_lt U i
  have hp : 0 < 2 ^ (64 * i) := Nat.pow_pos (by omega)
  have hps : 0 < 2 ^ s := Nat.pow_pos (by omega)
  have hs2 : 2 ^ s ≤ 2 ^ 63 := Nat.pow_le_pow_right (by omega) (by omega)
  have hX : U % 2 ^ (64 * i) * 2 ^ s < 2 ^ (64 * i) * 2 ^ s := Nat.mul_lt_mul_of_pos_right hl hps
  have hq : U % 2 ^ (64 * i) * 2 ^ s / 2 ^ (64 * i) < 2 ^ s := by rw [Nat.div_lt_iff_lt_mul hp, Nat.mul_comm (2 ^ s)]; exact hX
  have hc : lmN (U % 2 ^ (64 * i) * 2 ^ s) i < 2 ^ s := Nat.lt_of_le_of_lt (Nat.mod_le _ _) hq
  have hsum := or_shl (lmN (U % 2 ^ (64 * i) * 2 ^ s) i) (lmN U i) s hs hc
  have hlt : lmN (U % 2 ^ (64 * i) * 2 ^ s) i + lmN U i * 2 ^ s % 2 ^ 64 < 2 ^ 64 := by
    rw [← hsum]
    exact Nat.or_lt_two_pow (Nat.lt_trans hc (Nat.lt_of_le_of_lt hs2 (by decide))) (Nat.mod_lt _ (by decide))
  refine ⟨hc, hlt, ?_⟩
  have h1 := setL_eq (U % 2 ^ (64 * i) * 2 ^ s) i (lmN (U % 2 ^ (64 * i) * 2 ^ s) i + lmN U i * 2 ^ s % 2 ^ 64)
  have h2 := setL_eq (setL (U % 2 ^ (64 * i) * 2 ^ s) i (lmN (U % 2 ^ (64 * i) * 2 ^ s) i + lmN U i * 2 ^ s % 2 ^ 64)) (i + 1) (lmN U i / 2 ^ (64 - s))
  have h3 : lmN (setL (U % 2 ^ (64 * i) * 2 ^ s) i (lmN (U % 2 ^ (64 * i) * 2 ^ s) i + lmN U i * 2 ^ s % 2 ^ 64)) (i + 1) = 0 := by
    rw [lmN_setL _ _ _ _ hlt, if_neg (by omega)]
    apply lmN_hi
    rw [pow64_succ]
    exact Nat.lt_of_lt_of_le hX (Nat.mul_le_mul_left _ (Nat.le_trans hs2 (by decide)))
  rw [h3, Nat.mul_zero, Nat.add_zero] at h2
  rw [h2, low_succ, Nat.add_mul, Nat.mul_assoc]
  have e1 : lmN U i * 2 ^ s / 2 ^ 64 = lmN U i / 2 ^ (64 - s) := by
    rw [show (2 : Nat) ^ 64 = 2 ^ (64 - s) * 2 ^ s by rw [← Nat.pow_add]; congr 1; omega, Nat.mul_div_mul_right _ _ hps]
  have e2 := Nat.div_add_mod (lmN U i * 2 ^ s) (2 ^ 64)
  rw [e1] at e2
  have e3 : 2 ^ (64 * i) * (lmN U i * 2 ^ s) = 2 ^ (64 * i) * (2 ^ 64 * (lmN U i / 2 ^ (64 - s))) + 2 ^ (64 * i) * (lmN U i * 2 ^ s % 2 ^ 64) := by rw [← Nat.mul_add, e2]
  rw [e3, pow64_succ]
  rw [Nat.mul_add] at h1
  rw [Nat.mul_assoc (2 ^ (64 * i)) (2 ^ 64)]
  omega
/-- One limb more of the quotient. -/
theorem long_step (Z Z' V k q n : Nat) (hV : 0 < V) (hVn : V < 2 ^ (64 * n)) (hZ : Z < V * 2 ^ (64 * (k + 1))) (hw : win Z k (n + 1) = Z / 2 ^ (64 * k)) (hq : q = Z / 2 ^ (64 * k) / V) (he : Z' + 2 ^ (64 * k) * (q * V) = Z) : Z' < V * 2 ^ (64 * k) := by
  have hp : 0 < 2 ^ (64 * k) := Nat.pow_pos (by omega)
  have h1 := Nat.div_add_mod (Z / 2 ^ (64 * k)) V
  have h2 := Nat.mod_lt (Z / 2 ^ (64 * k)) hV
  have h3 := Nat.div_add_mod Z (2 ^ (64 * k))
  have h4 := Nat.mod_lt Z hp
  rw [← hq] at h1
  have h5 : Z / 2 ^ (64 * k) + 1 ≤ V * q + V := by omega
  have h6 := Nat.mul_le_mul_left (2 ^ (64 * k)) h5
  rw [Nat.mul_add, Nat.mul_add, Nat.mul_one, Nat.mul_comm V q] at h6
  rw [Nat.mul_comm V]
  omega
theorem long_win (Z V k n : Nat) (hVn : V < 2 ^ (64 * n)) (hZ : Z < V * 2 ^ (64 * (k + 1))) : win Z k (n + 1) = Z / 2 ^ (64 * k) ∧ win Z k (n + 1) < V * 2 ^ 64 := by
  have hp : 0 < 2 ^ (64 * k) := Nat.pow_pos (by omega)
  have h1 : Z / 2 ^ (64 * k) < V * 2 ^ 64 := by
    rw [Nat.div_lt_iff_lt_mul hp, Nat.mul_assoc, Nat.mul_comm (2 ^ 64), ← pow64_succ]; exact hZ
  have h2 : V * 2 ^ 64 ≤ 2 ^ (64 * (n + 1)) := by rw [pow64_succ]; exact Nat.mul_le_mul_right _ (Nat.le_of_lt hVn)
  have h3 : win Z k (n + 1) = Z / 2 ^ (64 * k) := Nat.mod_eq_of_lt (Nat.lt_of_lt_of_le h1 h2)
  exact ⟨h3, by rw [h3]; exact h1⟩
/-- A limb put below. -/
theorem setL_below (Q k v : Nat) (h : Q % 2 ^ (64 * (k + 1)) = 0) : setL Q k v = Q + 2 ^ (64 * k) * v ∧ (Q + 2 ^ (64 * k) * v) % 2 ^ (64 * k) = 0 := by
  have h0 : lmN Q k = 0 := by
    have := low_succ Q k
    rw [h] at this
    have hp : 0 < 2 ^ (64 * k) := Nat.pow_pos (by omega)
    rcases Nat.eq_zero_or_pos (lmN Q k) with h1 | h1
    · exact h1
    · have : 0 < 2 ^ (64 * k) * lmN Q k := Nat.mul_pos hp h1
      omega
  have h1 := setL_eq Q k v
  rw [h0, Nat.mul_zero, Nat.add_zero] at h1
  refine ⟨h1, ?_⟩
  rw [Nat.add_mul_mod_self_left]
  have h2 := low_succ Q k
  rw [h, h0, Nat.mul_zero, Nat.add_zero] at h2
  exact h2.symm
theorem top_limb (d : Nat) (h : 2 ^ 64 ≤ d) (h2 : d < 2 ^ 256) : ∃ m, m ≤ 2 ∧ (bl d + 63) / 64 = m + 2 ∧ d < 2 ^ (64 * (m + 2)) ∧ 0 < lmN d (m + 1) ∧ 64 * (m + 1) + bl (lmN d (m + 1)) = bl d := by
  have hs := bl_spec d (by have : 0 < 2 ^ 64 := by decide
                           omega)
  have hb := bl_le d 256 h2
  have h65 : 65 ≤ bl d := by
    rcases Nat.lt_or_ge (bl d) 65 with h3 | h3
    · have : 2 ^ bl d ≤ 2 ^ 64 := Nat.pow_le_pow_right (by omega) (by omega)
      omega
    · exact h3
  obtain ⟨m, hm⟩ : ∃ m, (bl d + 63) / 64 = m + 2 := ⟨(bl d + 63) / 64 - 2, by omega⟩
  have hd : d < 2 ^ (64 * (m + 2)) := Nat.lt_of_lt_of_le hs.2.2 (Nat.pow_le_pow_right (by omega) (by omega))
  have hn : lmN d (m + 1) ≠ 0 := by
    unfold lmN
    have hp : 0 < 2 ^ (64 * (m + 1)) := Nat.pow_pos (by omega)
    rw [show m + 2 = (m + 1) + 1 from rfl, pow64_succ, Nat.mul_comm] at hd
    rw [Nat.mod_eq_of_lt ((Nat.div_lt_iff_lt_mul hp).2 hd)]
    have : 2 ^ (64 * (m + 1)) ≤ d := Nat.le_trans (Nat.pow_le_pow_right (by omega) (by omega)) hs.2.1
    have := Nat.div_pos this hp
    omega
  exact ⟨m, by omega, hm, hd, Nat.pos_of_ne_zero hn, bl_top d (m + 1) hd hn⟩
end Go.Proofs.Ytfidbiabgmioaaa
