import Derived.Test.YtfidbiabgmioaaaLimb
/-! math/bits.Div64: the plain law. -/
set_option maxRecDepth 4000
set_option linter.unusedVariables false
set_option linter.unusedSimpArgs false
namespace Go.Proofs.Ytfidbiabgmioaaa
open Go.RowKit

/-- What is known of a guess at one half of a quotient: u is what stands above, z the half below; B: 2^32. -/
structure Gs (B y1 y0 u z q r : Nat) : Prop where
  sum : u = q * y1 + r
  big : (u * B + z) / (y1 * B + y0) ≤ q
theorem Gs.start {B y1 y0 u z : Nat} (hz : z < B) (h1 : 0 < y1) : Gs B y1 y0 u z (u / y1) (u - u / y1 * y1) := by
  have h := Nat.div_add_mod u y1
  refine ⟨by rw [Nat.mul_comm] at h; omega, ?_⟩
  rw [Nat.le_div_iff_mul_le h1]
  have h2 := Nat.div_mul_le_self (u * B + z) (y1 * B + y0)
  generalize (u * B + z) / (y1 * B + y0) = q at h2 ⊢
  rw [Nat.mul_add q (y1 * B) y0, ← Nat.mul_assoc q y1 B] at h2
  have h3 : q * y1 * B < (u + 1) * B := by rw [Nat.add_mul, Nat.one_mul]; omega
  exact Nat.le_of_lt_succ (Nat.lt_of_mul_lt_mul_right h3)
/-- The guess is right. -/
theorem Gs.right {B y1 y0 u z q r : Nat} (h : Gs B y1 y0 u z q r) (hp : 0 < y1 * B + y0) (hle : q * y0 ≤ r * B + z) : q = (u * B + z) / (y1 * B + y0) := by
  refine Nat.le_antisymm ?_ h.big
  rw [Nat.le_div_iff_mul_le hp, h.sum, Nat.mul_add q (y1 * B) y0, ← Nat.mul_assoc q y1 B, Nat.add_mul (q * y1) r B]
  omega
/-- The guess is too big. -/
theorem Gs.more {B y1 y0 u z q r : Nat} (h : Gs B y1 y0 u z q r) (hz : z < B) (hu : u < y1 * B + y0) (hgt : B ≤ q ∨ r * B + z < q * y0) : (u * B + z) / (y1 * B + y0) < q := by
  have hp : 0 < y1 * B + y0 := by omega
  rw [Nat.div_lt_iff_lt_mul hp]
  rcases hgt with hq | hq
  · refine Nat.lt_of_lt_of_le ?_ (Nat.mul_le_mul_right (y1 * B + y0) hq)
    have h2 : (u + 1) * B ≤ (y1 * B + y0) * B := Nat.mul_le_mul_right B hu
    rw [Nat.add_mul u 1 B, Nat.one_mul] at h2
    rw [Nat.mul_comm B]
    omega
  · rw [h.sum, Nat.mul_add q (y1 * B) y0, ← Nat.mul_assoc q y1 B, Nat.add_mul (q * y1) r B]
    omega
theorem Gs.next {B y1 y0 u z q r : Nat} (h : Gs B y1 y0 u z q r) (hm : (u * B + z) / (y1 * B + y0) < q) : Gs B y1 y0 u z (q - 1) (r + y1) := by
  refine ⟨?_, Nat.le_sub_one_of_lt hm⟩
  have hs := h.sum
  obtain ⟨p, rfl⟩ : ∃ p, q = p + 1 := ⟨q - 1, (Nat.succ_pred_eq_of_pos (Nat.lt_of_le_of_lt (Nat.zero_le _) hm)).symm⟩
  rw [Nat.add_mul p 1 y1, Nat.one_mul] at hs
  rw [Nat.add_sub_cancel]
  clear hm h
  omega
/-- No more steps. -/
theorem Gs.last {B y1 y0 u z q r : Nat} (h : Gs B y1 y0 u z q r) (h0 : y0 < B) (hu : u < y1 * B + y0) (hr : B ≤ r) : q < B ∧ q * y0 ≤ r * B + z := by
  have hq : q < B := by
    rcases Nat.lt_or_ge q B with h3 | h3
    · exact h3
    · have h4 : B * y1 ≤ q * y1 := Nat.mul_le_mul_right _ h3
      have := h.sum
      rw [Nat.mul_comm B] at h4
      omega
  refine ⟨hq, ?_⟩
  have h5 : q * y0 ≤ B * B := Nat.mul_le_mul (Nat.le_of_lt hq) (Nat.le_of_lt h0)
  have h6 : B * B ≤ r * B := Nat.mul_le_mul_right _ hr
  omega
theorem Gs.small {B y1 y0 u z : Nat} (hu : u < y1 * B + y0) (hz : z < B) : (u * B + z) / (y1 * B + y0) < B := by
  have hp : 0 < y1 * B + y0 := by omega
  rw [Nat.div_lt_iff_lt_mul hp]
  have h2 : (u + 1) * B ≤ (y1 * B + y0) * B := Nat.mul_le_mul_right B hu
  rw [Nat.add_mul u 1 B, Nat.one_mul] at h2
  rw [Nat.mul_comm B]
  omega
/-- Both halves. -/
theorem div_halves (B U z1 z0 Y : Nat) (hY : 0 < Y) :
    (U * (B * B) + z1 * B + z0) / Y = (U * B + z1) / Y * B + ((U * B + z1) % Y * B + z0) / Y ∧
    (U * (B * B) + z1 * B + z0) % Y = ((U * B + z1) % Y * B + z0) % Y := by
  have h := Nat.div_add_mod (U * B + z1) Y
  generalize (U * B + z1) / Y = q1 at h ⊢
  generalize (U * B + z1) % Y = r1 at h ⊢
  have e : U * (B * B) + z1 * B + z0 = r1 * B + z0 + Y * (q1 * B) := by
    have e2 : (U * B + z1) * B = (Y * q1 + r1) * B := by rw [h]
    rw [Nat.add_mul, Nat.add_mul, Nat.mul_assoc U, Nat.mul_assoc Y q1] at e2
    omega
  rw [e, Nat.add_mul_div_left _ _ hY, Nat.add_mul_mod_self_left]
  exact ⟨Nat.add_comm _ _, rfl⟩
/-- Shifted both. -/
theorem div_shift (N Y s : Nat) : N * 2 ^ s / (Y * 2 ^ s) = N / Y ∧ N * 2 ^ s % (Y * 2 ^ s) / 2 ^ s = N % Y := by
  have hp : 0 < 2 ^ s := Nat.pow_pos (by omega)
  rw [Nat.mul_div_mul_right _ _ hp, Nat.mul_mod_mul_right, Nat.mul_div_cancel _ hp]
  exact ⟨rfl, rfl⟩
end Go.Proofs.Ytfidbiabgmioaaa
