import Derived.Test.YtmlaenfgfgloeaaNatP
import Derived.Test.YtmlaenfgfgloeaaTail
/-! conclaveref01.Power (as in WdN; for seats without words). -/
set_option maxRecDepth 4000
set_option linter.unusedVariables false
set_option linter.unusedSimpArgs false
namespace Go.Proofs.Ytmlaenfgfgloeaa
open Go.RowKit

theorem wrap64_mod (t : Int) : wrap64 t % 256 = t % 256 := by unfold wrap64; omega
theorem pow_digits (n : Nat) : (List.replicate (n / 8 + 1) 0).set (n / 8) (2 ^ (n % 8)) = dg (2 ^ n) := by
  have h8 : (2 : Nat) ^ (n % 8) < 256 := by
    have : (2 : Nat) ^ (n % 8) ≤ 2 ^ 7 := Nat.pow_le_pow_right (by omega) (by omega)
    omega
  have hp : 0 < (2 : Nat) ^ (n % 8) := Nat.pow_pos (by omega)
  have hD : Dig ((List.replicate (n / 8 + 1) 0).set (n / 8) (2 ^ (n % 8))) := (Dig.rep _).set _ _ h8
  have hn : num ((List.replicate (n / 8 + 1) 0).set (n / 8) (2 ^ (n % 8))) = 2 ^ n := by
    have := num_set (List.replicate (n / 8 + 1) 0) (n / 8) (2 ^ (n % 8)) (by simp)
    rw [num_rep] at this
    have e : nd (List.replicate (n / 8 + 1) 0) (n / 8) = 0 := by unfold nd; rw [List.getD_eq_getElem?_getD, List.getElem?_replicate]; split <;> rfl
    rw [e, Nat.mul_zero, Nat.zero_add] at this
    rw [Nat.add_zero] at this
    rw [this, show (256 : Nat) = 2 ^ 8 from rfl, ← Nat.pow_mul, ← Nat.pow_add]; congr 1; omega
  have := dg_num _ (n / 8 + 1) hD (by simp) (fun j h1 h2 => by simp at h2; omega) (.inr (by
    rw [Nat.add_sub_cancel, List.getD_eq_getElem?_getD, List.getElem?_set_self (by simp)]
    simp))
  rw [hn, List.take_of_length_le (by simp)] at this
  exact this

set_option maxRecDepth 100000 in
set_option maxHeartbeats 1000000 in
theorem power_any (n : Nat) (w : World) (hn : n ≤ 100000) : Calls Try.prog 45 #[.int .i64 n] w fun e w' => ∃ v', e = .returned v' ∧ RdN w' v' (2 ^ n) ∧ Below w.heap.size w w' := by
  have hmk := mkNat (n / 8 + 1) (by omega)
  have e1 : ((n / 8 + 1 : Nat) : Int) = (n : Int) / 8 + 1 := by omega
  rw [e1] at hmk
  have hA := ArrL.new w (List.replicate (n / 8 + 1) 0)
  have c1 := hA.cell (n / 8) (by simp)
  have f1 := hA.free (n / 8)
  have hs := hid (show (digV (List.replicate (n / 8 + 1) 0)).set (n / 8) (.int .i64 (2 ^ (n % 8))) = digV (dg (2 ^ n)) by
    rw [← pow_digits]
    unfold digV
    rw [List.map_set, Int.natCast_pow]; rfl)
  have hl := hid (show (dg (2 ^ n)).length = n / 8 + 1 by rw [← pow_digits]; simp)
  have hpw : (2 : Int) ^ (n % 8) < 256 := by
    have h7 : 2 ^ (n % 8) ≤ 2 ^ 7 := Nat.pow_le_pow_right (by omega : 0 < 2) (by omega : n % 8 ≤ 7)
    have h9 : ((2 ^ (n % 8) : Nat) : Int) ≤ ((2 ^ 7 : Nat) : Int) := by exact_mod_cast h7
    rw [Int.natCast_pow, Int.natCast_pow] at h9
    exact Int.lt_of_le_of_lt h9 (by decide)
  have hpw0 : (0 : Int) ≤ (2 : Int) ^ (n % 8) := by
    have : (0 : Int) ≤ ((2 ^ (n % 8) : Nat) : Int) := Int.natCast_nonneg _
    rw [Int.natCast_pow] at this; exact this
  clear hA e1
  go_enter Try.func45, Try.ntmps45
  go_wp2
  go_ret
  rw [hs.out]
  refine ⟨_, rfl, ?_, (Below.refl _ _).alloc (Nat.le_refl _) _⟩
  have := (ArrL.new w (dg (2 ^ n))).rd (n / 8 + 1) (by rw [hl.out]; exact Nat.le_refl _)
  rw [hl.out] at this
  exact this

end Go.Proofs.Ytmlaenfgfgloeaa
