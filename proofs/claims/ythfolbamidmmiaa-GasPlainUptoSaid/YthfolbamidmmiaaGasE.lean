import Derived.Test.YthfolbamidmmiaaGasD
/-! Logs, creations; what is handed on. -/
set_option maxRecDepth 4000
set_option linter.unusedVariables false
set_option linter.unusedSimpArgs false
namespace Go.Proofs.Ythfolbamidmmiaa
open Go.RowKit

def logV (t n : Int) : Int := if 4294967296 < n then great else 375 + 375 * (if t < 0 then 0 else if 4 < t then 4 else t) + 8 * n
theorem uint_any (a b c d : Int) (w : World) :
    Calls Try.prog 38 #[.agg #[.int .u64 a, .int .u64 b, .int .u64 c, .int .u64 d]] w fun e w' => e = .returned (.tuple #[.int .u64 (if weq [a, b, c, d] [a, 0, 0, 0] then a else 0), .bool (weq [a, b, c, d] [a, 0, 0, 0])]) ∧ Below w.heap.size w w' := by
  have he := eqW
  go_enter Try.func38, Try.ntmps38
  go_wp2
  all_goals
    go_ret2
    exact ⟨by simp_all, (by repeat (first | (with_reducible first | exact Below.refl _ _ | assumption | refine World.ext_below_of ?_ ?_ _ | refine Below.setCell ?_ ?_ _ | refine Below.alloc ?_ ?_ _ | refine Below.drew ?_ | refine World.size_le_ext _ _ _ ?_) | (solve | simp [go_sem] | (simp [go_sem]; omega) | omega)))⟩

def fwdV (left a b c d : Int) : Int := if b = 0 ∧ c = 0 ∧ d = 0 ∧ a < left - left / 64 then a else left - left / 64
theorem nat_or_zero (a b : Nat) : (a ||| b = 0) ↔ a = 0 ∧ b = 0 := by
  constructor
  · intro h
    have h1 : a ≤ a ||| b := Nat.left_le_or
    have h2 : b ≤ a ||| b := Nat.right_le_or
    omega
  · rintro ⟨rfl, rfl⟩; rfl
theorem or3_zero (b c d : Int) (hb : 0 ≤ b ∧ b ≤ 18446744073709551615) (hc : 0 ≤ c ∧ c ≤ 18446744073709551615) (hd : 0 ≤ d ∧ d ≤ 18446744073709551615) :
    bits BinOp.or IntKind.u64 (bits BinOp.or IntKind.u64 b c) d = 0 ↔ b = 0 ∧ c = 0 ∧ d = 0 := by
  obtain ⟨b, rfl⟩ := Int.eq_ofNat_of_zero_le hb.1
  obtain ⟨c, rfl⟩ := Int.eq_ofNat_of_zero_le hc.1
  obtain ⟨d, rfl⟩ := Int.eq_ofNat_of_zero_le hd.1
  have l1 : b < 18446744073709551616 := by omega
  have l2 : c < 18446744073709551616 := by omega
  have l3 : d < 18446744073709551616 := by omega
  rw [u64_or_nat b c l1 l2, u64_or_nat (b ||| c) d (Nat.or_lt_two_pow (n := 64) l1 l2) l3]
  have e1 := nat_or_zero (b ||| c) d
  have e2 := nat_or_zero b c
  constructor
  · intro h
    have h' : (b ||| c) ||| d = 0 := by exact_mod_cast h
    rw [e1, e2] at h'
    omega
  · rintro ⟨h1, h2, h3⟩
    have : (b ||| c) ||| d = 0 := by rw [e1, e2]; omega
    exact_mod_cast this

def refundV (used sum : Int) : Int := if sum ≤ 0 then 0 else if used / 5 < sum then used / 5 else sum
end Go.Proofs.Ythfolbamidmmiaa
