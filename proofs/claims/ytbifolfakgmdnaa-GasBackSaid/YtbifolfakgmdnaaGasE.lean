import Derived.Test.YtbifolfakgmdnaaGasD
/-! Logs, creations; what is handed on. -/
namespace Go.Proofs.Ytbifolfakgmdnaa
open Go.RowKit
set_option linter.unusedVariables false
set_option linter.unusedSimpArgs false

def logV (t n : Int) : Int := if 4294967296 < n then great else 375 + 375 * (if t < 0 then 0 else if 4 < t then 4 else t) + 8 * n
theorem log_any (t n : Int) (w : World) (h0 : 0 ≤ n) (ht0 : -9223372036854775808 ≤ t) (ht : t ≤ 9223372036854775807) :
    Calls Try.prog 20 #[.int .i64 t, .int .u64 n] w fun e w' => e = .returned (.int .u64 (logV t n)) ∧ Below w.heap.size w w' := by
  by_cases c : 4294967296 < n
  · go_enter Try.func20, Try.ntmps20
    go_wp2
    go_ret
    exact ⟨ret_int (by unfold logV; rw [if_pos (by omega)]; rfl), (by repeat (first | (with_reducible first | exact Below.refl _ _ | assumption | refine World.ext_below_of ?_ ?_ _ | refine Below.setCell ?_ ?_ _ | refine Below.alloc ?_ ?_ _ | refine Below.drew ?_ | refine World.size_le_ext _ _ _ ?_) | (solve | simp [go_sem] | (simp [go_sem]; omega) | omega)))⟩
  · rcases (by omega : t < 0 ∨ (0 ≤ t ∧ t ≤ 4) ∨ 4 < t) with ht' | ht' | ht'
    · go_enter Try.func20, Try.ntmps20
      go_wp2
      go_ret
      exact ⟨ret_int (by unfold logV; rw [if_neg (by omega), if_pos (by omega)]; omega), (by repeat (first | (with_reducible first | exact Below.refl _ _ | assumption | refine World.ext_below_of ?_ ?_ _ | refine Below.setCell ?_ ?_ _ | refine Below.alloc ?_ ?_ _ | refine Below.drew ?_ | refine World.size_le_ext _ _ _ ?_) | (solve | simp [go_sem] | (simp [go_sem]; omega) | omega)))⟩
    · go_enter Try.func20, Try.ntmps20
      go_wp2
      go_ret
      exact ⟨ret_int (by unfold logV; rw [if_neg (by omega), if_neg (by omega), if_neg (by omega)]; omega), (by repeat (first | (with_reducible first | exact Below.refl _ _ | assumption | refine World.ext_below_of ?_ ?_ _ | refine Below.setCell ?_ ?_ _ | refine Below.alloc ?_ ?_ _ | refine Below.drew ?_ | refine World.size_le_ext _ _ _ ?_) | (solve | simp [go_sem] | (simp [go_sem]; omega) | omega)))⟩
    · go_enter Try.func20, Try.ntmps20
      go_wp2
      go_ret
      exact ⟨ret_int (by unfold logV; rw [if_neg (by omega), if_neg (by omega), if_pos (by omega)]; omega), (by repeat (first | (with_reducible first | exact Below.refl _ _ | assumption | refine World.ext_below_of ?_ ?_ _ | refine Below.setCell ?_ ?_ _ | refine Below.alloc ?_ ?_ _ | refine Below.drew ?_ | refine World.size_le_ext _ _ _ ?_) | (solve | simp [go_sem] | (simp [go_sem]; omega) | omega)))⟩
theorem refLog_any (t n : Int) (w : World) (h0 : 0 ≤ n) (ht0 : -9223372036854775808 ≤ t) (ht : t ≤ 9223372036854775807) :
    Calls Try.prog 21 #[.int .i64 t, .int .u64 n] w fun e w' => e = .returned (.int .u64 (logV t n)) ∧ Below w.heap.size w w' := by
  by_cases c : 4294967296 < n <;> rcases (by omega : t < 0 ∨ (0 ≤ t ∧ t ≤ 4) ∨ 4 < t) with ht' | ht' | ht'
  all_goals
    go_enter Try.func21, Try.ntmps21
    go_wp2
    go_ret
    exact ⟨ret_int (by unfold logV great; (repeat' split) <;> omega), (by repeat (first | (with_reducible first | exact Below.refl _ _ | assumption | refine World.ext_below_of ?_ ?_ _ | refine Below.setCell ?_ ?_ _ | refine Below.alloc ?_ ?_ _ | refine Below.drew ?_ | refine World.size_le_ext _ _ _ ?_) | (solve | simp [go_sem] | (simp [go_sem]; omega) | omega)))⟩

theorem create_any (n : Int) (hashed : Bool) (w : World) (h0 : 0 ≤ n) :
    Calls Try.prog 22 #[.int .u64 n, .bool hashed] w fun e w' => e = .returned (.int .u64 (perV n 32000 (if hashed then 8 else 2))) ∧ Below w.heap.size w w' := by
  cases hashed
  · go_enter Try.func22, Try.ntmps22
    go_wp2_with (go_at_call 39; (with_reducible refine (Calls.asExt (per_any n 32000 2 _ h0 (by omega) (by omega) (by omega) (by omega))).mono ?_); rintro _ _ ⟨rfl, _, rfl⟩)
    go_ret
    exact ⟨rfl, (by repeat (first | (with_reducible first | exact Below.refl _ _ | assumption | refine World.ext_below_of ?_ ?_ _ | refine Below.setCell ?_ ?_ _ | refine Below.alloc ?_ ?_ _ | refine Below.drew ?_ | refine World.size_le_ext _ _ _ ?_) | (solve | simp [go_sem] | (simp [go_sem]; omega) | omega)))⟩
  · go_enter Try.func22, Try.ntmps22
    go_wp2_with (go_at_call 39; (with_reducible refine (Calls.asExt (per_any n 32000 8 _ h0 (by omega) (by omega) (by omega) (by omega))).mono ?_); rintro _ _ ⟨rfl, _, rfl⟩)
    go_ret
    exact ⟨rfl, (by repeat (first | (with_reducible first | exact Below.refl _ _ | assumption | refine World.ext_below_of ?_ ?_ _ | refine Below.setCell ?_ ?_ _ | refine Below.alloc ?_ ?_ _ | refine Below.drew ?_ | refine World.size_le_ext _ _ _ ?_) | (solve | simp [go_sem] | (simp [go_sem]; omega) | omega)))⟩
theorem refCreate_any (n : Int) (hashed : Bool) (w : World) (h0 : 0 ≤ n) :
    Calls Try.prog 23 #[.int .u64 n, .bool hashed] w fun e w' => e = .returned (.int .u64 (perV n 32000 (if hashed then 8 else 2))) ∧ Below w.heap.size w w' := by
  cases hashed
  · go_enter Try.func23, Try.ntmps23
    go_wp2_with (go_at_call 40; (with_reducible refine (Calls.asExt (sized_any n 32000 2 _ h0 (by omega) (by omega) (by omega) (by omega))).mono ?_); rintro _ _ ⟨rfl, _, rfl⟩)
    go_ret
    exact ⟨rfl, (by repeat (first | (with_reducible first | exact Below.refl _ _ | assumption | refine World.ext_below_of ?_ ?_ _ | refine Below.setCell ?_ ?_ _ | refine Below.alloc ?_ ?_ _ | refine Below.drew ?_ | refine World.size_le_ext _ _ _ ?_) | (solve | simp [go_sem] | (simp [go_sem]; omega) | omega)))⟩
  · go_enter Try.func23, Try.ntmps23
    go_wp2_with (go_at_call 40; (with_reducible refine (Calls.asExt (sized_any n 32000 8 _ h0 (by omega) (by omega) (by omega) (by omega))).mono ?_); rintro _ _ ⟨rfl, _, rfl⟩)
    go_ret
    exact ⟨rfl, (by repeat (first | (with_reducible first | exact Below.refl _ _ | assumption | refine World.ext_below_of ?_ ?_ _ | refine Below.setCell ?_ ?_ _ | refine Below.alloc ?_ ?_ _ | refine Below.drew ?_ | refine World.size_le_ext _ _ _ ?_) | (solve | simp [go_sem] | (simp [go_sem]; omega) | omega)))⟩

theorem uint_any (a b c d : Int) (w : World) :
    Calls Try.prog 41 #[.agg #[.int .u64 a, .int .u64 b, .int .u64 c, .int .u64 d]] w fun e w' => e = .returned (.tuple #[.int .u64 (if weq [a, b, c, d] [a, 0, 0, 0] then a else 0), .bool (weq [a, b, c, d] [a, 0, 0, 0])]) ∧ Below w.heap.size w w' := by
  have he := eqW
  go_enter Try.func41, Try.ntmps41
  go_wp2
  all_goals
    go_ret2
    exact ⟨by simp_all, (by repeat (first | (with_reducible first | exact Below.refl _ _ | assumption | refine World.ext_below_of ?_ ?_ _ | refine Below.setCell ?_ ?_ _ | refine Below.alloc ?_ ?_ _ | refine Below.drew ?_ | refine World.size_le_ext _ _ _ ?_) | (solve | simp [go_sem] | (simp [go_sem]; omega) | omega)))⟩

def fwdV (left a b c d : Int) : Int := if b = 0 ∧ c = 0 ∧ d = 0 ∧ a < left - left / 64 then a else left - left / 64
theorem forward_any (left a b c d : Int) (w : World) (h0 : 0 ≤ left) (h1 : left ≤ 18446744073709551615) (ha : 0 ≤ a) :
    Calls Try.prog 24 #[.int .u64 left, .agg #[.int .u64 a, .int .u64 b, .int .u64 c, .int .u64 d]] w fun e w' => e = .returned (.int .u64 (fwdV left a b c d)) ∧ Below w.heap.size w w' := by
  by_cases hz : b = 0 ∧ c = 0 ∧ d = 0
  · have hw : weq [a, b, c, d] [a, 0, 0, 0] = true := by simp [weq, hz]
    have hu := fun w => uint_any a b c d w
    rw [hw] at hu
    simp only [if_true] at hu
    obtain ⟨rfl, rfl, rfl⟩ := hz
    by_cases hlt : a < left - left / 64
    all_goals
      go_enter Try.func24, Try.ntmps24
      go_wp2_with (go_at_call 41; (with_reducible refine (Calls.asExt (hu _)).mono ?_); rintro _ _ ⟨rfl, _, rfl⟩)
      all_goals
        go_ret
        exact ⟨ret_int (by unfold fwdV; (repeat' split) <;> omega), (by repeat (first | (with_reducible first | exact Below.refl _ _ | assumption | refine World.ext_below_of ?_ ?_ _ | refine Below.setCell ?_ ?_ _ | refine Below.alloc ?_ ?_ _ | refine Below.drew ?_ | refine World.size_le_ext _ _ _ ?_) | (solve | simp [go_sem] | (simp [go_sem]; omega) | omega)))⟩
  · have hw : weq [a, b, c, d] [a, 0, 0, 0] = false := by simp [weq]; omega
    have hu := fun w => uint_any a b c d w
    rw [hw] at hu
    simp only [Bool.false_eq_true, if_false] at hu
    have HZ := hid hz
    clear hz
    go_enter Try.func24, Try.ntmps24
    go_wp2_with (go_at_call 41; (with_reducible refine (Calls.asExt (hu _)).mono ?_); rintro _ _ ⟨rfl, _, rfl⟩)
    go_ret
    exact ⟨ret_int (by have hz := HZ.out; unfold fwdV; rw [if_neg (by omega)]), (by repeat (first | (with_reducible first | exact Below.refl _ _ | assumption | refine World.ext_below_of ?_ ?_ _ | refine Below.setCell ?_ ?_ _ | refine Below.alloc ?_ ?_ _ | refine Below.drew ?_ | refine World.size_le_ext _ _ _ ?_) | (solve | simp [go_sem] | (simp [go_sem]; omega) | omega)))⟩

theorem nat_or_zero (a b : Nat) : (a ||| b = 0) ↔ a = 0 ∧ b = 0 := by
  constructor
  · intro h
    have h1 : a ≤ a ||| b := Nat.left_le_or
    have h2 : b ≤ a ||| b := Nat.right_le_or
    omega
  · rintro ⟨rfl, rfl⟩; rfl
theorem or3_zero (b c d : Int) (hb : 0 ≤ b ∧ b ≤ 18446744073709551615) (hc : 0 ≤ c ∧ c ≤ 18446744073709551615) (hd : 0 ≤ d ∧ d ≤ 18446744073709551615) :
    bits BinOp.or IntKind.u64 (bits BinOp.or IntKind.u64 b c) d = 0 ↔ b = 0 ∧ c = 0 ∧ d = 0 := by
  obtain ⟨b, rfl⟩ := Int.eq_ofNat_of_zero_le hb.1
  obtain ⟨c, rfl⟩ := Int.eq_ofNat_of_zero_le hc.1
  obtain ⟨d, rfl⟩ := Int.eq_ofNat_of_zero_le hd.1
  have l1 : b < 18446744073709551616 := by omega
  have l2 : c < 18446744073709551616 := by omega
  have l3 : d < 18446744073709551616 := by omega
  rw [u64_or_nat b c l1 l2, u64_or_nat (b ||| c) d (Nat.or_lt_two_pow (n := 64) l1 l2) l3]
  have e1 := nat_or_zero (b ||| c) d
  have e2 := nat_or_zero b c
  constructor
  · intro h
    have h' : (b ||| c) ||| d = 0 := by exact_mod_cast h
    rw [e1, e2] at h'
    omega
  · rintro ⟨h1, h2, h3⟩
    have : (b ||| c) ||| d = 0 := by rw [e1, e2]; omega
    exact_mod_cast this

theorem refForward_any (left a b c d : Int) (w : World) (h0 : 0 ≤ left) (h1 : left ≤ 18446744073709551615) (ha : 0 ≤ a) (hb : 0 ≤ b ∧ b ≤ 18446744073709551615) (hc : 0 ≤ c ∧ c ≤ 18446744073709551615) (hd : 0 ≤ d ∧ d ≤ 18446744073709551615) :
    Calls Try.prog 25 #[.int .u64 left, .agg #[.int .u64 a, .int .u64 b, .int .u64 c, .int .u64 d]] w fun e w' => e = .returned (.int .u64 (fwdV left a b c d)) ∧ Below w.heap.size w w' := by
  have HO := hid (or3_zero b c d hb hc hd)
  clear hb hc hd
  go_enter Try.func25, Try.ntmps25
  go_wp2
  all_goals
    go_ret
    exact ⟨ret_int (by have ho := HO.out; unfold fwdV; simp_all; try omega), (by repeat (first | (with_reducible first | exact Below.refl _ _ | assumption | refine World.ext_below_of ?_ ?_ _ | refine Below.setCell ?_ ?_ _ | refine Below.alloc ?_ ?_ _ | refine Below.drew ?_ | refine World.size_le_ext _ _ _ ?_) | (solve | simp [go_sem] | (simp [go_sem]; omega) | omega)))⟩

def refundV (used sum : Int) : Int := if sum ≤ 0 then 0 else if used / 5 < sum then used / 5 else sum
theorem refund_any (used sum : Int) (w : World) (h0 : 0 ≤ used) (h1 : used ≤ 18446744073709551615) (hs0 : -9223372036854775808 ≤ sum) (hs : sum ≤ 9223372036854775807) :
    Calls Try.prog 26 #[.int .u64 used, .int .i64 sum] w fun e w' => e = .returned (.int .u64 (refundV used sum)) ∧ Below w.heap.size w w' := by
  rcases (by omega : sum ≤ 0 ∨ 0 < sum) with hs' | hs'
  all_goals
    go_enter Try.func26, Try.ntmps26
    go_wp2
    all_goals
      go_ret
      exact ⟨ret_int (by unfold refundV; (repeat' split) <;> omega), (by repeat (first | (with_reducible first | exact Below.refl _ _ | assumption | refine World.ext_below_of ?_ ?_ _ | refine Below.setCell ?_ ?_ _ | refine Below.alloc ?_ ?_ _ | refine Below.drew ?_ | refine World.size_le_ext _ _ _ ?_) | (solve | simp [go_sem] | (simp [go_sem]; omega) | omega)))⟩
theorem refRefund_any (used sum : Int) (w : World) (h0 : 0 ≤ used) (h1 : used ≤ 18446744073709551615) (hs0 : -9223372036854775808 ≤ sum) (hs : sum ≤ 9223372036854775807) :
    Calls Try.prog 27 #[.int .u64 used, .int .i64 sum] w fun e w' => e = .returned (.int .u64 (refundV used sum)) ∧ Below w.heap.size w w' := by
  rcases (by omega : sum ≤ 0 ∨ (0 < sum ∧ used / 5 < sum) ∨ (0 < sum ∧ sum ≤ used / 5)) with hs' | hs' | hs'
  all_goals
    go_enter Try.func27, Try.ntmps27
    go_wp2
    all_goals
      go_ret
      exact ⟨ret_int (by unfold refundV; (repeat' split) <;> omega), (by repeat (first | (with_reducible first | exact Below.refl _ _ | assumption | refine World.ext_below_of ?_ ?_ _ | refine Below.setCell ?_ ?_ _ | refine Below.alloc ?_ ?_ _ | refine Below.drew ?_ | refine World.size_le_ext _ _ _ ?_) | (solve | simp [go_sem] | (simp [go_sem]; omega) | omega)))⟩
end Go.Proofs.Ytbifolfakgmdnaa
