import Derived.Test.YtmlaenfgfgloeaaBits
/-! math/bits.RotateLeft64. -/
set_option linter.unusedVariables false
set_option linter.unusedSimpArgs false
namespace Go.Proofs.Ytmlaenfgfgloeaa
open Go.RowKit

theorem rot_any (x : BitVec 64) (k : Int) (w : World) :
    Calls Try.prog 30 #[.int .u64 (iv x), .int .i64 k] w fun e w' => e = .returned (.int .u64 (iv (x.rotateLeft (k % 64).toNat))) ∧ Below w.heap.size w w' := by
  have hm := mask63 k
  obtain ⟨n, hn⟩ : ∃ n : Nat, (n : Int) = k % 64 := ⟨(k % 64).toNat, by omega⟩
  rw [← hn] at hm ⊢
  have hn64 : n < 64 := by omega
  clear hn
  have h0 := iv_nonneg x
  have HR := hid (rot_spell x n hn64)
  rw [Int.toNat_natCast]
  go_enter Try.func30, Try.ntmps30
  go_wp2
  go_ret
  exact ⟨ret_int HR.out, Below.refl _ _⟩
end Go.Proofs.Ytmlaenfgfgloeaa
