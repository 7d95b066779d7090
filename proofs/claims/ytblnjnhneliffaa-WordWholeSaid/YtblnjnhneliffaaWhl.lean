import Derived.Test.YtblnjnhneliffaaDivI
import Derived.Test.YtblnjnhneliffaaWordI
import Derived.Test.YtblnjnhneliffaaRefC
/-! WordWhole: the plain law. -/
set_option linter.unusedVariables false
set_option linter.unusedSimpArgs false
namespace Go.Proofs.Ytblnjnhneliffaa
open Go.RowKit

theorem numY_short (x : Nat) : numY (shortW x) = x := by
  have h : dsY (shortW x) = dg x := by
    apply List.ext_getElem?
    intro i
    have hl : (dsY (shortW x)).length = wlen x := by rw [dsY_len]; unfold shortW; rw [be_len]
    by_cases hi : i < wlen x
    · unfold dsY
      rw [List.getElem?_reverse (by unfold shortW; rw [List.length_map, be_len]; exact hi), List.length_map]
      unfold shortW
      rw [be_len, List.getElem?_map, be_at _ _ _ (by omega)]
      have e := nd_dg x i
      unfold nd at e
      rw [List.getD_eq_getElem?_getD] at e
      have hi2 : i < (dg x).length := hi
      rw [List.getElem?_eq_getElem hi2] at e ⊢
      simp only [Option.getD_some] at e
      rw [e, show wlen x - 1 - (wlen x - 1 - i) = i by omega, Option.map_some]
      congr 1
    · rw [List.getElem?_eq_none (by omega), List.getElem?_eq_none (by unfold wlen at hi; omega)]
  unfold numY
  rw [h, num_dg]
theorem whole_pos (a b : Nat) (ha : a < 2 ^ 256) (h : b ≠ 0) : (a / b * b % 2 ^ 256 + modW a b) % 2 ^ 256 = a := by
  unfold modW
  rw [if_neg h, Nat.mod_eq_of_lt (Nat.lt_of_le_of_lt (Nat.div_mul_le_self a b) ha), Nat.mul_comm, Nat.div_add_mod, Nat.mod_eq_of_lt ha]
theorem whole_zero (a : Nat) : (a / 0 * 0 % 2 ^ 256 + modW a 0) % 2 ^ 256 = 0 := by
  unfold modW
  rw [if_pos rfl, Nat.mul_zero, Nat.zero_mod]
theorem swhole_zero (a : Nat) : (sdivW a 0 * 0 % 2 ^ 256 + smodW a 0) % 2 ^ 256 = 0 := by
  unfold smodW modW
  rw [sizeW_zero, if_pos rfl, signW_zero, Nat.mul_zero, Nat.zero_mod]
def MD (x y : Int) : Prop := x % (2 : Int) ^ 256 = y % (2 : Int) ^ 256
theorem MD.add {a b c d : Int} (h : MD a b) (g : MD c d) : MD (a + c) (b + d) := by
  unfold MD at *; rw [Int.add_emod, h, g, ← Int.add_emod]
theorem MD.mul {a b c d : Int} (h : MD a b) (g : MD c d) : MD (a * c) (b * d) := by
  unfold MD at *; rw [Int.mul_emod, h, g, ← Int.mul_emod]
def sgn (n : Bool) (x : Int) : Int := if n = true then -x else x
theorem subW_md (x : Nat) (h : x ≤ 2 ^ 256) : MD (subW 0 x) (-x) := by
  unfold MD subW
  rw [Nat.zero_add]
  omega
theorem signW_md (x : Nat) (n : Bool) (h : x < 2 ^ 256) : MD (signW x n) (sgn n x) := by
  cases n with
  | false => rfl
  | true => exact subW_md x (by omega)
theorem sizeW_md (x : Nat) (h : x < 2 ^ 256) : MD x (sgn (negW x) (sizeW x)) := by
  unfold sizeW sgn
  cases negW x with
  | false => rfl
  | true =>
    rw [if_pos rfl, if_pos rfl]
    unfold MD subW
    rw [Nat.zero_add]
    omega
theorem swhole_pos (a b : Nat) (ha : a < 2 ^ 256) (hb : b < 2 ^ 256) (h : b ≠ 0) : (sdivW a b * b % 2 ^ 256 + smodW a b) % 2 ^ 256 = a := by
  have hB := sizeW_pos hb h
  have hA := sizeW_lt a ha
  have e1 : MD (sdivW a b) (sgn (negW a != negW b) ((sizeW a / sizeW b : Nat) : Int)) := signW_md _ _ (Nat.lt_of_le_of_lt (Nat.div_le_self _ _) hA)
  have e2 : MD (smodW a b) (sgn (negW a) ((sizeW a % sizeW b : Nat) : Int)) := by
    have := signW_md (modW (sizeW a) (sizeW b)) (negW a) (modW_lt _ _ hA)
    unfold smodW
    rw [show modW (sizeW a) (sizeW b) = sizeW a % sizeW b by unfold modW; rw [if_neg (by omega)]] at this ⊢
    exact this
  have e3 := (e1.mul (sizeW_md b hb)).add e2
  have e4 := sizeW_md a ha
  have e5 : ((sizeW b : Nat) : Int) * ((sizeW a / sizeW b : Nat) : Int) + ((sizeW a % sizeW b : Nat) : Int) = ((sizeW a : Nat) : Int) := by
    have := Nat.div_add_mod (sizeW a) (sizeW b)
    exact_mod_cast this
  have e6 : sgn (negW a != negW b) ((sizeW a / sizeW b : Nat) : Int) * sgn (negW b) ((sizeW b : Nat) : Int) + sgn (negW a) ((sizeW a % sizeW b : Nat) : Int) = sgn (negW a) ((sizeW a : Nat) : Int) := by
    generalize ((sizeW a / sizeW b : Nat) : Int) = q at *
    generalize ((sizeW a % sizeW b : Nat) : Int) = r at *
    generalize ((sizeW a : Nat) : Int) = A at *
    generalize ((sizeW b : Nat) : Int) = B at *
    clear e1 e2 e3 e4
    subst e5
    cases negW a <;> cases negW b <;> simp [sgn, Int.mul_comm B q, Int.neg_mul, Int.mul_neg, Int.neg_add]
  rw [e6] at e3
  have e7 : MD (sdivW a b * b + smodW a b : Nat) a := by
    unfold MD at e3 e4 ⊢
    rw [← e4] at e3
    rw [← e3]
    congr 1
  rw [Nat.add_mod, Nat.mod_mod, ← Nat.add_mod]
  generalize sdivW a b * b + smodW a b = s at e7
  clear e1 e2 e3 e4 e5 e6 hA hB
  unfold MD at e7
  omega
theorem upT_small (n : Nat) (h : n < 256) : upT n 256 = n := by unfold upT; rw [if_pos h]
theorem powW_two (n : Nat) (h : n < 256) : powW 2 n = 2 ^ n := by
  unfold powW; exact Nat.mod_eq_of_lt (Nat.pow_lt_pow_right (by omega) h)
end Go.Proofs.Ytblnjnhneliffaa
