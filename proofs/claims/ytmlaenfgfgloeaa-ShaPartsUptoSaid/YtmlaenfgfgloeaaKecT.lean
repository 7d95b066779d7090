import Derived.Test.YtmlaenfgfgloeaaKecAl
/-! The hasher, part by part: the plain law. -/
set_option linter.unusedVariables false
set_option linter.unusedSimpArgs false
namespace Go.Proofs.Ytmlaenfgfgloeaa
open Go.RowKit
theorem drop_at (m ys : List (BitVec 8)) (j : Nat) : (m ++ ys).drop (136 * (m.length / 136 + j)) = (restL m ++ ys).drop (136 * j) := by
  have h1 : m = m.take (136 * (m.length / 136)) ++ restL m := (List.take_append_drop _ _).symm
  have h2 : (m.take (136 * (m.length / 136))).length = 136 * (m.length / 136) := by rw [List.length_take]; omega
  conv => lhs; rw [h1, List.append_assoc]
  rw [Nat.mul_add, ← List.drop_drop]
  congr 1
  have h3 : (List.take (136 * (m.length / 136)) m ++ restL m).length = m.length := by rw [← h1]
  rw [h3]
  exact List.drop_left' h2
theorem chunk_at (m ys : List (BitVec 8)) (j : Nat) : chunk (m ++ ys) (m.length / 136 + j) = chunk (restL m ++ ys) j := by
  unfold chunk; rw [drop_at]
theorem chunk_app (m ys : List (BitVec 8)) (k : Nat) (h : k < m.length / 136) : chunk (m ++ ys) k = chunk m k := by
  unfold chunk
  rw [List.drop_append_of_le_length (by omega), List.take_append_of_le_length (by simp; omega)]
theorem absN_app (s : List (BitVec 64)) (m ys : List (BitVec 8)) : ∀ (k : Nat), k ≤ m.length / 136 → absN s (m ++ ys) k = absN s m k
  | 0, _ => rfl
  | k + 1, h => by
    unfold absN
    rw [absN_app s m ys k (by omega), chunk_app m ys k (by omega)]
theorem absN_add (m ys : List (BitVec 8)) : ∀ (j : Nat), absN zero25 (m ++ ys) (m.length / 136 + j) = absN (stateL m) (restL m ++ ys) j
  | 0 => by rw [Nat.add_zero, absN_app _ _ _ _ (Nat.le_refl _), stateL_def]; rfl
  | j + 1 => by
    rw [← Nat.add_assoc, absN, absN_add m ys j, chunk_at, absN]
theorem len_add (m ys : List (BitVec 8)) : (m ++ ys).length / 136 = m.length / 136 + (restL m ++ ys).length / 136 := by
  have : (restL m).length = m.length - 136 * (m.length / 136) := by simp [restL]
  rw [List.length_append, List.length_append, this]
  omega
theorem state_app (m ys : List (BitVec 8)) : absN (stateL m) (restL m ++ ys) ((restL m ++ ys).length / 136) = stateL (m ++ ys) := by
  rw [← absN_add, ← len_add, stateL_def]
theorem rest_app (m ys : List (BitVec 8)) : (restL m ++ ys).drop (136 * ((restL m ++ ys).length / 136)) = restL (m ++ ys) := by
  rw [← drop_at, ← len_add, restL_def]
end Go.Proofs.Ytmlaenfgfgloeaa
