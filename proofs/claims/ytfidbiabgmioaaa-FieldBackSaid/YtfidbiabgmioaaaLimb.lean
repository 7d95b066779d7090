import Derived.Test.YtfidbiabgmioaaaWordA
import Derived.Test.YtfidbiabgmioaaaPart
/-! Rows of limbs. -/
set_option maxRecDepth 4000
set_option linter.unusedVariables false
set_option linter.unusedSimpArgs false
namespace Go.Proofs.Ytfidbiabgmioaaa
open Go.RowKit

def cellsM (n x : Nat) : Array Value := ((List.range n).map fun i => Value.int .u64 ((lmN x i : Nat) : Int)).toArray
theorem cellsW_M (x : Nat) : cellsW x = cellsM 4 x := rfl
theorem size_cellsM (n x : Nat) : (cellsM n x).size = n := by simp [cellsM]
theorem one_cellsM (n x : Nat) : (cellsM n x).all (·.oneCell') = true := by
  rw [Array.all_eq_true_iff_forall_mem]
  intro v hv
  simp [cellsM] at hv
  obtain ⟨i, _, rfl⟩ := hv
  rfl
theorem cellsM_at (n x j : Nat) (h : j < n) : (cellsM n x)[j]? = some (.int .u64 ((lmN x j : Nat) : Int)) := by simp [cellsM, h]
/-- Block b holds n limbs of x. -/
def ArrM (t : TypeId) (n : Nat) (w : World) (b : Nat) (x : Nat) : Prop := w.heap[b]? = some (.cells (cellsM n x) t (0, 0))
theorem ArrM.ofW {t : TypeId} {w : World} {b x : Nat} (h : ArrW t w b x) : ArrM t 4 w b x := h
theorem ArrM.toW {t : TypeId} {w : World} {b x : Nat} (h : ArrM t 4 w b x) : ArrW t w b x := h
theorem ArrM.lt {t : TypeId} {n : Nat} {w : World} {b x : Nat} (h : ArrM t n w b x) : b < w.heap.size := (Array.getElem?_eq_some_iff.1 h).1
theorem ArrM.cell {t : TypeId} {n : Nat} {w : World} {b x : Nat} (h : ArrM t n w b x) (j : Nat) (hj : j < n) : w.cell? ⟨b, j, none⟩ = some (.int .u64 ((lmN x j : Nat) : Int)) := by
  rw [cell_of_row w b j _ _ _ h]; exact cellsM_at n x j hj
theorem ArrM.free {t : TypeId} {n : Nat} {w : World} {b x : Nat} (h : ArrM t n w b x) (j : Nat) : w.frozen? ⟨b, j, none⟩ = false := by
  unfold ArrM at h
  simp [World.frozen?, h]
theorem ArrM.other {t : TypeId} {n : Nat} {w : World} {b x : Nat} (h : ArrM t n w b x) {a : Addr} (ha : b ≠ a.block) (v : Value) : ArrM t n (w.setCell a v) b x := by
  unfold ArrM at *
  rw [Below.heap_setCell _ _ _ _ ha]; exact h
theorem ArrM.below {t : TypeId} {n : Nat} {w w' : World} {b B x : Nat} (h : ArrM t n w b x) (hb : Below B w w') (hB : b < B) : ArrM t n w' b x := by
  unfold ArrM at *
  rw [hb.block b hB]; exact h
theorem ArrM.ext {t : TypeId} {n : Nat} {w : World} {b x : Nat} (h : ArrM t n w b x) (y : World) : ArrM t n (w.ext y) b x := h.below (w.ext_below y) h.lt
theorem ArrM.alloc {t : TypeId} {n : Nat} {w : World} {b x : Nat} (h : ArrM t n w b x) (o : Obj) : ArrM t n (w.alloc o) b x := by
  unfold ArrM at *
  rw [Below.heap_alloc _ _ _ (ArrM.lt h)]; exact h
theorem ArrM.new (t : TypeId) (n : Nat) (w : World) (x : Nat) : ArrM t n (w.alloc (.cells (cellsM n x) t)) w.heap.size x := by
  unfold ArrM
  show (w.heap.push _)[w.heap.size]? = _
  simp
/-- One limb changed. -/
def setL (x j v : Nat) : Nat := x + 2 ^ (64 * j) * v - 2 ^ (64 * j) * lmN x j
theorem lmN_le (x j : Nat) : 2 ^ (64 * j) * lmN x j ≤ x := by
  unfold lmN
  have h1 : x / 2 ^ (64 * j) % 2 ^ 64 ≤ x / 2 ^ (64 * j) := Nat.mod_le _ _
  have h2 := Nat.mul_le_mul_left (2 ^ (64 * j)) h1
  have h3 := Nat.mul_div_le x (2 ^ (64 * j))
  omega
theorem setL_eq (x j v : Nat) : setL x j v + 2 ^ (64 * j) * lmN x j = x + 2 ^ (64 * j) * v := by
  have := lmN_le x j
  unfold setL; omega
theorem setL_parts (x j v : Nat) : setL x j v = x % 2 ^ (64 * j) + 2 ^ (64 * j) * (v + 2 ^ 64 * (x / 2 ^ (64 * j) / 2 ^ 64)) := by
  have h1 := setL_eq x j v
  have h2 := Nat.div_add_mod x (2 ^ (64 * j))
  have h3 := Nat.div_add_mod (x / 2 ^ (64 * j)) (2 ^ 64)
  have h4 : 2 ^ (64 * j) * (x / 2 ^ (64 * j)) = 2 ^ (64 * j) * (2 ^ 64 * (x / 2 ^ (64 * j) / 2 ^ 64)) + 2 ^ (64 * j) * lmN x j := by
    conv => lhs; rw [← h3]
    rw [Nat.mul_add]; rfl
  rw [Nat.mul_add]
  omega
theorem lmN_setL (x j v i : Nat) (hv : v < 2 ^ 64) : lmN (setL x j v) i = if j = i then v else lmN x i := by
  have hp : 0 < 2 ^ (64 * j) := Nat.pow_pos (by omega)
  have hm : x % 2 ^ (64 * j) < 2 ^ (64 * j) := Nat.mod_lt _ hp
  unfold lmN
  by_cases h : j = i
  · subst h
    rw [if_pos rfl, setL_parts, Nat.add_mul_div_left _ _ hp, Nat.div_eq_of_lt hm, Nat.zero_add, Nat.add_mul_mod_self_left, Nat.mod_eq_of_lt hv]
  · rw [if_neg h]
    rcases Nat.lt_or_ge i j with hlt | hge
    · have e1 : setL x j v + 2 ^ (64 * i) * (2 ^ 64 * (2 ^ (64 * j - 64 * i - 64) * lmN x j)) = x + 2 ^ (64 * i) * (2 ^ 64 * (2 ^ (64 * j - 64 * i - 64) * v)) := by
        have := setL_eq x j v
        have e : ∀ z, 2 ^ (64 * i) * (2 ^ 64 * (2 ^ (64 * j - 64 * i - 64) * z)) = 2 ^ (64 * j) * z := fun z => by
          rw [← Nat.mul_assoc, ← Nat.mul_assoc, ← Nat.pow_add, ← Nat.pow_add]; congr 2; omega
        rw [e, e]; exact this
      have hp2 : 0 < 2 ^ (64 * i) := Nat.pow_pos (by omega)
      have e2 := congrArg (fun z => z / 2 ^ (64 * i) % 2 ^ 64) e1
      simp only [Nat.add_mul_div_left _ _ hp2, Nat.add_mul_mod_self_left] at e2
      exact e2
    · have hji : 64 * i = 64 * j + 64 + (64 * i - 64 * j - 64) := by omega
      have e3 : ∀ y, y / 2 ^ (64 * i) = y / 2 ^ (64 * j) / 2 ^ 64 / 2 ^ (64 * i - 64 * j - 64) := fun y => by
        rw [Nat.div_div_eq_div_mul, Nat.div_div_eq_div_mul, ← Nat.pow_add, ← Nat.pow_add]; congr 2; omega
      rw [e3, e3 x, setL_parts, Nat.add_mul_div_left _ _ hp, Nat.div_eq_of_lt hm, Nat.zero_add, Nat.add_mul_div_left _ _ (by decide : 0 < 2 ^ 64), Nat.div_eq_of_lt hv, Nat.zero_add]
theorem setL_lt (x j v n : Nat) (hx : x < 2 ^ (64 * n)) (hv : v < 2 ^ 64) (hj : j < n) : setL x j v < 2 ^ (64 * n) := by
  have hp : 0 < 2 ^ (64 * j) := Nat.pow_pos (by omega)
  have hm : x % 2 ^ (64 * j) < 2 ^ (64 * j) := Nat.mod_lt _ hp
  have e : 2 ^ (64 * n) = 2 ^ (64 * j) * (2 ^ 64 * 2 ^ (64 * n - 64 * j - 64)) := by rw [← Nat.pow_add, ← Nat.pow_add]; congr 1; omega
  have h1 : x / 2 ^ (64 * j) / 2 ^ 64 < 2 ^ (64 * n - 64 * j - 64) := by
    rw [Nat.div_div_eq_div_mul, Nat.div_lt_iff_lt_mul (Nat.mul_pos hp (by decide))]
    rw [e] at hx
    rw [show 2 ^ (64 * n - 64 * j - 64) * (2 ^ (64 * j) * 2 ^ 64) = 2 ^ (64 * j) * (2 ^ 64 * 2 ^ (64 * n - 64 * j - 64)) by rw [Nat.mul_comm, Nat.mul_assoc]]
    exact hx
  rw [setL_parts, e]
  have h2 : v + 2 ^ 64 * (x / 2 ^ (64 * j) / 2 ^ 64) + 1 ≤ 2 ^ 64 * 2 ^ (64 * n - 64 * j - 64) := by
    have := Nat.mul_le_mul_left (2 ^ 64) h1
    rw [Nat.succ_eq_add_one, Nat.mul_add] at this
    omega
  have h3 := Nat.mul_le_mul_left (2 ^ (64 * j)) h2
  rw [Nat.mul_add, Nat.mul_one] at h3
  omega
theorem cellsM_set (n x j v : Nat) (hv : v < 2 ^ 64) : (cellsM n x).setIfInBounds j (.int .u64 (v : Int)) = cellsM n (setL x j v) := by
  apply Array.ext_getElem?
  intro i
  rw [Array.getElem?_setIfInBounds, size_cellsM]
  rcases Nat.lt_or_ge i n with hi | hi
  · rw [cellsM_at n _ i hi, cellsM_at n _ i hi, lmN_setL x j v i hv]
    by_cases h : j = i
    · subst h; rw [if_pos rfl, if_pos rfl, if_pos hi]
    · rw [if_neg h, if_neg h]
  · have e1 : (cellsM n x)[i]? = none := Array.getElem?_eq_none (by rw [size_cellsM]; exact hi)
    have e2 : (cellsM n (setL x j v))[i]? = none := Array.getElem?_eq_none (by rw [size_cellsM]; exact hi)
    rw [e1, e2]
    split
    · rw [if_neg (by omega)]
    · rfl
theorem ArrM.set {t : TypeId} {n : Nat} {w : World} {b x : Nat} (h : ArrM t n w b x) (j v : Nat) (hv : v < 2 ^ 64) : ArrM t n (w.setCell ⟨b, j, none⟩ (.int .u64 (v : Int))) b (setL x j v) := by
  unfold ArrM at *
  simp [World.setCell, Array.getElem?_modify, h, cellsM_set n x j v hv]
theorem setL_top (x j v : Nat) (hx : x < 2 ^ (64 * j)) : setL x j v = x + 2 ^ (64 * j) * v := by
  unfold setL lmN
  rw [Nat.div_eq_of_lt hx]; simp
/-- Add64 and Mul64 in numbers. -/
theorem add64_nat (x y c : Nat) (hx : x < 2 ^ 64) (hy : y < 2 ^ 64) (hc : c ≤ 1) : ∃ u v : Nat, u < 2 ^ 64 ∧ v ≤ 1 ∧ x + y + c = u + 2 ^ 64 * v ∧
    ∀ w, (callFunc 101 #[.int .u64 (x : Int), .int .u64 (y : Int), .int .u64 (c : Int)]).run Try.prog w = .ok (.value (.tuple #[.int .u64 (u : Int), .int .u64 (v : Int)])) w := by
  refine ⟨(x + y + c) % 2 ^ 64, (x + y + c) / 2 ^ 64, Nat.mod_lt _ (by decide), by omega, by omega, fun w => ?_⟩
  rw [add64_run (x : Int) (y : Int) (c : Int) (by omega) (by omega) (by omega) (by omega)]
  congr 5 <;> omega
theorem sub64_nat (x y c : Nat) (hx : x < 2 ^ 64) (hy : y < 2 ^ 64) (hc : c ≤ 1) : ∃ u v : Nat, u < 2 ^ 64 ∧ v ≤ 1 ∧ u + y + c = x + 2 ^ 64 * v ∧
    ∀ w, (callFunc 111 #[.int .u64 (x : Int), .int .u64 (y : Int), .int .u64 (c : Int)]).run Try.prog w = .ok (.value (.tuple #[.int .u64 (u : Int), .int .u64 (v : Int)])) w := by
  obtain ⟨u, hu⟩ : ∃ u : Nat, ((x : Int) - (y : Int) - (c : Int)) % 18446744073709551616 = (u : Int) := ⟨(((x : Int) - (y : Int) - (c : Int)) % 18446744073709551616).toNat, by omega⟩
  obtain ⟨v, hv⟩ : ∃ v : Nat, -(((x : Int) - (y : Int) - (c : Int)) / 18446744073709551616) = (v : Int) := ⟨(-(((x : Int) - (y : Int) - (c : Int)) / 18446744073709551616)).toNat, by omega⟩
  refine ⟨u, v, by omega, by omega, by omega, fun w => ?_⟩
  rw [sub64_run (x : Int) (y : Int) (c : Int) (by omega) (by omega) (by omega) (by omega) (by omega) (by omega), hu, hv]
theorem mul64_any (x y : Nat) (hx : x < 2 ^ 64) (hy : y < 2 ^ 64) (w : World) : Calls Try.prog 122 #[.int .u64 (x : Int), .int .u64 (y : Int)] w fun e w' => e = .returned (.tuple #[.int .u64 ((x * y / 2 ^ 64 : Nat) : Int), .int .u64 ((x * y % 2 ^ 64 : Nat) : Int)]) ∧ Below w.heap.size w w' :=
  (bits_Mul64 x y hx hy w).mono fun e w' ⟨h1, h2⟩ => ⟨h1, by subst h2; exact Below.refl _ _⟩
theorem mul_hi (x y : Nat) (hx : x < 2 ^ 64) (hy : y < 2 ^ 64) : x * y / 2 ^ 64 < 2 ^ 64 := by
  rw [Nat.div_lt_iff_lt_mul (by decide)]
  exact Nat.mul_lt_mul_of_lt_of_le hx (Nat.le_of_lt hy) (by decide)
end Go.Proofs.Ytfidbiabgmioaaa
