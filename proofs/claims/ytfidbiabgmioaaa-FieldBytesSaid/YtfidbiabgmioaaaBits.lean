import Derived.Test.YtfidbiabgmioaaaTail
import Derived.Laws.BitsAllLaws
/-! Words of 64 bits, and arrays of them in memory. -/
set_option maxRecDepth 4000
set_option linter.unusedVariables false
set_option linter.unusedSimpArgs false
namespace Go.Proofs.Ytfidbiabgmioaaa
open Go.RowKit

/-- A word of 64 bits as the number that a cell holds. -/
def iv (x : BitVec 64) : Int := (x.toNat : Int)
theorem iv_nonneg (x : BitVec 64) : 0 ≤ iv x := Int.natCast_nonneg _
theorem iv_lt (x : BitVec 64) : iv x ≤ 18446744073709551615 := by have := x.isLt; unfold iv; omega
theorem iv_inj {x y : BitVec 64} (h : iv x = iv y) : x = y := by unfold iv at h; exact BitVec.eq_of_toNat_eq (by exact_mod_cast h)
theorem iv_ofNat (n : Nat) (h : n < 18446744073709551616) : iv (BitVec.ofNat 64 n) = (n : Int) := by
  unfold iv; rw [BitVec.toNat_ofNat, Nat.mod_eq_of_lt h]
theorem iv_of {a : Int} (h0 : 0 ≤ a) (h1 : a ≤ 18446744073709551615) : ∃ x, a = iv x :=
  ⟨BitVec.ofNat 64 a.toNat, by rw [iv_ofNat _ (by omega)]; omega⟩
theorem iv_xor (x y : BitVec 64) : bits .xor .u64 (iv x) (iv y) = iv (x ^^^ y) := by
  unfold iv; rw [u64_xor_nat _ _ x.isLt y.isLt, BitVec.toNat_xor]
theorem iv_and (x y : BitVec 64) : bits .and .u64 (iv x) (iv y) = iv (x &&& y) := by
  unfold iv; rw [u64_and_nat _ _ x.isLt y.isLt, BitVec.toNat_and]
theorem iv_or (x y : BitVec 64) : bits .or .u64 (iv x) (iv y) = iv (x ||| y) := by
  unfold iv; rw [u64_or_nat _ _ x.isLt y.isLt, BitVec.toNat_or]
theorem wrap_u64' (n : Int) : IntKind.u64.wrap n = n % 18446744073709551616 := by simp [IntKind.wrap, IntKind.bits, IntKind.signed]
theorem iv_add (x y : BitVec 64) : IntKind.u64.wrap (iv x + iv y) = iv (x + y) := by
  rw [wrap_u64']; unfold iv; rw [BitVec.toNat_add]; omega
theorem iv_shl (x : BitVec 64) (n : Nat) : IntKind.u64.wrap (iv x * 2 ^ n) = iv (x <<< n) := by
  rw [wrap_u64']; unfold iv; rw [BitVec.toNat_shiftLeft, Nat.shiftLeft_eq, Int.natCast_emod, Int.natCast_mul, Int.natCast_pow]
  rfl
theorem iv_shr (x : BitVec 64) (n : Nat) : iv x / 2 ^ n = iv (x >>> n) := by
  unfold iv; rw [BitVec.toNat_ushiftRight, Nat.shiftRight_eq_div_pow, Int.natCast_ediv, Int.natCast_pow]
  rfl
theorem iv_not (x : BitVec 64) : 18446744073709551615 - iv x = iv (~~~ x) := by
  unfold iv; rw [BitVec.toNat_not]; have := x.isLt; omega
theorem iv_compl (x : BitVec 64) : bits .xor .u64 (if IntKind.u64.signed = true then -1 else IntKind.u64.max) (iv x) = iv (~~~ x) := by
  rw [show (if IntKind.u64.signed = true then (-1 : Int) else IntKind.u64.max) = iv (BitVec.allOnes 64) from by decide +kernel, iv_xor, BitVec.allOnes_xor]
theorem rot_spell (x : BitVec 64) (n : Nat) (h : n < 64) : bits .or .u64 (IntKind.u64.wrap (iv x * 2 ^ n)) (iv x / 2 ^ (64 - n)) = iv (x.rotateLeft n) := by
  rw [iv_shl, iv_shr, iv_or]
  congr 1
  rw [BitVec.rotateLeft_def, Nat.mod_eq_of_lt h]

/-- One word of a list: closed to the walk's simp. -/
def nb (xs : List (BitVec 64)) (j : Nat) : BitVec 64 := xs.getD j 0
def cellsB (xs : List (BitVec 64)) : Array Value := (xs.map fun x => Value.int .u64 (iv x)).toArray
/-- Block b holds the words xs. -/
def ArrB (t : TypeId) (w : World) (b : Nat) (xs : List (BitVec 64)) : Prop := w.heap[b]? = some (.cells (cellsB xs) t (0, 0))

theorem ArrB.cell {t : TypeId} {w : World} {b : Nat} {xs : List (BitVec 64)} (h : ArrB t w b xs) (j : Nat) (hj : j < xs.length) : w.cell? ⟨b, j, none⟩ = some (.int .u64 (iv (nb xs j))) := by
  unfold ArrB at h
  simp [World.cell?, h, cellsB, nb, hj]
theorem ArrB.free {t : TypeId} {w : World} {b : Nat} {xs : List (BitVec 64)} (h : ArrB t w b xs) (j : Nat) : w.frozen? ⟨b, j, none⟩ = false := by
  unfold ArrB at h
  simp [World.frozen?, h]
theorem ArrB.lt {t : TypeId} {w : World} {b : Nat} {xs : List (BitVec 64)} (h : ArrB t w b xs) : b < w.heap.size := by
  unfold ArrB at h
  exact (Array.getElem?_eq_some_iff.1 h).1
theorem ArrB.set {t : TypeId} {w : World} {b : Nat} {xs : List (BitVec 64)} (h : ArrB t w b xs) (j : Nat) (x : BitVec 64) : ArrB t (w.setCell ⟨b, j, none⟩ (.int .u64 (iv x))) b (xs.set j x) := by
  unfold ArrB at *
  simp [World.setCell, Array.getElem?_modify, h, cellsB, List.map_set]
theorem ArrB.other {t : TypeId} {w : World} {b : Nat} {xs : List (BitVec 64)} (h : ArrB t w b xs) {a : Addr} (ha : b ≠ a.block) (v : Value) : ArrB t (w.setCell a v) b xs := by
  unfold ArrB at *
  rw [Below.heap_setCell _ _ _ _ ha]; exact h
theorem ArrB.below {t : TypeId} {w w' : World} {b B : Nat} {xs : List (BitVec 64)} (h : ArrB t w b xs) (hb : Below B w w') (hB : b < B) : ArrB t w' b xs := by
  unfold ArrB at *
  rw [hb.block b hB]; exact h
theorem ArrB.alloc {t : TypeId} {w : World} {b : Nat} {xs : List (BitVec 64)} (h : ArrB t w b xs) (o : Obj) : ArrB t (w.alloc o) b xs := by
  unfold ArrB at *
  rw [Below.heap_alloc _ _ _ (ArrB.lt h)]; exact h
theorem ArrB.drew {t : TypeId} {w : World} {b : Nat} {xs : List (BitVec 64)} (h : ArrB t w b xs) : ArrB t w.drew b xs := h
theorem ArrB.drewN {t : TypeId} {w : World} {b : Nat} {xs : List (BitVec 64)} (h : ArrB t w b xs) (n : Nat) : ArrB t (w.drewN n) b xs := h
theorem ArrB.ext {t : TypeId} {w : World} {b : Nat} {xs : List (BitVec 64)} (h : ArrB t w b xs) (x : World) : ArrB t (w.ext x) b xs := h.below (w.ext_below x) h.lt
theorem ArrB.new (t : TypeId) (w : World) (xs : List (BitVec 64)) : ArrB t (w.alloc (.cells (cellsB xs) t)) w.heap.size xs := by
  unfold ArrB
  show (w.heap.push _)[w.heap.size]? = _
  simp
/-- At a list of words that is written out. -/
theorem nb_map (xs : List (BitVec 64)) (j : Nat) : nb xs j = xs.getD j 0 := rfl
theorem words_of (xs : List Int) (h : ∀ y ∈ xs, 0 ≤ y ∧ y ≤ 18446744073709551615) : ∃ ys : List (BitVec 64), ys.length = xs.length ∧ (xs.map (Value.int .u64)).toArray = cellsB ys := by
  induction xs with
  | nil => exact ⟨[], rfl, rfl⟩
  | cons x xs ih =>
    obtain ⟨ys, h1, h2⟩ := ih (fun y hy => h y (List.mem_cons_of_mem _ hy))
    obtain ⟨z, hz⟩ := iv_of (h x (by simp)).1 (h x (by simp)).2
    refine ⟨z :: ys, by simp [h1], ?_⟩
    unfold cellsB at *
    simp at h2
    simp [hz, h2]

theorem size_cellsB (s : List (BitVec 64)) : (cellsB s).size = s.length := by simp [cellsB]
theorem one_cellsB (s : List (BitVec 64)) : (cellsB s).all (·.oneCell') = true := by
  rw [Array.all_eq_true_iff_forall_mem]
  intro v hv
  simp [cellsB] at hv
  obtain ⟨x, _, rfl⟩ := hv
  rfl
theorem mask63 (k : Int) : bits .and .u64 (IntKind.u64.wrap k) 63 = k % 64 := by
  have h0 : 0 ≤ k % 18446744073709551616 := Int.emod_nonneg _ (by omega)
  rw [wrap_u64']
  obtain ⟨m, hm⟩ := Int.eq_ofNat_of_zero_le h0
  have hlt : m < 18446744073709551616 := by omega
  rw [hm, show (63 : Int) = ((63 : Nat) : Int) from rfl, u64_and_nat m 63 hlt (by omega), show (63 : Nat) = 2 ^ 6 - 1 from rfl, Nat.and_two_pow_sub_one_eq_mod]
  omega
end Go.Proofs.Ytfidbiabgmioaaa
