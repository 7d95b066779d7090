import Derived.Test.YtmlaenfgfgloeaaArrN
import Derived.Test.YtmlaenfgfgloeaaArr
/-! The reference's permutation: turn, offsets, constants. -/
set_option maxRecDepth 4000
set_option linter.unusedVariables false
set_option linter.unusedSimpArgs false
namespace Go.Proofs.Ytmlaenfgfgloeaa
open Go.RowKit

theorem turn_any (x : BitVec 64) (n : Nat) (w : World) (hn : n < 64) :
    Calls Try.prog 34 #[.int .u64 (iv x), .int .i64 n] w fun e w' => e = .returned (.int .u64 (iv (x.rotateLeft n))) ∧ Below w.heap.size w w' := by
  have h0 := iv_nonneg x
  by_cases hz : n = 0
  · subst hz
    go_enter Try.func34, Try.ntmps34
    go_wp2
    go_ret
    refine ⟨ret_int ?_, (by repeat (first | (with_reducible first | exact Below.refl _ _ | assumption | refine World.ext_below_of ?_ ?_ _ | refine Below.setCell ?_ ?_ _ | refine Below.alloc ?_ ?_ _ | refine Below.drew ?_ | refine World.size_le_ext _ _ _ ?_) | (solve | simp [go_sem] | (simp [go_sem]; omega) | omega)))⟩
    congr 1
    rw [BitVec.rotateLeft_def, Nat.zero_mod, BitVec.shiftLeft_zero, Nat.sub_zero, BitVec.ushiftRight_eq_zero (by omega), BitVec.or_zero]
  · have hm : ((n : Int) % 64) = n := by omega
    have hne : ((n : Int) == 0) = false := by rw [beq_eq_false_iff_ne]; omega
    have HR := hid (rot_spell x n hn)
    have HM := hid hm
    have hp : (1 : Int) ≤ n := by omega
    have hq : (n : Int) < 64 := by omega
    clear hz hm
    go_enter Try.func34, Try.ntmps34
    go_wp2
    go_ret
    exact ⟨ret_int (by rw [Nat.mod_eq_of_lt hn]; exact HR.out), (by repeat (first | (with_reducible first | exact Below.refl _ _ | assumption | refine World.ext_below_of ?_ ?_ _ | refine Below.setCell ?_ ?_ _ | refine Below.alloc ?_ ?_ _ | refine Below.drew ?_ | refine World.size_le_ext _ _ _ ?_) | (solve | simp [go_sem] | (simp [go_sem]; omega) | omega)))⟩

/-- The offsets by the path: behind t steps, with the place. -/
def offGo : Nat → List Nat × Nat × Nat
  | 0 => (List.replicate 25 0, 1, 0)
  | t + 1 => ((offGo t).1.set ((offGo t).2.1 + 5 * (offGo t).2.2) ((t + 1) * (t + 2) / 2 % 64), (offGo t).2.2, (2 * (offGo t).2.1 + 3 * (offGo t).2.2) % 5)
theorem offGo_len (t : Nat) : (offGo t).1.length = 25 := by induction t <;> simp [offGo, *]
theorem offGo_bd (t : Nat) : (offGo t).2.1 < 5 ∧ (offGo t).2.2 < 5 := by
  induction t with
  | zero => simp [offGo]
  | succ t ih => exact ⟨ih.2, Nat.mod_lt _ (by omega)⟩
def offL : List Nat := [0, 1, 62, 28, 27, 36, 44, 6, 55, 20, 3, 10, 43, 25, 39, 41, 45, 15, 21, 8, 18, 2, 61, 56, 14]
theorem offGo_end : (offGo 24).1 = offL := by decide +kernel

theorem uOff : Try.prog.underlying 53 = some (.array 25 3) := by kernel_rfl
theorem iOff : (Try.prog.info? 53).map (·.size) = some 25 := by kernel_rfl

set_option maxRecDepth 100000 in
set_option maxHeartbeats 1000000 in
theorem offsets_any (w : World) :
    Calls Try.prog 32 #[] w fun e w' => e = .returned (.agg (cellsN offL)) ∧ Below w.heap.size w w' := by
  go_enter Try.func32, Try.ntmps32
  go_wp2
  go_loopw [4, 2, 3] (fun t x y wr => ∃ k : Nat, k ≤ 24 ∧ t = .int .i64 k ∧ x = .int .i64 ((offGo k).2.1 : Nat) ∧ y = .int .i64 ((offGo k).2.2 : Nat) ∧ Hid (ArrN 53 wr (w.heap.size + 1) (offGo k).1) ∧ Hid (ArrN 53 wr w.heap.size (List.replicate 25 0)) ∧ Below w.heap.size w wr)
    (fun t _ _ _ => 24 - (intOf t).toNat)
  case atStart =>
    refine ⟨0, by omega, rfl, rfl, rfl, hid ?_, hid ?_, (by repeat (first | (with_reducible first | exact Below.refl _ _ | assumption | refine World.ext_below_of ?_ ?_ _ | refine Below.setCell ?_ ?_ _ | refine Below.alloc ?_ ?_ _ | refine Below.drew ?_ | refine World.size_le_ext _ _ _ ?_) | (solve | simp [go_sem] | (simp [go_sem]; omega) | omega)))⟩
    · have := ArrN.new 53 (w.alloc (.cells (cellsN (List.replicate 25 0)) 53)) (List.replicate 25 0)
      rw [show (w.alloc (.cells (cellsN (List.replicate 25 0)) 53)).heap.size = w.heap.size + 1 from by simp] at this
      exact this
    · exact (ArrN.new 53 w (List.replicate 25 0)).alloc _
  case round =>
    obtain ⟨k, hk, rfl, rfl, rfl, hA, hZ, hb⟩ := hrel
    have hl := offGo_len k
    have hbd := offGo_bd k
    obtain ⟨l, hL⟩ : ∃ l, l = (offGo k).1 := ⟨_, rfl⟩
    obtain ⟨x, hX⟩ : ∃ x, x = (offGo k).2.1 := ⟨_, rfl⟩
    obtain ⟨y, hY⟩ : ∃ y, y = (offGo k).2.2 := ⟨_, rfl⟩
    have hnx : offGo (k + 1) = ((offGo k).1.set ((offGo k).2.1 + 5 * (offGo k).2.2) ((k + 1) * (k + 2) / 2 % 64), (offGo k).2.2, (2 * (offGo k).2.1 + 3 * (offGo k).2.2) % 5) := rfl
    rw [← hL, ← hX, ← hY] at hnx
    rw [← hX, ← hY] at hbd
    rw [← hL] at hl hA
    rw [← hX, ← hY]
    obtain ⟨bx, by'⟩ := hbd
    have HNX := hid hnx
    have HL := hid hL
    clear hX hY hnx hL
    by_cases hlt : k < 24
    · have hA1 := hA.out.all hl
      have f1 := hA.out.free
      have hxy : x + 5 * y < 25 := by omega
      have hmul : ((k : Int) + 1) * ((k : Int) + 2) ≤ 25 * 26 := Int.mul_le_mul (by omega) (by omega) (by omega) (by omega)
      have hmul0 : 0 ≤ ((k : Int) + 1) * ((k : Int) + 2) := Int.mul_nonneg (by omega) (by omega)
      go_wp2
      go_roundw
      case rel =>
        refine ⟨k + 1, by omega, by go_num, ?_, ?_, hid ?_, hid (hZ.out.other (by show w.heap.size ≠ w.heap.size + 1; omega) _), (by repeat (first | (with_reducible first | exact Below.refl _ _ | assumption | refine World.ext_below_of ?_ ?_ _ | refine Below.setCell ?_ ?_ _ | refine Below.alloc ?_ ?_ _ | refine Below.drew ?_ | refine World.size_le_ext _ _ _ ?_) | (solve | simp [go_sem] | (simp [go_sem]; omega) | omega)))⟩
        · rw [HNX.out]
        · rw [HNX.out]; show Value.int .i64 _ = .int .i64 (((2 * x + 3 * y) % 5 : Nat) : Int); congr 1
        · rw [HNX.out]
          have e : ((k : Int) + 1) * ((k : Int) + 2) / 2 % 64 = (((k + 1) * (k + 2) / 2 % 64 : Nat) : Int) := by
            rw [Int.natCast_emod, Int.natCast_ediv, Int.natCast_mul]; rfl
          rw [e]
          exact hA.out.set _ _
      case measure => simp [intOf]; omega
    · obtain rfl : k = 24 := by omega
      have e : l = offL := by rw [HL.out]; exact offGo_end
      rw [e] at hA hl
      have iS := hid (show (Try.prog.info? 53).map (·.size) = some (cellsN offL).size from iOff)
      have oS := hid (show (cellsN (List.replicate 25 0)).size = (cellsN offL).size from rfl)
      have nS := hid (one_cellsN offL)
      obtain ⟨z, hz⟩ : ∃ z : List Nat, z = List.replicate 25 0 := ⟨_, rfl⟩
      rw [← hz] at hZ oS
      have hnx0 := HNX
      clear hz e HL HNX hlt hk
      go_wp2_with (first | (refine wpList_load_row rfl 53 (.tmp 1) rfl (w.heap.size + 1) rfl 53 _ (0, 0) _ hA.out uOff rfl iS.out ?_; simp only [Act.put, List.setIfInBounds_toArray, List.set_cons_zero, List.set_cons_succ]) | (refine wpList_store_row rfl 53 (.tmp 0) (.tmp 28) rfl w.heap.size _ rfl rfl 53 _ hZ.out iS.out oS.out nS.out ?_; simp only [Act.put]))
      refine bodyPost_ret (results_cell_row rfl _ _ w.heap.size 53 (cellsN offL) (0, 0) _ rfl (heap_setRow _ _ _ _ _ hZ.out) uOff rfl iS.out) rfl ⟨rfl, below_setRow hb _ (Nat.le_refl _) _⟩

/-- The register. -/
def nextF (f : Nat) : Nat := if 256 ≤ 2 * f then (2 * f ^^^ 256) ^^^ 113 else 2 * f
def conGo : Nat → List (BitVec 64) × Nat
  | 0 => (List.replicate 24 0, 1)
  | n + 1 => (if (conGo n).2 % 2 = 1 then (conGo n).1.set (n / 7) (nb (conGo n).1 (n / 7) ||| (1#64 <<< (2 ^ (n % 7) - 1))) else (conGo n).1, nextF (conGo n).2)
theorem conGo_len (n : Nat) : (conGo n).1.length = 24 := by
  induction n with
  | zero => simp [conGo]
  | succ n ih => simp only [conGo]; split <;> simp [ih]
theorem nextF_bd : ∀ f, f < 256 → nextF f < 256 := by decide +kernel
theorem conGo_bd (n : Nat) : (conGo n).2 < 256 := by
  induction n with
  | zero => simp [conGo]
  | succ n ih => exact nextF_bd _ ih
theorem lf_and1 : ∀ f : Nat, f < 256 → bits .and .i64 (f : Int) 1 = ((f % 2 : Nat) : Int) := by decide +kernel
theorem lf_and256 : ∀ f : Nat, f < 256 → bits .and .i64 ((f : Int) * 2) 256 = if 256 ≤ 2 * f then 256 else 0 := by decide +kernel
theorem lf_xor : ∀ f : Nat, f < 256 → bits .xor .i64 (bits .xor .i64 ((f : Int) * 2) 256) 113 = (((2 * f ^^^ 256) ^^^ 113 : Nat) : Int) := by decide +kernel
end Go.Proofs.Ytmlaenfgfgloeaa
