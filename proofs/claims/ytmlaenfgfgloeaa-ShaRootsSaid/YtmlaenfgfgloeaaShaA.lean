import Derived.Test.YtmlaenfgfgloeaaRot
import Derived.Test.YtmlaenfgfgloeaaShaL
import Derived.Test.YtmlaenfgfgloeaaArrN
import Derived.Test.YtmlaenfgfgloeaaArr
import Derived.Test.YtmlaenfgfgloeaaPart
/-! sha: constants, turns. -/
set_option maxRecDepth 4000
set_option linter.unusedVariables false
set_option linter.unusedSimpArgs false
namespace Go.Proofs.Ytmlaenfgfgloeaa
open Go.RowKit

theorem u80 : Try.prog.underlying 69 = some (.array 80 22) := by kernel_rfl
theorem u8w : Try.prog.underlying 66 = some (.array 8 22) := by kernel_rfl
theorem i80 : (Try.prog.info? 69).map (·.size) = some 80 := by kernel_rfl
theorem i8w : (Try.prog.info? 66).map (·.size) = some 8 := by kernel_rfl
theorem uU' : Try.prog.underlying 22 = some (.int .u64) := by kernel_rfl
theorem cU' : Try.prog.cellsOf 22 = 1 := by kernel_rfl
theorem iU' : (Try.prog.info? 22).isSome = true := by kernel_rfl
def zeroB (n : Nat) : List (BitVec 64) := List.replicate n 0
theorem zeroB_len (n : Nat) : (zeroB n).length = n := by simp [zeroB]
theorem zero80 : (Try.prog.info? 69).bind (·.zero) = some (.agg (cellsB (zeroB 80))) := by kernel_rfl
theorem zero8 : (Try.prog.info? 66).bind (·.zero) = some (.agg (cellsB (zeroB 8))) := by kernel_rfl
def k80V : Array Value := cellsB shaK
def h8V : Array Value := cellsB shaH

theorem squares_any (w : World) : Calls Try.prog 40 #[] w fun e w' => e = .returned (.agg (cellsB shaH)) ∧ Below w.heap.size w w' := by
  have hZ := hid (ArrB.new 66 w (zeroB 8))
  have hb : Below w.heap.size w (w.alloc (.cells (cellsB (zeroB 8)) 66)) := (Below.refl _ _).alloc (Nat.le_refl _) _
  have iR := hid (show (Try.prog.info? 66).map (·.size) = some (cellsB shaH).size from by rw [size_cellsB]; exact i8w)
  have oR := hid (show (cellsB (zeroB 8)).size = (cellsB shaH).size by rw [size_cellsB, size_cellsB]; rfl)
  go_enter Try.func40, Try.ntmps40
  go_wp2_with (first | (refine wpList_alloc_new rfl 66 rfl (cellsB (zeroB 8)) zero8 ?_; simp only [Act.put, List.setIfInBounds_toArray, List.set_cons_zero, List.set_cons_succ]) | (refine wpList_buildStore 66 _ (.tmp 0) 1 (cellsB shaH) w.heap.size rfl rfl rfl rfl rfl rfl (by simp) (by kernel_rfl) rfl 66 _ hZ.out iR.out oR.out (one_cellsB _) ?_; simp only [Act.put, List.setIfInBounds_toArray, List.set_cons_zero, List.set_cons_succ]))
  refine bodyPost_ret (results_cell_row rfl _ _ w.heap.size 66 (cellsB shaH) (0, 0) _ rfl (heap_setRow _ _ _ _ _ hZ.out) u8w rfl iR.out) rfl ⟨rfl, below_setRow hb _ (Nat.le_refl _) _⟩
theorem rfirst_any (w : World) : Calls Try.prog 37 #[] w fun e w' => e = .returned (.agg (cellsB shaH)) ∧ Below w.heap.size w w' := by
  have hZ := hid (ArrB.new 66 w (zeroB 8))
  have hb : Below w.heap.size w (w.alloc (.cells (cellsB (zeroB 8)) 66)) := (Below.refl _ _).alloc (Nat.le_refl _) _
  have iR := hid (show (Try.prog.info? 66).map (·.size) = some (cellsB shaH).size from by rw [size_cellsB]; exact i8w)
  have oR := hid (show (cellsB (zeroB 8)).size = (cellsB shaH).size by rw [size_cellsB, size_cellsB]; rfl)
  go_enter Try.func37, Try.ntmps37
  go_wp2_with (first | (refine wpList_alloc_new rfl 66 rfl (cellsB (zeroB 8)) zero8 ?_; simp only [Act.put, List.setIfInBounds_toArray, List.set_cons_zero, List.set_cons_succ]) | (refine wpList_buildStore 66 _ (.tmp 0) 1 (cellsB shaH) w.heap.size rfl rfl rfl rfl rfl rfl (by simp) (by kernel_rfl) rfl 66 _ hZ.out iR.out oR.out (one_cellsB _) ?_; simp only [Act.put, List.setIfInBounds_toArray, List.set_cons_zero, List.set_cons_succ]))
  refine bodyPost_ret (results_cell_row rfl _ _ w.heap.size 66 (cellsB shaH) (0, 0) _ rfl (heap_setRow _ _ _ _ _ hZ.out) u8w rfl iR.out) rfl ⟨rfl, below_setRow hb _ (Nat.le_refl _) _⟩
theorem roots_any (w : World) : Calls Try.prog 39 #[] w fun e w' => e = .returned (.agg (cellsB shaK)) ∧ Below w.heap.size w w' := by
  have hZ := hid (ArrB.new 69 w (zeroB 80))
  have hb : Below w.heap.size w (w.alloc (.cells (cellsB (zeroB 80)) 69)) := (Below.refl _ _).alloc (Nat.le_refl _) _
  have iR := hid (show (Try.prog.info? 69).map (·.size) = some (cellsB shaK).size from by rw [size_cellsB]; exact i80)
  have oR := hid (show (cellsB (zeroB 80)).size = (cellsB shaK).size by rw [size_cellsB, size_cellsB]; rfl)
  go_enter Try.func39, Try.ntmps39
  go_wp2_with (first | (refine wpList_alloc_new rfl 69 rfl (cellsB (zeroB 80)) zero80 ?_; simp only [Act.put, List.setIfInBounds_toArray, List.set_cons_zero, List.set_cons_succ]) | (refine wpList_buildStore 69 _ (.tmp 0) 1 (cellsB shaK) w.heap.size rfl rfl rfl rfl rfl rfl (by simp) (by kernel_rfl) rfl 69 _ hZ.out iR.out oR.out (one_cellsB _) ?_; simp only [Act.put, List.setIfInBounds_toArray, List.set_cons_zero, List.set_cons_succ]))
  refine bodyPost_ret (results_cell_row rfl _ _ w.heap.size 69 (cellsB shaK) (0, 0) _ rfl (heap_setRow _ _ _ _ _ hZ.out) u80 rfl iR.out) rfl ⟨rfl, below_setRow hb _ (Nat.le_refl _) _⟩
theorem rtable_any (w : World) : Calls Try.prog 50 #[] w fun e w' => e = .returned (.agg (cellsB shaK)) ∧ Below w.heap.size w w' := by
  have hZ := hid (ArrB.new 69 w (zeroB 80))
  have hb : Below w.heap.size w (w.alloc (.cells (cellsB (zeroB 80)) 69)) := (Below.refl _ _).alloc (Nat.le_refl _) _
  have iR := hid (show (Try.prog.info? 69).map (·.size) = some (cellsB shaK).size from by rw [size_cellsB]; exact i80)
  have oR := hid (show (cellsB (zeroB 80)).size = (cellsB shaK).size by rw [size_cellsB, size_cellsB]; rfl)
  go_enter Try.func50, Try.ntmps50
  go_wp2_with (first | (refine wpList_alloc_new rfl 69 rfl (cellsB (zeroB 80)) zero80 ?_; simp only [Act.put, List.setIfInBounds_toArray, List.set_cons_zero, List.set_cons_succ]) | (refine wpList_buildStore 69 _ (.tmp 0) 1 (cellsB shaK) w.heap.size rfl rfl rfl rfl rfl rfl (by simp) (by kernel_rfl) rfl 69 _ hZ.out iR.out oR.out (one_cellsB _) ?_; simp only [Act.put, List.setIfInBounds_toArray, List.set_cons_zero, List.set_cons_succ]))
  refine bodyPost_ret (results_cell_row rfl _ _ w.heap.size 69 (cellsB shaK) (0, 0) _ rfl (heap_setRow _ _ _ _ _ hZ.out) u80 rfl iR.out) rfl ⟨rfl, below_setRow hb _ (Nat.le_refl _) _⟩

theorem rotR_any (x : BitVec 64) (n : Nat) (h1 : 1 ≤ n) (h2 : n ≤ 63) (w : World) :
    Calls Try.prog 30 #[.int .u64 (iv x), .int .i64 (-(n : Int))] w fun e w' => e = .returned (.int .u64 (iv (rr x n))) ∧ Below w.heap.size w w' := by
  have := rot_any x (-(n : Int)) w
  rw [show ((-(n : Int)) % 64).toNat = 64 - n from by omega] at this
  exact this
theorem turned_any (x : BitVec 64) (a b c : Nat) (ha : 1 ≤ a) (ha' : a ≤ 63) (hb : 1 ≤ b) (hb' : b ≤ 63) (hc : 1 ≤ c) (hc' : c ≤ 63) (w : World) :
    Calls Try.prog 53 #[.int .u64 (iv x), .int .i64 a, .int .i64 b, .int .i64 c] w fun e w' => e = .returned (.int .u64 (iv (rr x a ^^^ rr x b ^^^ rr x c))) ∧ Below w.heap.size w w' := by
  go_enter Try.func53, Try.ntmps53
  go_wp2_with (go_at_call 30; (with_reducible refine (Calls.asExt (rotR_any _ _ (by assumption) (by assumption) _)).mono ?_); rintro _ _ ⟨rfl, _, rfl⟩)
  go_ret
  refine ⟨ret_int ?_, (by repeat (first | (with_reducible first | exact Below.refl _ _ | assumption | refine World.ext_below_of ?_ ?_ _ | refine Below.setCell ?_ ?_ _ | refine Below.alloc ?_ ?_ _ | refine Below.drew ?_ | refine World.size_le_ext _ _ _ ?_) | (solve | simp [go_sem] | (simp [go_sem]; omega) | omega)))⟩
  rw [iv_xor, iv_xor]
theorem right_spell (x : BitVec 64) (n : Nat) (h1 : 1 ≤ n) (h2 : n ≤ 63) : bits .or .u64 (iv x / 2 ^ n) (IntKind.u64.wrap (iv x * 2 ^ (64 - n))) = iv (rr x n) := by
  rw [iv_shl, iv_shr, iv_or]
  congr 1
  unfold rr
  rw [BitVec.rotateLeft_def, Nat.mod_eq_of_lt (by omega : 64 - n < 64), show 64 - (64 - n) = n by omega, BitVec.or_comm]
theorem right_any (x : BitVec 64) (n : Nat) (h1 : 1 ≤ n) (h2 : n ≤ 63) (w : World) :
    Calls Try.prog 51 #[.int .u64 (iv x), .int .i64 n] w fun e w' => e = .returned (.int .u64 (iv (rr x n))) ∧ Below w.heap.size w w' := by
  have hx := iv_nonneg x
  have HS := hid (right_spell x n h1 h2)
  have e1 : (64 - (n : Int)).toNat = 64 - n := by omega
  go_enter Try.func51, Try.ntmps51
  go_wp2
  go_ret
  refine ⟨ret_int ?_, (by repeat (first | (with_reducible first | exact Below.refl _ _ | assumption | refine World.ext_below_of ?_ ?_ _ | refine Below.setCell ?_ ?_ _ | refine Below.alloc ?_ ?_ _ | refine Below.drew ?_ | refine World.size_le_ext _ _ _ ?_) | (solve | simp [go_sem] | (simp [go_sem]; omega) | omega)))⟩
  exact HS.out
theorem u64_idx (l : List (BitVec 64)) (t : TypeId) (n : Nat) (hu : Try.prog.underlying t = some (.array n 22)) (hl : l.length = n) (i : Nat) (hi : i < n) (w : World) :
    (Instr.index t (.agg (cellsB l)) (.int .i64 (i : Int))).run Try.prog w = .ok (.int .u64 (iv (nb l i))) w := by
  have := run_index_ints (k' := .i64) (P := Try.prog) hu iU' cU' uU' (l.map iv) (by simpa using hl) (i : Int) (by omega) (by omega) w
  rw [show (cellsB l) = ((l.map iv).map (Value.int .u64)).toArray from by simp [cellsB]]
  rw [this, Int.toNat_natCast]
  simp [nb, List.getD_eq_getElem?_getD, show i < l.length from by omega]
theorem shaK_len : shaK.length = 80 := rfl
theorem shaH_len : shaH.length = 8 := rfl
theorem K_any (i : Nat) (hi : i < 80) (w : World) : Calls Try.prog 21 #[.int .i64 i] w fun e w' => e = .returned (.int .u64 (iv (nb shaK i))) ∧ Below w.heap.size w w' := by
  have hx := fun w => u64_idx shaK 69 80 u80 shaK_len i hi w
  have hr := hid (fun w => roots_any w)
  generalize shaK = l at hx hr ⊢
  go_enter Try.func21, Try.ntmps21
  go_wp2_with (go_at_call 39; (with_reducible refine (Calls.asExt (hr.out _)).mono ?_); rintro _ _ ⟨rfl, _, rfl⟩)
  go_ret
  exact ⟨rfl, (by repeat (first | (with_reducible first | exact Below.refl _ _ | assumption | refine World.ext_below_of ?_ ?_ _ | refine Below.setCell ?_ ?_ _ | refine Below.alloc ?_ ?_ _ | refine Below.drew ?_ | refine World.size_le_ext _ _ _ ?_) | (solve | simp [go_sem] | (simp [go_sem]; omega) | omega)))⟩
theorem K_out (i : Int) (hi : i < 0 ∨ 79 < i) (w : World) : Calls Try.prog 21 #[.int .i64 i] w fun e w' => e = .returned (.int .u64 0) ∧ Below w.heap.size w w' := by
  go_enter Try.func21, Try.ntmps21
  rcases hi with h | h
  · go_wp2
    go_ret
    exact ⟨rfl, (by repeat (first | (with_reducible first | exact Below.refl _ _ | assumption | refine World.ext_below_of ?_ ?_ _ | refine Below.setCell ?_ ?_ _ | refine Below.alloc ?_ ?_ _ | refine Below.drew ?_ | refine World.size_le_ext _ _ _ ?_) | (solve | simp [go_sem] | (simp [go_sem]; omega) | omega)))⟩
  · have h0 : ¬ i < 0 := by omega
    go_wp2
    go_ret
    exact ⟨rfl, (by repeat (first | (with_reducible first | exact Below.refl _ _ | assumption | refine World.ext_below_of ?_ ?_ _ | refine Below.setCell ?_ ?_ _ | refine Below.alloc ?_ ?_ _ | refine Below.drew ?_ | refine World.size_le_ext _ _ _ ?_) | (solve | simp [go_sem] | (simp [go_sem]; omega) | omega)))⟩
theorem H_any (i : Nat) (hi : i < 8) (w : World) : Calls Try.prog 22 #[.int .i64 i] w fun e w' => e = .returned (.int .u64 (iv (nb shaH i))) ∧ Below w.heap.size w w' := by
  have hx := fun w => u64_idx shaH 66 8 u8w shaH_len i hi w
  have hr := hid (fun w => squares_any w)
  generalize shaH = l at hx hr ⊢
  go_enter Try.func22, Try.ntmps22
  go_wp2_with (go_at_call 40; (with_reducible refine (Calls.asExt (hr.out _)).mono ?_); rintro _ _ ⟨rfl, _, rfl⟩)
  go_ret
  exact ⟨rfl, (by repeat (first | (with_reducible first | exact Below.refl _ _ | assumption | refine World.ext_below_of ?_ ?_ _ | refine Below.setCell ?_ ?_ _ | refine Below.alloc ?_ ?_ _ | refine Below.drew ?_ | refine World.size_le_ext _ _ _ ?_) | (solve | simp [go_sem] | (simp [go_sem]; omega) | omega)))⟩
theorem H_out (i : Int) (hi : i < 0 ∨ 7 < i) (w : World) : Calls Try.prog 22 #[.int .i64 i] w fun e w' => e = .returned (.int .u64 0) ∧ Below w.heap.size w w' := by
  go_enter Try.func22, Try.ntmps22
  rcases hi with h | h
  · go_wp2
    go_ret
    exact ⟨rfl, (by repeat (first | (with_reducible first | exact Below.refl _ _ | assumption | refine World.ext_below_of ?_ ?_ _ | refine Below.setCell ?_ ?_ _ | refine Below.alloc ?_ ?_ _ | refine Below.drew ?_ | refine World.size_le_ext _ _ _ ?_) | (solve | simp [go_sem] | (simp [go_sem]; omega) | omega)))⟩
  · have h0 : ¬ i < 0 := by omega
    go_wp2
    go_ret
    exact ⟨rfl, (by repeat (first | (with_reducible first | exact Below.refl _ _ | assumption | refine World.ext_below_of ?_ ?_ _ | refine Below.setCell ?_ ?_ _ | refine Below.alloc ?_ ?_ _ | refine Below.drew ?_ | refine World.size_le_ext _ _ _ ?_) | (solve | simp [go_sem] | (simp [go_sem]; omega) | omega)))⟩
end Go.Proofs.Ytmlaenfgfgloeaa
