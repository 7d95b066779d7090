import Derived.Test.YtfidbiabgmioaaaWordD
/-! word: shifts, bytes. -/
set_option maxRecDepth 4000
set_option linter.unusedVariables false
set_option linter.unusedSimpArgs false
namespace Go.Proofs.Ytfidbiabgmioaaa
open Go.RowKit

theorem shift_split (y r : Nat) (hr : r ≤ 64) : y / 2 ^ r % 2 ^ 64 = y % 2 ^ 64 / 2 ^ r + 2 ^ (64 - r) * (y / 2 ^ 64 % 2 ^ 64 % 2 ^ r) := by
  have e : (2 : Nat) ^ 64 = 2 ^ (64 - r) * 2 ^ r := by rw [← Nat.pow_add]; congr 1; omega
  have e1 : y / 2 ^ r % 2 ^ 64 = y / 2 ^ r % 2 ^ (64 - r) + 2 ^ (64 - r) * (y / 2 ^ r / 2 ^ (64 - r) % 2 ^ r) := by rw [e, Nat.mod_mul]
  have e2 : y % 2 ^ 64 / 2 ^ r = y / 2 ^ r % 2 ^ (64 - r) := by rw [e, Nat.mul_comm, Nat.mod_mul_right_div_self]
  have e3 : y / 2 ^ r / 2 ^ (64 - r) = y / 2 ^ 64 := by rw [Nat.div_div_eq_div_mul, ← Nat.pow_add]; congr 2; omega
  have e4 : y / 2 ^ 64 % 2 ^ 64 % 2 ^ r = y / 2 ^ 64 % 2 ^ r := Nat.mod_mod_of_dvd _ ⟨2 ^ (64 - r), by rw [← Nat.pow_add]; congr 1; omega⟩
  rw [e1, e2, e3, e4]
theorem shl_mod (z r : Nat) (hr : r ≤ 64) : z * 2 ^ (64 - r) % 2 ^ 64 = 2 ^ (64 - r) * (z % 2 ^ r) := by
  have e : (2 : Nat) ^ 64 = 2 ^ (64 - r) * 2 ^ r := by rw [← Nat.pow_add]; congr 1; omega
  rw [e, Nat.mul_comm z, Nat.mul_mod_mul_left]
/-- A limb of a number shifted down. -/
theorem lmN_shr (W k i : Nat) (hr : 0 < k % 64) : lmN (W / 2 ^ k) i = lmN W (i + k / 64) / 2 ^ (k % 64) ||| lmN W (i + k / 64 + 1) * 2 ^ (64 - k % 64) % 2 ^ 64 := by
  have e0 : W / 2 ^ k / 2 ^ (64 * i) = W / 2 ^ (64 * (i + k / 64)) / 2 ^ (k % 64) := by
    rw [Nat.div_div_eq_div_mul, Nat.div_div_eq_div_mul, ← Nat.pow_add, ← Nat.pow_add]; congr 2; omega
  have e1 : lmN W (i + k / 64 + 1) = W / 2 ^ (64 * (i + k / 64)) / 2 ^ 64 % 2 ^ 64 := by
    unfold lmN; rw [pow64_succ, Nat.div_div_eq_div_mul]
  have hlt : W / 2 ^ (64 * (i + k / 64)) % 2 ^ 64 / 2 ^ (k % 64) < 2 ^ (64 - k % 64) := by
    rw [Nat.div_lt_iff_lt_mul (Nat.pow_pos (by omega)), ← Nat.pow_add, show 64 - k % 64 + k % 64 = 64 by omega]
    exact Nat.mod_lt _ (by decide)
  unfold lmN at *
  rw [e0, shift_split _ _ (by omega), e1, shl_mod _ _ (by omega), Nat.mul_comm (2 ^ (64 - k % 64)), or_add _ _ _ hlt]
theorem lmN_shr0 (W k i : Nat) (hr : k % 64 = 0) : lmN (W / 2 ^ k) i = lmN W (i + k / 64) := by
  unfold lmN
  rw [Nat.div_div_eq_div_mul, ← Nat.pow_add]; congr 3; omega
theorem setL_twice (X i v u : Nat) (hX : X < 2 ^ (64 * i)) (hv : v < 2 ^ 64) : setL (setL X i v) i u = X + 2 ^ (64 * i) * u := by
  have h1 := setL_eq (setL X i v) i u
  rw [lmN_setL _ _ _ _ hv, if_pos rfl, setL_top X i v hX] at h1
  rw [setL_top X i v hX]; omega
theorem low_lt (x i : Nat) : x % 2 ^ (64 * i) < 2 ^ (64 * i) := Nat.mod_lt _ (Nat.pow_pos (by omega))
theorem ArrW.toM {t : TypeId} {w : World} {b x : Nat} (h : ArrW t w b x) : ArrM t 4 w b x := h
theorem zM9 : (Try.prog.info? 91).bind (·.zero) = some (.agg (cellsM 9 0)) := by kernel_rfl

set_option maxHeartbeats 2000000 in
theorem down_any (k x f W : Nat) (w : World) (hk : k ≤ 256) (hf : f < 2 ^ 64) (hW : cellsM 9 W = #[.int .u64 (lm x 0), .int .u64 (lm x 1), .int .u64 (lm x 2), .int .u64 (lm x 3), .int .u64 (f : Int), .int .u64 (f : Int), .int .u64 (f : Int), .int .u64 (f : Int), .int .u64 (f : Int)]) :
    Calls Try.prog 106 #[.int .i64 (k : Int), wd x, .int .u64 (f : Int)] w fun e w' => e = .returned (wd (W / 2 ^ k % 2 ^ 256)) ∧ Below w.heap.size w w' := by
  have HW := hid hW
  clear hW
  rw [show W / 2 ^ k % 2 ^ 256 = W / 2 ^ k % 2 ^ (64 * 4) from rfl]
  unfold wd
  have hA0 := hid (show ArrW 24 (((w.alloc (.cells (cellsW x) 24)).alloc (.cells (cellsW 0) 24)).alloc (.cells (cellsM 9 W) 91)) (w.heap.size + 1) 0 by
    have := ArrW.new 24 (w.alloc (.cells (cellsW x) 24)) 0
    rw [World.size_alloc] at this; exact this.alloc _)
  have hC0 := hid (show ArrM 91 9 (((w.alloc (.cells (cellsW x) 24)).alloc (.cells (cellsW 0) 24)).alloc (.cells (cellsM 9 W) 91)) (w.heap.size + 2) W by
    have := ArrM.new 91 9 ((w.alloc (.cells (cellsW x) 24)).alloc (.cells (cellsW 0) 24)) W
    rw [World.size_alloc, World.size_alloc] at this; exact this)
  have hb0 : Below w.heap.size w (((w.alloc (.cells (cellsW x) 24)).alloc (.cells (cellsW 0) 24)).alloc (.cells (cellsM 9 W) 91)) := (((Below.refl _ _).alloc (Nat.le_refl _) _).alloc (by simp) _).alloc (by simp; omega) _
  have q0 := cellsW_at x 0 (by omega)
  have q1 := cellsW_at x 1 (by omega)
  have q2 := cellsW_at x 2 (by omega)
  have q3 := cellsW_at x 3 (by omega)
  go_enter Try.func106, Try.ntmps106
  go_wp2_with (refine wpList_alloc_new rfl 24 rfl (cellsW 0) zWd ?_; simp only [Act.put, List.setIfInBounds_toArray, List.set_cons_zero, List.set_cons_succ])
  rw [← HW.out]
  simp only [World.size_alloc]
  generalize ((w.alloc (.cells (cellsW x) 24)).alloc (.cells (cellsW 0) 24)).alloc (.cells (cellsM 9 W) 91) = w1 at hA0 hC0 hb0 ⊢
  clear q0 q1 q2 q3 HW hf
  go_loopw [23] (fun iv wr => ∃ i : Nat, i ≤ 4 ∧ iv = .int .i64 i ∧ Hid (ArrM 24 4 wr (w.heap.size + 1) (W / 2 ^ k % 2 ^ (64 * i))) ∧ Hid (ArrM 91 9 wr (w.heap.size + 2) W) ∧ Below w.heap.size w wr)
    (fun iv _ => 4 - (intOf iv).toNat)
  case atStart => exact ⟨0, by omega, rfl, hid (by have := hA0.out.toM; rw [Nat.mul_zero, Nat.pow_zero, Nat.mod_one]; exact this), hC0, hb0⟩
  case round =>
    clear hA0 hC0 hb0
    obtain ⟨i, hi, rfl, hA, hC, hb⟩ := hrel
    by_cases hlt : i < 4
    · have c1 := hC.out.cell (i + k / 64) (by omega)
      have c2 := hA.out.cell i hlt
      have f1 := hA.out.free i
      have l1 := hA.out.lt
      have l2 := hC.out.lt
      have g0 := lmN_lt W (i + k / 64)
      have hX := low_lt (W / 2 ^ k) i
      have HS := hid (low_succ (W / 2 ^ k) i)
      by_cases hr : k % 64 = 0
      · have HO := hid (setL_top (W / 2 ^ k % 2 ^ (64 * i)) i (lmN W (i + k / 64)) hX)
        have H0 := hid (lmN_shr0 W k i hr)
        clear hX
        go_wp2
        go_roundw
        case rel =>
          refine ⟨i + 1, by omega, by go_num, hid ?_, hid (hC.out.other (by show w.heap.size + 2 ≠ w.heap.size + 1; omega) _), hb.setCell (p := ⟨w.heap.size + 1, i, none⟩) (by show w.heap.size ≤ w.heap.size + 1; omega) _⟩
          rw [HS.out, H0.out, ← HO.out]
          exact hA.out.set i _ g0
        case measure => simp [intOf]; omega
      · have c3 := hC.out.cell (i + k / 64 + 1) (by omega)
        have g3 := lmN_lt W (i + k / 64 + 1)
        have H0 := hid (lmN_shr W k i (by omega))
        have EN := hid (show ((lmN W (i + k / 64) / 2 ^ (k % 64) : Nat) : Int) = ((lmN W (i + k / 64) : Nat) : Int) / 2 ^ (k % 64) by rw [Int.natCast_ediv, Int.natCast_pow]; rfl)
        have hv1 : lmN W (i + k / 64) / 2 ^ (k % 64) < 2 ^ 64 := Nat.lt_of_le_of_lt (Nat.div_le_self _ _) g0
        obtain ⟨v1, hq⟩ : ∃ v1, v1 = lmN W (i + k / 64) / 2 ^ (k % 64) := ⟨_, rfl⟩
        rw [← hq] at EN hv1 H0
        have hV : bits .or .u64 (v1 : Int) (IntKind.u64.wrap (((lmN W (i + k / 64 + 1) : Nat) : Int) * 2 ^ (64 - k % 64))) = ((lmN (W / 2 ^ k) i : Nat) : Int) := by
          rw [H0.out, show ((lmN W (i + k / 64 + 1) : Nat) : Int) * 2 ^ (64 - k % 64) = ((lmN W (i + k / 64 + 1) * 2 ^ (64 - k % 64) : Nat) : Int) by rw [Int.natCast_mul, Int.natCast_pow]; rfl]
          rw [show IntKind.u64.wrap ((lmN W (i + k / 64 + 1) * 2 ^ (64 - k % 64) : Nat) : Int) = ((lmN W (i + k / 64 + 1) * 2 ^ (64 - k % 64) % 2 ^ 64 : Nat) : Int) by rw [IntKind.wrap_u64]; omega]
          exact u64_or_nat _ _ hv1 (Nat.mod_lt _ (by decide))
        have HV := hid hV
        have HT := hid (setL_twice (W / 2 ^ k % 2 ^ (64 * i)) i _ (lmN (W / 2 ^ k) i) hX hv1)
        have hA1 := hid (hA.out.set i _ hv1)
        have hC1 := hid (hC.out.other (a := ⟨w.heap.size + 1, i, none⟩) (by show w.heap.size + 2 ≠ w.heap.size + 1; omega) (.int .u64 (v1 : Int)))
        have hb1 := hb.setCell (p := ⟨w.heap.size + 1, i, none⟩) (by show w.heap.size ≤ w.heap.size + 1; omega) (.int .u64 (v1 : Int))
        have h64 : (64 - (k : Int) % 64).toNat = 64 - k % 64 := by omega
        clear hX hV hq H0
        go_wp2_with fail
        rw [← EN.out]
        clear c1 c2 c3 f1 l1 l2 hA hC hb
        generalize wr.setCell ⟨w.heap.size + 1, i, none⟩ (.int .u64 (v1 : Int)) = wr at hA1 hC1 hb1 ⊢
        have c2 := hA1.out.cell i hlt
        rw [lmN_setL _ _ _ _ hv1, if_pos rfl] at c2
        have c3 := hC1.out.cell (i + k / 64 + 1) (by omega)
        have f1 := hA1.out.free i
        have l1 := hA1.out.lt
        have l2 := hC1.out.lt
        (refine wp_region_ext_tail 16 (by kernel_rfl) (by kernel_rfl) ?_; simp only [List.take_succ_cons, List.take_zero, List.drop_succ_cons, List.drop_zero]; (repeat (go_big_quiet_step (first | fail))); refine wpQuiet_nil ?_; rintro _ ⟨xw, rfl⟩)
        go_wp2
        go_roundw
        case rel =>
          rw [HV.out]
          refine ⟨i + 1, by omega, by go_num, hid ?_, hid ((hC1.out.ext xw).other (by show w.heap.size + 2 ≠ w.heap.size + 1; omega) _), (World.ext_below_of hb1 hb1.size xw).setCell (p := ⟨w.heap.size + 1, i, none⟩) (by show w.heap.size ≤ w.heap.size + 1; omega) _⟩
          rw [HS.out, ← HT.out]
          exact (hA1.out.ext xw).set _ _ (lmN_lt _ _)
        case measure => simp [intOf]; omega
    · obtain rfl : i = 4 := by omega
      obtain ⟨y, hy⟩ : ∃ y, y = W / 2 ^ k % 2 ^ (64 * 4) := ⟨_, rfl⟩
      rw [← hy] at hA
      have HY := hid hy
      have hA' := hid hA.out.toW
      have iY := hid (iW y)
      have nY := hid (one_cellsW y)
      clear hy hA hC hlt hi
      go_wp2_with (first | (refine wpList_load_row rfl 24 (.tmp 6) rfl (w.heap.size + 1) rfl 24 _ (0, 0) _ hA'.out uWd rfl iY.out ?_; simp only [Act.put, List.setIfInBounds_toArray, List.set_cons_zero, List.set_cons_succ]) | (refine wpList_store_row rfl 24 (.tmp 6) (.tmp 57) rfl (w.heap.size + 1) _ rfl rfl 24 _ hA'.out iY.out rfl nY.out ?_; simp only [Act.put]))
      refine bodyPost_ret (results_cell_row rfl _ _ (w.heap.size + 1) 24 (cellsW y) (0, 0) _ rfl (heap_setRow' _ _ _ _ _ hA'.out) uWd rfl iY.out) rfl ⟨by rw [HY.out], below_setRow' hb _ (by omega) _⟩

theorem lmN_hi (x i : Nat) (h : x < 2 ^ (64 * i)) : lmN x i = 0 := by unfold lmN; rw [Nat.div_eq_of_lt h]
theorem wide0 (x : Nat) (h : x < 2 ^ 256) : cellsM 9 x = #[.int .u64 (lm x 0), .int .u64 (lm x 1), .int .u64 (lm x 2), .int .u64 (lm x 3), .int .u64 ((0 : Nat) : Int), .int .u64 ((0 : Nat) : Int), .int .u64 ((0 : Nat) : Int), .int .u64 ((0 : Nat) : Int), .int .u64 ((0 : Nat) : Int)] := by
  have e : ∀ i, 4 ≤ i → lmN x i = 0 := fun i hi => lmN_hi x i (Nat.lt_of_lt_of_le h (Nat.pow_le_pow_right (by omega) (by omega)))
  show (#[.int .u64 (lm x 0), .int .u64 (lm x 1), .int .u64 (lm x 2), .int .u64 (lm x 3), .int .u64 ((lmN x 4 : Nat) : Int), .int .u64 ((lmN x 5 : Nat) : Int), .int .u64 ((lmN x 6 : Nat) : Int), .int .u64 ((lmN x 7 : Nat) : Int), .int .u64 ((lmN x 8 : Nat) : Int)] : Array Value) = _
  rw [e 4 (by omega), e 5 (by omega), e 6 (by omega), e 7 (by omega), e 8 (by omega)]
def onesW : Nat := 2135987035920910082395021706169552114602704522356652769947041607822219725780640550022962086936575
theorem wide1 (x : Nat) (h : x < 2 ^ 256) : cellsM 9 (x + 2 ^ 256 * onesW) = #[.int .u64 (lm x 0), .int .u64 (lm x 1), .int .u64 (lm x 2), .int .u64 (lm x 3), .int .u64 ((18446744073709551615 : Nat) : Int), .int .u64 ((18446744073709551615 : Nat) : Int), .int .u64 ((18446744073709551615 : Nat) : Int), .int .u64 ((18446744073709551615 : Nat) : Int), .int .u64 ((18446744073709551615 : Nat) : Int)] := by
  have e : ∀ i, i < 4 → lmN (x + 2 ^ 256 * onesW) i = lmN x i := fun i hi => by
    unfold lmN
    rw [show (2 : Nat) ^ 256 * onesW = 2 ^ (64 * i) * (2 ^ 64 * (2 ^ (192 - 64 * i) * onesW)) by rw [← Nat.mul_assoc, ← Nat.mul_assoc, ← Nat.pow_add, ← Nat.pow_add, show 64 * i + 64 + (192 - 64 * i) = 256 by omega]]
    rw [Nat.add_mul_div_left _ _ (Nat.pow_pos (by omega)), Nat.add_mul_mod_self_left]
  have g : ∀ i, lmN (x + 2 ^ 256 * onesW) (4 + i) = lmN onesW i := fun i => by
    unfold lmN
    rw [Nat.mul_add, Nat.pow_add, ← Nat.div_div_eq_div_mul, show 2 ^ (64 * 4) = 2 ^ 256 from rfl, Nat.add_mul_div_left _ _ (by decide), Nat.div_eq_of_lt h, Nat.zero_add]
  show (#[.int .u64 ((lmN (x + 2 ^ 256 * onesW) 0 : Nat) : Int), .int .u64 ((lmN (x + 2 ^ 256 * onesW) 1 : Nat) : Int), .int .u64 ((lmN (x + 2 ^ 256 * onesW) 2 : Nat) : Int), .int .u64 ((lmN (x + 2 ^ 256 * onesW) 3 : Nat) : Int), .int .u64 ((lmN (x + 2 ^ 256 * onesW) (4 + 0) : Nat) : Int), .int .u64 ((lmN (x + 2 ^ 256 * onesW) (4 + 1) : Nat) : Int), .int .u64 ((lmN (x + 2 ^ 256 * onesW) (4 + 2) : Nat) : Int), .int .u64 ((lmN (x + 2 ^ 256 * onesW) (4 + 3) : Nat) : Int), .int .u64 ((lmN (x + 2 ^ 256 * onesW) (4 + 4) : Nat) : Int)] : Array Value) = _
  rw [e 0 (by omega), e 1 (by omega), e 2 (by omega), e 3 (by omega), g 0, g 1, g 2, g 3, g 4]
  rfl
theorem lmN_shl (x k i : Nat) : (i < k / 64 → lmN (x * 2 ^ k) i = 0) ∧ (i = k / 64 → lmN (x * 2 ^ k) i = lmN x 0 * 2 ^ (k % 64) % 2 ^ 64) ∧
    (k / 64 < i → lmN (x * 2 ^ k) i = if k % 64 = 0 then lmN x (i - k / 64) else lmN x (i - k / 64) * 2 ^ (k % 64) % 2 ^ 64 ||| lmN x (i - k / 64 - 1) / 2 ^ (64 - k % 64)) := by
  refine ⟨fun h => ?_, fun h => ?_, fun h => ?_⟩
  · unfold lmN
    rw [show x * 2 ^ k = 2 ^ (64 * i) * (2 ^ 64 * (x * 2 ^ (k - 64 * i - 64))) by
      rw [← Nat.mul_assoc, ← Nat.pow_add, Nat.mul_left_comm, ← Nat.pow_add]; congr 2; omega]
    rw [Nat.mul_div_cancel_left _ (Nat.pow_pos (by omega)), Nat.mul_mod_right]
  · unfold lmN
    rw [show x * 2 ^ k = 2 ^ (64 * i) * (x * 2 ^ (k % 64)) by rw [Nat.mul_left_comm, ← Nat.pow_add]; congr 2; omega]
    rw [Nat.mul_div_cancel_left _ (Nat.pow_pos (by omega)), Nat.mul_zero, Nat.pow_zero, Nat.div_one]
    conv => lhs; rw [Nat.mul_mod]
    conv => rhs; rw [Nat.mul_mod, Nat.mod_mod]
  · split
    · unfold lmN
      rw [show x * 2 ^ k = x * 2 ^ (64 * (k / 64)) by congr 2; omega, show 64 * i = 64 * (k / 64) + 64 * (i - k / 64) by omega, Nat.pow_add, ← Nat.div_div_eq_div_mul, Nat.mul_div_cancel _ (Nat.pow_pos (by omega))]
    · rename_i hr
      have e : x * 2 ^ k = x * 2 ^ (64 * (k / 64)) * 2 ^ (k % 64) := by rw [Nat.mul_assoc, ← Nat.pow_add]; congr 2; omega
      have e1 : x * 2 ^ k / 2 ^ (64 * i) = x / 2 ^ (64 * (i - k / 64 - 1)) / 2 ^ (64 - k % 64) := by
        rw [show x * 2 ^ k = 2 ^ k * x from Nat.mul_comm _ _, show 64 * i = k + (64 * (i - k / 64 - 1) + (64 - k % 64)) by omega, Nat.pow_add, ← Nat.div_div_eq_div_mul, Nat.mul_div_cancel_left _ (Nat.pow_pos (by omega)), Nat.pow_add, Nat.div_div_eq_div_mul]
      have e2 : x / 2 ^ (64 * (i - k / 64 - 1)) / 2 ^ 64 = x / 2 ^ (64 * (i - k / 64)) := by
        rw [Nat.div_div_eq_div_mul, ← Nat.pow_add]; congr 2; omega
      have hlt : x / 2 ^ (64 * (i - k / 64 - 1)) % 2 ^ 64 / 2 ^ (64 - k % 64) < 2 ^ (k % 64) := by
        rw [Nat.div_lt_iff_lt_mul (Nat.pow_pos (by omega)), ← Nat.pow_add, show k % 64 + (64 - k % 64) = 64 by omega]
        exact Nat.mod_lt _ (by decide)
      have e3 := shl_mod (x / 2 ^ (64 * (i - k / 64)) % 2 ^ 64) (64 - k % 64) (by omega)
      rw [show 64 - (64 - k % 64) = k % 64 by omega] at e3
      unfold lmN
      rw [e1, shift_split _ _ (by omega), e2, show 64 - (64 - k % 64) = k % 64 by omega, Nat.or_comm, ← e3]
      rw [e3, Nat.mul_comm (2 ^ (k % 64)), or_add _ _ _ hlt]

def ShlI (k x N : Nat) (w wr : World) (i : Nat) : Prop := ArrM 24 4 wr (N + 2) (x * 2 ^ k % 2 ^ (64 * i)) ∧ ArrW 24 wr (N + 1) x ∧ Below N w wr
theorem ShlI.skip {k x N i : Nat} {w wr : World} (h : ShlI k x N w wr i) (hz : lmN (x * 2 ^ k) i = 0) : ShlI k x N w wr (i + 1) := by
  refine ⟨?_, h.2⟩
  rw [low_succ, hz, Nat.mul_zero, Nat.add_zero]; exact h.1
theorem ShlI.set {k x N i v : Nat} {w wr : World} (h : ShlI k x N w wr i) (hz : lmN (x * 2 ^ k) i = v) : ShlI k x N w (wr.setCell ⟨N + 2, i, none⟩ (.int .u64 (v : Int))) (i + 1) := by
  refine ⟨?_, h.2.1.other (by show N + 1 ≠ N + 2; omega) _, h.2.2.setCell (p := ⟨N + 2, i, none⟩) (by show N ≤ N + 2; omega) _⟩
  rw [low_succ, ← setL_top _ _ _ (low_lt _ _), hz]
  exact h.1.set i v (by rw [← hz]; exact lmN_lt _ _)
theorem ShlI.ext {k x N i : Nat} {w wr : World} (h : ShlI k x N w wr i) (hN : N ≤ w.heap.size) (y : World) : ShlI k x N w (wr.ext y) i :=
  ⟨h.1.ext y, h.2.1.ext y, World.ext_below_of h.2.2 (Nat.le_trans hN h.2.2.size) y⟩
/-- The second store of a round. -/
theorem ShlI.set2 {k x N i u v : Nat} {w wr : World} (hN : N ≤ w.heap.size) (h : ShlI k x N w wr i) (hu : u < 2 ^ 64) (hz : lmN (x * 2 ^ k) i = v) (y : World) :
    ShlI k x N w (((wr.setCell ⟨N + 2, i, none⟩ (.int .u64 (u : Int))).ext y).setCell ⟨N + 2, i, none⟩ (.int .u64 (v : Int))) (i + 1) := by
  have hb : Below N w (wr.setCell ⟨N + 2, i, none⟩ (.int .u64 (u : Int))) := h.2.2.setCell (p := ⟨N + 2, i, none⟩) (by show N ≤ N + 2; omega) _
  refine ⟨?_, ((h.2.1.other (by show N + 1 ≠ N + 2; omega) _).ext y).other (by show N + 1 ≠ N + 2; omega) _, (World.ext_below_of hb (Nat.le_trans hN hb.size) y).setCell (p := ⟨N + 2, i, none⟩) (by show N ≤ N + 2; omega) _⟩
  rw [low_succ, ← setL_twice _ _ u _ (low_lt _ _) hu, hz]
  exact ((h.1.set i u hu).ext y).set i v (by rw [← hz]; exact lmN_lt _ _)

set_option maxHeartbeats 2000000 in
theorem wshl_any (n x : Nat) (w : World) (hn : n < 2 ^ 256) (hx : x < 2 ^ 256) : Calls Try.prog 30 #[wd n, wd x] w fun e w' => e = .returned (wd (x * 2 ^ upT n 256 % 2 ^ 256)) ∧ Below w.heap.size w w' := by
  have hU := hid (fun w => upto_any n 256 hn (by omega) w)
  have hk : upT n 256 ≤ 256 := by unfold upT; split <;> omega
  obtain ⟨k, hk2⟩ : ∃ k, k = upT n 256 := ⟨_, rfl⟩
  rw [← hk2] at hU hk ⊢
  clear hn hk2
  rw [show x * 2 ^ k % 2 ^ 256 = x * 2 ^ k % 2 ^ (64 * 4) from rfl]
  unfold wd at *
  have iN := hid (iW n)
  have hA0 := hid (show ArrW 24 (((w.alloc (.cells (cellsW n) 24)).alloc (.cells (cellsW x) 24)).alloc (.cells (cellsW 0) 24)) w.heap.size n from ((ArrW.new _ w n).alloc _).alloc _)
  have hB0 := hid (show ArrW 24 (((w.alloc (.cells (cellsW n) 24)).alloc (.cells (cellsW x) 24)).alloc (.cells (cellsW 0) 24)) (w.heap.size + 1) x by
    have := ArrW.new 24 (w.alloc (.cells (cellsW n) 24)) x
    rw [World.size_alloc] at this; exact this.alloc _)
  have hC0 := hid (show ArrW 24 (((w.alloc (.cells (cellsW n) 24)).alloc (.cells (cellsW x) 24)).alloc (.cells (cellsW 0) 24)) (w.heap.size + 2) 0 by
    have := ArrW.new 24 ((w.alloc (.cells (cellsW n) 24)).alloc (.cells (cellsW x) 24)) 0
    rw [World.size_alloc, World.size_alloc] at this; exact this)
  have hb0 : Below w.heap.size w (((w.alloc (.cells (cellsW n) 24)).alloc (.cells (cellsW x) 24)).alloc (.cells (cellsW 0) 24)) := (((Below.refl _ _).alloc (Nat.le_refl _) _).alloc (by simp) _).alloc (by simp; omega) _
  go_enter Try.func30, Try.ntmps30
  go_wp2_with (first | (refine wpList_alloc_new rfl 24 rfl (cellsW 0) zWd ?_; simp only [Act.put, List.setIfInBounds_toArray, List.set_cons_zero, List.set_cons_succ]) | (refine wpList_load_row rfl 24 (.tmp 2) rfl w.heap.size rfl 24 _ (0, 0) _ hA0.out uWd rfl iN.out ?_; simp only [Act.put, List.setIfInBounds_toArray, List.set_cons_zero, List.set_cons_succ]))
  refine (hU.out _).mono ?_
  rintro e w1 ⟨rfl, hb1⟩
  have hB1 := hB0.out.below hb1 hB0.out.lt
  have hC1 := hC0.out.below hb1 hC0.out.lt
  have hb2 := hb0.trans (hb1.mono hb0.size)
  have hI : Hid (ShlI k x w.heap.size w w1 0) := hid ⟨by rw [Nat.mul_zero, Nat.pow_zero, Nat.mod_one]; exact hC1.toM, hB1, hb2⟩
  clear hA0 hB0 hC0 hB1 hC1 hb0 hb1 hb2
  go_wp2
  go_loopw [10] (fun iv wr => ∃ i : Nat, i ≤ 4 ∧ iv = .int .i64 i ∧ Hid (ShlI k x w.heap.size w wr i))
    (fun iv _ => 4 - (intOf iv).toNat)
  case atStart => exact ⟨0, by omega, rfl, hI⟩
  case round =>
    clear hI
    obtain ⟨i, hi, rfl, hI⟩ := hrel
    obtain ⟨z1, z2, z3⟩ := lmN_shl x k i
    by_cases hlt : i < 4
    · have c2 := hI.out.1.cell i hlt
      have f1 := hI.out.1.free i
      have l1 := hI.out.1.lt
      have l2 := hI.out.2.1.lt
      rcases Nat.lt_trichotomy i (k / 64) with h | h | h
      · have HZ := hid (z1 h)
        clear z1 z2 z3
        have hneg : ¬ ((k : Int) / 64 ≤ (i : Int)) := by omega
        go_wp2
        go_roundw
        case rel => exact ⟨i + 1, by omega, by go_num, hid (hI.out.skip HZ.out)⟩
        case measure => simp [intOf]; omega
      · have HZ := hid (z2 h)
        clear z1 z2 z3
        have e0 : (i : Int) - (k : Int) / 64 = 0 := by omega
        have c1 := hI.out.2.1.cell 0 (by omega)
        have g1 := lmN_lt x 0
        have hV := hid (show IntKind.u64.wrap (lm x 0 * 2 ^ (k % 64)) = ((lmN x 0 * 2 ^ (k % 64) % 2 ^ 64 : Nat) : Int) by
          unfold lm
          rw [show ((lmN x 0 : Nat) : Int) * 2 ^ (k % 64) = ((lmN x 0 * 2 ^ (k % 64) : Nat) : Int) by rw [Int.natCast_mul, Int.natCast_pow]; rfl, IntKind.wrap_u64]; omega)
        clear h
        go_wp2
        go_roundw
        case rel =>
          rw [hV.out]
          exact ⟨i + 1, by omega, by go_num, hid (hI.out.set HZ.out)⟩
        case measure => simp [intOf]; omega
      · obtain ⟨m, hm⟩ : ∃ m, i = k / 64 + (m + 1) := ⟨i - k / 64 - 1, by omega⟩
        have HZ := z3 h
        rw [show i - k / 64 = m + 1 by omega, Nat.add_sub_cancel] at HZ
        have e0 : (i : Int) - (k : Int) / 64 = (m : Int) + 1 := by omega
        have hm3 : m + 1 < 4 := by omega
        have c1 := hI.out.2.1.cell (m + 1) hm3
        clear z1 z2 z3 hm h
        by_cases hr : k % 64 = 0
        · rw [if_pos hr] at HZ
          have HZ := hid HZ
          have g1 := lmN_lt x (m + 1)
          have hV := hid (show IntKind.u64.wrap (lm x (m + 1)) = ((lmN x (m + 1) : Nat) : Int) by unfold lm; rw [IntKind.wrap_u64]; omega)
          go_wp2
          go_roundw
          case rel =>
            rw [hV.out]
            exact ⟨i + 1, by omega, by go_num, hid (hI.out.set HZ.out)⟩
          case measure => simp [intOf]; omega
        · rw [if_neg hr] at HZ
          have HZ := hid HZ
          have c3 := hI.out.2.1.cell m (by omega)
          have g1 := lmN_lt x (m + 1)
          obtain ⟨u, hu⟩ : ∃ u, u = lmN x (m + 1) * 2 ^ (k % 64) % 2 ^ 64 := ⟨_, rfl⟩
          have hu2 : u < 2 ^ 64 := by rw [hu]; exact Nat.mod_lt _ (by decide)
          have hV := hid (show IntKind.u64.wrap (lm x (m + 1) * 2 ^ (k % 64)) = (u : Int) by
            unfold lm
            rw [hu, show ((lmN x (m + 1) : Nat) : Int) * 2 ^ (k % 64) = ((lmN x (m + 1) * 2 ^ (k % 64) : Nat) : Int) by rw [Int.natCast_mul, Int.natCast_pow]; rfl, IntKind.wrap_u64]; omega)
          have hV2 := hid (show bits .or .u64 (u : Int) (lm x m / 2 ^ (64 - k % 64)) = ((lmN (x * 2 ^ k) i : Nat) : Int) by
            rw [HZ.out, ← hu, ← u64_or_nat _ _ hu2 (Nat.lt_of_le_of_lt (Nat.div_le_self _ _) (lmN_lt x m)), Int.natCast_ediv, Int.natCast_pow]; rfl)
          have hx1 := hid (hI.out.1.set i u hu2)
          have hx2 := hid (hI.out.2.1.other (a := ⟨w.heap.size + 2, i, none⟩) (by show w.heap.size + 1 ≠ w.heap.size + 2; omega) (.int .u64 (u : Int)))
          have HI := hI
          have h64 : (64 - (k : Int) % 64).toNat = 64 - k % 64 := by omega
          clear hu HZ hI
          go_wp2_with fail
          rw [hV.out]
          clear c1 c2 c3 f1 l1 l2
          have hw := ShlI.set2 (Nat.le_refl _) HI.out hu2 rfl
          clear HI
          generalize wr.setCell ⟨w.heap.size + 2, i, none⟩ (.int .u64 (u : Int)) = wr at hx1 hx2 hw ⊢
          have HW := hid hw
          have c2 := hx1.out.cell i hlt
          rw [lmN_setL _ _ _ _ hu2, if_pos rfl] at c2
          have c3 := hx2.out.cell m (by omega)
          have f1 := hx1.out.free i
          have l1 := hx1.out.lt
          have l2 := hx2.out.lt
          clear hw
          (refine wp_region_ext_tail 13 (by kernel_rfl) (by kernel_rfl) ?_; simp only [List.take_succ_cons, List.take_zero, List.drop_succ_cons, List.drop_zero]; (repeat (go_big_quiet_step (first | fail))); refine wpQuiet_nil ?_; rintro _ ⟨xw, rfl⟩)
          go_wp2
          go_roundw
          case rel =>
            rw [hV2.out]
            exact ⟨i + 1, by omega, by go_num, hid (HW.out xw)⟩
          case measure => simp [intOf]; omega
    · obtain rfl : i = 4 := by omega
      obtain ⟨y, hy⟩ : ∃ y, y = x * 2 ^ k % 2 ^ (64 * 4) := ⟨_, rfl⟩
      have hA' := hid hI.out.1.toW
      have hb := hI.out.2.2
      rw [← hy] at hA'
      have HY := hid hy
      have iY := hid (iW y)
      have nY := hid (one_cellsW y)
      clear hy hI hlt hi z1 z2 z3
      go_wp2_with (first | (refine wpList_load_row rfl 24 (.tmp 4) rfl (w.heap.size + 2) rfl 24 _ (0, 0) _ hA'.out uWd rfl iY.out ?_; simp only [Act.put, List.setIfInBounds_toArray, List.set_cons_zero, List.set_cons_succ]) | (refine wpList_store_row rfl 24 (.tmp 4) (.tmp 48) rfl (w.heap.size + 2) _ rfl rfl 24 _ hA'.out iY.out rfl nY.out ?_; simp only [Act.put]))
      refine bodyPost_ret (results_cell_row rfl _ _ (w.heap.size + 2) 24 (cellsW y) (0, 0) _ rfl (heap_setRow' _ _ _ _ _ hA'.out) uWd rfl iY.out) rfl ⟨by rw [HY.out], below_setRow' hb _ (by omega) _⟩
end Go.Proofs.Ytfidbiabgmioaaa
