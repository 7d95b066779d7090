import Derived.Test.YtfidbiabgmioaaaWordM
import Derived.Laws.Cover3
import Derived.Laws.BitsAllLaws
/-! word: Mul, And, Or, Xor, Not, negative, size, signed, Cmp, Scmp. -/
set_option maxRecDepth 4000
set_option linter.unusedVariables false
set_option linter.unusedSimpArgs false
namespace Go.Proofs.Ytfidbiabgmioaaa
open Go.RowKit

theorem cellsW_mod (x : Nat) : cellsW (x % 2 ^ 256) = cellsW x := by
  have h : ∀ i, i < 4 → lmN (x % 2 ^ 256) i = lmN x i := fun i hi => by
    unfold lmN
    have e : (2 : Nat) ^ 256 = 2 ^ (64 * i) * 2 ^ (256 - 64 * i) := by rw [← Nat.pow_add]; congr 1; omega
    have e2 : (2 : Nat) ^ (256 - 64 * i) = 2 ^ 64 * 2 ^ (192 - 64 * i) := by rw [← Nat.pow_add]; congr 1; omega
    rw [e, Nat.mod_mul_right_div_self, e2, Nat.mod_mul_right_mod]
  unfold cellsW lm
  rw [h 0 (by omega), h 1 (by omega), h 2 (by omega), h 3 (by omega)]
theorem cellsM_part (x : Nat) : ∀ (j : Nat) (v : Value), (cellsW x)[j]? = some v → (cellsM 8 x)[0 + j]? = some v := by
  intro j v h
  have hj : j < 4 := by
    rcases Nat.lt_or_ge j 4 with h1 | h1
    · exact h1
    · rw [Array.getElem?_eq_none (by rw [size_cellsW]; exact h1)] at h; cases h
  rw [Nat.zero_add, cellsM_at 8 x j (by omega)]
  rw [cellsW_at x j hj] at h
  exact h
@[go_sem] theorem run_toArr (w : World) (a : Option Addr) (len cap : Nat) (h : 4 ≤ len) : (Instr.arrayAt 24 (.slice a len cap)).run Try.prog w = .ok (.pointer a) w := run_arrayAt _ _ _ _ _ _ _ uWd h

set_option maxHeartbeats 1000000 in
theorem wmul_any (a b : Nat) (w : World) (ha : a < 2 ^ 256) (hb : b < 2 ^ 256) : Calls Try.prog 40 #[wd a, wd b] w fun e w' => e = .returned (wd (a * b % 2 ^ 256)) ∧ Below w.heap.size w w' := by
  have hS := hid (fun w => wfull_any a b w ha hb)
  have iA := hid (iW a)
  have iB := hid (iW b)
  clear ha hb
  unfold wd at *
  rw [cellsW_mod]
  obtain ⟨s, hs⟩ : ∃ s, s = a * b := ⟨_, rfl⟩
  rw [← hs] at hS ⊢
  clear hs
  have iS := hid (iW s)
  have nS := hid (one_cellsW s)
  have iP := hid (iM8 s)
  have nP := hid (one_cellsM 8 s)
  have hA0 := hid (show ArrW 24 (((w.alloc (.cells (cellsW a) 24)).alloc (.cells (cellsW b) 24)).alloc (.cells (cellsW 0) 24)) w.heap.size a from ((ArrW.new _ w a).alloc _).alloc _)
  have hB0 := hid (show ArrW 24 (((w.alloc (.cells (cellsW a) 24)).alloc (.cells (cellsW b) 24)).alloc (.cells (cellsW 0) 24)) (w.heap.size + 1) b by
    have := ArrW.new 24 (w.alloc (.cells (cellsW a) 24)) b
    rw [World.size_alloc] at this; exact this.alloc _)
  have hC0 := hid (show ArrW 24 (((w.alloc (.cells (cellsW a) 24)).alloc (.cells (cellsW b) 24)).alloc (.cells (cellsW 0) 24)) (w.heap.size + 2) 0 by
    have := ArrW.new 24 ((w.alloc (.cells (cellsW a) 24)).alloc (.cells (cellsW b) 24)) 0
    rw [World.size_alloc, World.size_alloc] at this; exact this)
  have hb0 : Below w.heap.size w (((w.alloc (.cells (cellsW a) 24)).alloc (.cells (cellsW b) 24)).alloc (.cells (cellsW 0) 24)) := (((Below.refl _ _).alloc (Nat.le_refl _) _).alloc (by simp) _).alloc (by simp; omega) _
  go_enter Try.func40, Try.ntmps40
  go_wp2_with (first | (refine wpList_alloc_new rfl 24 rfl (cellsW 0) zWd ?_; simp only [Act.put, List.setIfInBounds_toArray, List.set_cons_zero, List.set_cons_succ]) | (refine wpList_load_row rfl 24 (.tmp 2) rfl w.heap.size rfl 24 _ (0, 0) _ hA0.out uWd rfl iA.out ?_; simp only [Act.put, List.setIfInBounds_toArray, List.set_cons_zero, List.set_cons_succ]) | (refine wpList_load_row rfl 24 (.tmp 3) rfl (w.heap.size + 1) rfl 24 _ (0, 0) _ hB0.out uWd rfl iB.out ?_; simp only [Act.put, List.setIfInBounds_toArray, List.set_cons_zero, List.set_cons_succ]))
  refine (hS.out _).mono ?_
  rintro e w1 ⟨rfl, hb1⟩
  have hC1 := hC0.out.below hb1 hC0.out.lt
  have hb2 := hb0.trans (hb1.mono hb0.size)
  have hC2 := hid (hC1.alloc (.cells (cellsM 8 s) 69))
  have hD2 := hid (ArrM.new 69 8 w1 s)
  have lD2 := hD2.out.lt
  have hb3 := hb2.alloc hb2.size (.cells (cellsM 8 s) 69)
  have HP := hid (cellsM_part s)
  clear hA0 hB0 hC0 hb0 hb1 hC1 iA iB
  go_wp2_with (first | (refine wpList_allocStore 69 8 5 (cellsM 8 s) (cellsM 8 0) rfl rfl rfl rfl rfl rfl (by decide) (by simp) rfl (by kernel_rfl) (by rw [size_cellsM, size_cellsM]) iP.out nP.out ?_; simp only [Act.put, List.setIfInBounds_toArray, List.set_cons_zero, List.set_cons_succ]) | (refine wpList_load_part rfl 24 (.tmp 10) rfl w1.heap.size 0 rfl 69 (cellsM 8 s) (cellsW s) (0, 0) _ hD2.out HP.out uWd rfl iS.out ?_; simp only [Act.put, List.setIfInBounds_toArray, List.set_cons_zero, List.set_cons_succ]) | (refine wpList_store_row rfl 24 (.tmp 4) (.tmp 11) rfl (w.heap.size + 2) _ rfl rfl 24 _ hC2.out iS.out rfl nS.out ?_; simp only [Act.put]))
  refine bodyPost_ret (results_cell_row rfl _ _ (w.heap.size + 2) 24 (cellsW s) (0, 0) _ rfl (heap_setRow' _ _ _ _ _ hC2.out) uWd rfl iS.out) rfl ⟨rfl, below_setRow' hb3 _ (by omega) _⟩

theorem heap_new_at (w : World) (o : Obj) (n : Nat) (h : n = w.heap.size) : (w.alloc o).heap[n]? = some o := by
  subst h
  show (w.heap.push _)[w.heap.size]? = _
  simp
theorem lmN_and (a b i : Nat) : lmN (a &&& b) i = lmN a i &&& lmN b i := by
  unfold lmN; rw [Nat.and_div_two_pow, Nat.and_mod_two_pow]
theorem lmN_or (a b i : Nat) : lmN (a ||| b) i = lmN a i ||| lmN b i := by
  unfold lmN; rw [Nat.or_div_two_pow, Nat.or_mod_two_pow]
theorem lmN_xor (a b i : Nat) : lmN (a ^^^ b) i = lmN a i ^^^ lmN b i := by
  unfold lmN; rw [Nat.xor_div_two_pow, Nat.xor_mod_two_pow]
theorem built4 (a b c d : Int) : Try.prog.built 24 [(0, .int .u64 a), (1, .int .u64 b), (2, .int .u64 c), (3, .int .u64 d)] = some #[.int .u64 a, .int .u64 b, .int .u64 c, .int .u64 d] := by kernel_rfl
theorem lm_and (a b i : Nat) : bits .and .u64 (lm a i) (lm b i) = lm (a &&& b) i := by
  unfold lm; rw [u64_and_nat _ _ (lmN_lt a i) (lmN_lt b i), lmN_and]
theorem lm_or (a b i : Nat) : bits .or .u64 (lm a i) (lm b i) = lm (a ||| b) i := by
  unfold lm; rw [u64_or_nat _ _ (lmN_lt a i) (lmN_lt b i), lmN_or]
theorem lm_xor (a b i : Nat) : bits .xor .u64 (lm a i) (lm b i) = lm (a ^^^ b) i := by
  unfold lm; rw [u64_xor_nat _ _ (lmN_lt a i) (lmN_lt b i), lmN_xor]
set_option maxHeartbeats 1000000 in
theorem wand_any (a b : Nat) (w : World) : Calls Try.prog 24 #[wd a, wd b] w fun e w' => e = .returned (wd (a &&& b)) ∧ Below w.heap.size w w' := by
  have e0 := lm_and a b 0
  have e1 := lm_and a b 1
  have e2 := lm_and a b 2
  have e3 := lm_and a b 3
  unfold wd cellsW
  go_enter Try.func24, Try.ntmps24
  go_wp2
  refine bodyPost_ret (results_cell_row rfl _ _ (w.heap.size + 1 + 1) 24 (cellsW (a &&& b)) (0, 0) _ rfl (heap_new_at _ _ _ (by simp only [World.size_alloc])) uWd rfl iWd) rfl ⟨rfl, (by repeat (first | (with_reducible first | exact Below.refl _ _ | assumption | refine World.ext_below_of ?_ ?_ _ | refine Below.setCell ?_ ?_ _ | refine Below.alloc ?_ ?_ _ | refine Below.drew ?_ | refine World.size_le_ext _ _ _ ?_) | (solve | simp [go_sem] | (simp [go_sem]; omega) | omega)))⟩
set_option maxHeartbeats 1000000 in
theorem wor_any (a b : Nat) (w : World) : Calls Try.prog 25 #[wd a, wd b] w fun e w' => e = .returned (wd (a ||| b)) ∧ Below w.heap.size w w' := by
  have e0 := lm_or a b 0
  have e1 := lm_or a b 1
  have e2 := lm_or a b 2
  have e3 := lm_or a b 3
  unfold wd cellsW
  go_enter Try.func25, Try.ntmps25
  go_wp2
  refine bodyPost_ret (results_cell_row rfl _ _ (w.heap.size + 1 + 1) 24 (cellsW (a ||| b)) (0, 0) _ rfl (heap_new_at _ _ _ (by simp only [World.size_alloc])) uWd rfl iWd) rfl ⟨rfl, (by repeat (first | (with_reducible first | exact Below.refl _ _ | assumption | refine World.ext_below_of ?_ ?_ _ | refine Below.setCell ?_ ?_ _ | refine Below.alloc ?_ ?_ _ | refine Below.drew ?_ | refine World.size_le_ext _ _ _ ?_) | (solve | simp [go_sem] | (simp [go_sem]; omega) | omega)))⟩
set_option maxHeartbeats 1000000 in
theorem wxor_any (a b : Nat) (w : World) : Calls Try.prog 26 #[wd a, wd b] w fun e w' => e = .returned (wd (a ^^^ b)) ∧ Below w.heap.size w w' := by
  have e0 := lm_xor a b 0
  have e1 := lm_xor a b 1
  have e2 := lm_xor a b 2
  have e3 := lm_xor a b 3
  unfold wd cellsW
  go_enter Try.func26, Try.ntmps26
  go_wp2
  refine bodyPost_ret (results_cell_row rfl _ _ (w.heap.size + 1 + 1) 24 (cellsW (a ^^^ b)) (0, 0) _ rfl (heap_new_at _ _ _ (by simp only [World.size_alloc])) uWd rfl iWd) rfl ⟨rfl, (by repeat (first | (with_reducible first | exact Below.refl _ _ | assumption | refine World.ext_below_of ?_ ?_ _ | refine Below.setCell ?_ ?_ _ | refine Below.alloc ?_ ?_ _ | refine Below.drew ?_ | refine World.size_le_ext _ _ _ ?_) | (solve | simp [go_sem] | (simp [go_sem]; omega) | omega)))⟩

/-- The other bits. -/
def notW (x : Nat) : Nat := 2 ^ 256 - 1 - x
theorem lmN_not (x i : Nat) (h : x < 2 ^ 256) (hi : i < 4) : lmN (notW x) i = 18446744073709551615 - lmN x i := by
  have h1 : notW x = mk4 (18446744073709551615 - lmN x 0) (18446744073709551615 - lmN x 1) (18446744073709551615 - lmN x 2) (18446744073709551615 - lmN x 3) := by
    have h2 := limbs_sum x h
    have l0 := lmN_lt x 0
    have l1 := lmN_lt x 1
    have l2 := lmN_lt x 2
    have l3 := lmN_lt x 3
    unfold notW mk4
    rw [show (2 : Nat) ^ 256 = 115792089237316195423570985008687907853269984665640564039457584007913129639936 from by decide]
    omega
  have h4 := lmN_mk4 (18446744073709551615 - lmN x 0) (18446744073709551615 - lmN x 1) (18446744073709551615 - lmN x 2) (18446744073709551615 - lmN x 3) (by omega) (by omega) (by omega) (by omega)
  rw [h1]
  have hc : i = 0 ∨ i = 1 ∨ i = 2 ∨ i = 3 := by omega
  rcases hc with rfl | rfl | rfl | rfl
  · exact h4.1
  · exact h4.2.1
  · exact h4.2.2.1
  · exact h4.2.2.2
theorem lm_not (x i : Nat) (h : x < 2 ^ 256) (hi : i < 4) : bits .xor .u64 IntKind.u64.max (lm x i) = lm (notW x) i := by
  have := lmN_lt x i
  unfold lm
  rw [lmN_not x i h hi, show IntKind.u64.max = ((2 ^ 64 - 1 : Nat) : Int) from rfl, u64_xor_nat _ _ (by decide) (lmN_lt x i)]
  congr 1
  rw [Nat.xor_comm]
  apply Nat.eq_of_testBit_eq
  intro j
  have e := Nat.testBit_two_pow_sub_succ (show lmN x i < 2 ^ 64 from lmN_lt x i) j
  rw [show 18446744073709551615 - lmN x i = 2 ^ 64 - (lmN x i + 1) by omega, e, Nat.testBit_xor, Nat.testBit_two_pow_sub_one]
  rcases Nat.lt_or_ge j 64 with hj | hj
  · simp [hj]
  · rw [Nat.testBit_lt_two_pow (Nat.lt_of_lt_of_le (lmN_lt x i) (show 2 ^ 64 ≤ 2 ^ j from Nat.pow_le_pow_right (by decide) hj))]
    simp [Nat.not_lt.2 hj]
set_option maxHeartbeats 1000000 in
theorem wnot_any (a : Nat) (w : World) (h : a < 2 ^ 256) : Calls Try.prog 27 #[wd a] w fun e w' => e = .returned (wd (notW a)) ∧ Below w.heap.size w w' := by
  have e0 := lm_not a 0 h (by omega)
  have e1 := lm_not a 1 h (by omega)
  have e2 := lm_not a 2 h (by omega)
  have e3 := lm_not a 3 h (by omega)
  clear h
  unfold wd cellsW
  go_enter Try.func27, Try.ntmps27
  go_wp2
  refine bodyPost_ret (results_cell_row rfl _ _ (w.heap.size + 1) 24 (cellsW (notW a)) (0, 0) _ rfl (heap_new_at _ _ _ (by simp only [World.size_alloc])) uWd rfl iWd) rfl ⟨rfl, (by repeat (first | (with_reducible first | exact Below.refl _ _ | assumption | refine World.ext_below_of ?_ ?_ _ | refine Below.setCell ?_ ?_ _ | refine Below.alloc ?_ ?_ _ | refine Below.drew ?_ | refine World.size_le_ext _ _ _ ?_) | (solve | simp [go_sem] | (simp [go_sem]; omega) | omega)))⟩
/-- Below 0, as a signed number? -/
def negW (x : Nat) : Bool := decide (2 ^ 255 ≤ x)
theorem lm_neg (x : Nat) (h : x < 2 ^ 256) : decide (lm x 3 / 9223372036854775808 = 1) = negW x := by
  unfold negW
  congr 1
  apply propext
  unfold lm
  have h2 := limbs_sum x h
  have l0 := lmN_lt x 0
  have l1 := lmN_lt x 1
  have l2 := lmN_lt x 2
  have l3 := lmN_lt x 3
  rw [show (2 : Nat) ^ 255 = 57896044618658097711785492504343953926634992332820282019728792003956564819968 from by decide]
  omega
theorem wneg_any (a : Nat) (w : World) (h : a < 2 ^ 256) : Calls Try.prog 107 #[wd a] w fun e w' => e = .returned (.bool (negW a)) ∧ Below w.heap.size w w' := by
  rw [← lm_neg a h]
  clear h
  unfold wd cellsW
  go_enter Try.func107, Try.ntmps107
  go_wp2
  go_ret
  exact ⟨rfl, (by repeat (first | (with_reducible first | exact Below.refl _ _ | assumption | refine World.ext_below_of ?_ ?_ _ | refine Below.setCell ?_ ?_ _ | refine Below.alloc ?_ ?_ _ | refine Below.drew ?_ | refine World.size_le_ext _ _ _ ?_) | (solve | simp [go_sem] | (simp [go_sem]; omega) | omega)))⟩

theorem cellsW_zero : cellsW 0 = #[.int .u64 0, .int .u64 0, .int .u64 0, .int .u64 0] := rfl
def sizeW (x : Nat) : Nat := if negW x = true then subW 0 x else x
def signW (x : Nat) (n : Bool) : Nat := if n = true then subW 0 x else x
theorem sizeW_lt (x : Nat) (h : x < 2 ^ 256) : sizeW x < 2 ^ 256 := by
  unfold sizeW; split
  · exact subW_lt _ _
  · exact h
theorem signW_lt (x : Nat) (n : Bool) (h : x < 2 ^ 256) : signW x n < 2 ^ 256 := by
  unfold signW; split
  · exact subW_lt _ _
  · exact h
theorem wsize_any (a : Nat) (w : World) (h : a < 2 ^ 256) : Calls Try.prog 117 #[wd a] w fun e w' => e = .returned (wd (sizeW a)) ∧ Below w.heap.size w w' := by
  have hN := hid (fun w => wneg_any a w h)
  have hS := hid (fun w => wsub_any 0 a w (by decide) h)
  have iA := hid (iW a)
  have nA := hid (one_cellsW a)
  clear h
  cases hn : negW a with
  | true =>
    rw [hn] at hN
    have HS := hid (show sizeW a = subW 0 a by unfold sizeW; rw [if_pos hn])
    have iS := hid (iW (subW 0 a))
    have nS := hid (one_cellsW (subW 0 a))
    unfold wd at *
    rw [cellsW_zero] at hS
    clear hn
    have hA0 := hid (show ArrW 24 ((w.alloc (.cells (cellsW a) 24)).alloc (.cells (cellsW 0) 24)) w.heap.size a from (ArrW.new _ w a).alloc _)
    have hC0 := hid (show ArrW 24 ((w.alloc (.cells (cellsW a) 24)).alloc (.cells (cellsW 0) 24)) (w.heap.size + 1) 0 by
      have := ArrW.new 24 (w.alloc (.cells (cellsW a) 24)) 0
      rw [World.size_alloc] at this; exact this)
    have hb0 : Below w.heap.size w ((w.alloc (.cells (cellsW a) 24)).alloc (.cells (cellsW 0) 24)) := ((Below.refl _ _).alloc (Nat.le_refl _) _).alloc (by simp) _
    go_enter Try.func117, Try.ntmps117
    go_wp2_with (first | (refine wpList_alloc_new rfl 24 rfl (cellsW 0) zWd ?_; simp only [Act.put, List.setIfInBounds_toArray, List.set_cons_zero, List.set_cons_succ]) | (refine wpList_load_row rfl 24 (.tmp 1) rfl w.heap.size rfl 24 _ (0, 0) _ hA0.out uWd rfl iA.out ?_; simp only [Act.put, List.setIfInBounds_toArray, List.set_cons_zero, List.set_cons_succ]))
    refine (hN.out _).mono ?_
    rintro e w1 ⟨rfl, hb1⟩
    have hA1 := hid (hA0.out.below hb1 hA0.out.lt)
    have hC1 := hid (hC0.out.below hb1 hC0.out.lt)
    have hb2 := hb0.trans (hb1.mono hb0.size)
    clear hA0 hC0 hb0 hb1
    go_wp2_with (first | (refine wpList_load_row rfl 24 (.tmp 1) rfl w.heap.size rfl 24 _ (0, 0) _ hA1.out uWd rfl iA.out ?_; simp only [Act.put, List.setIfInBounds_toArray, List.set_cons_zero, List.set_cons_succ]))
    refine (hS.out _).mono ?_
    rintro e w2 ⟨rfl, hb3⟩
    have hC2 := hid (hC1.out.below hb3 hC1.out.lt)
    have hb4 := hb2.trans (hb3.mono hb2.size)
    clear hA1 hC1 hb2 hb3
    go_wp2_with (first | (refine wpList_store_row rfl 24 (.tmp 2) (.tmp 7) rfl (w.heap.size + 1) _ rfl rfl 24 _ hC2.out iS.out rfl nS.out ?_; simp only [Act.put]))
    refine bodyPost_ret (results_cell_row rfl _ _ (w.heap.size + 1) 24 (cellsW (subW 0 a)) (0, 0) _ rfl (heap_setRow' _ _ _ _ _ hC2.out) uWd rfl iS.out) rfl ⟨by rw [HS.out], below_setRow' hb4 _ (by omega) _⟩
  | false =>
    rw [hn] at hN
    have HS := hid (show sizeW a = a by unfold sizeW; rw [if_neg (by rw [hn]; decide)])
    unfold wd at *
    clear hn hS
    have hA0 := hid (show ArrW 24 ((w.alloc (.cells (cellsW a) 24)).alloc (.cells (cellsW 0) 24)) w.heap.size a from (ArrW.new _ w a).alloc _)
    have hC0 := hid (show ArrW 24 ((w.alloc (.cells (cellsW a) 24)).alloc (.cells (cellsW 0) 24)) (w.heap.size + 1) 0 by
      have := ArrW.new 24 (w.alloc (.cells (cellsW a) 24)) 0
      rw [World.size_alloc] at this; exact this)
    have hb0 : Below w.heap.size w ((w.alloc (.cells (cellsW a) 24)).alloc (.cells (cellsW 0) 24)) := ((Below.refl _ _).alloc (Nat.le_refl _) _).alloc (by simp) _
    go_enter Try.func117, Try.ntmps117
    go_wp2_with (first | (refine wpList_alloc_new rfl 24 rfl (cellsW 0) zWd ?_; simp only [Act.put, List.setIfInBounds_toArray, List.set_cons_zero, List.set_cons_succ]) | (refine wpList_load_row rfl 24 (.tmp 1) rfl w.heap.size rfl 24 _ (0, 0) _ hA0.out uWd rfl iA.out ?_; simp only [Act.put, List.setIfInBounds_toArray, List.set_cons_zero, List.set_cons_succ]))
    refine (hN.out _).mono ?_
    rintro e w1 ⟨rfl, hb1⟩
    have hA1 := hid (hA0.out.below hb1 hA0.out.lt)
    have hC1 := hid (hC0.out.below hb1 hC0.out.lt)
    have hb2 := hb0.trans (hb1.mono hb0.size)
    clear hA0 hC0 hb0 hb1
    go_wp2_with (first | (refine wpList_load_row rfl 24 (.tmp 1) rfl w.heap.size rfl 24 _ (0, 0) _ hA1.out uWd rfl iA.out ?_; simp only [Act.put, List.setIfInBounds_toArray, List.set_cons_zero, List.set_cons_succ]) | (refine wpList_store_row rfl 24 (.tmp 2) (.tmp 8) rfl (w.heap.size + 1) _ rfl rfl 24 _ hC1.out iA.out rfl nA.out ?_; simp only [Act.put]))
    refine bodyPost_ret (results_cell_row rfl _ _ (w.heap.size + 1) 24 (cellsW a) (0, 0) _ rfl (heap_setRow' _ _ _ _ _ hC1.out) uWd rfl iA.out) rfl ⟨by rw [HS.out], below_setRow' hb2 _ (by omega) _⟩
theorem wsigned_any (a : Nat) (n : Bool) (w : World) (h : a < 2 ^ 256) : Calls Try.prog 116 #[wd a, .bool n] w fun e w' => e = .returned (wd (signW a n)) ∧ Below w.heap.size w w' := by
  have hS := hid (fun w => wsub_any 0 a w (by decide) h)
  have iA := hid (iW a)
  have nA := hid (one_cellsW a)
  clear h
  cases n with
  | true =>
    have HS := hid (show signW a true = subW 0 a from rfl)
    have iS := hid (iW (subW 0 a))
    have nS := hid (one_cellsW (subW 0 a))
    unfold wd at *
    rw [cellsW_zero] at hS
    have hA0 := hid (show ArrW 24 ((w.alloc (.cells (cellsW a) 24)).alloc (.cells (cellsW 0) 24)) w.heap.size a from (ArrW.new _ w a).alloc _)
    have hC0 := hid (show ArrW 24 ((w.alloc (.cells (cellsW a) 24)).alloc (.cells (cellsW 0) 24)) (w.heap.size + 1) 0 by
      have := ArrW.new 24 (w.alloc (.cells (cellsW a) 24)) 0
      rw [World.size_alloc] at this; exact this)
    have hb0 : Below w.heap.size w ((w.alloc (.cells (cellsW a) 24)).alloc (.cells (cellsW 0) 24)) := ((Below.refl _ _).alloc (Nat.le_refl _) _).alloc (by simp) _
    go_enter Try.func116, Try.ntmps116
    go_wp2_with (first | (refine wpList_alloc_new rfl 24 rfl (cellsW 0) zWd ?_; simp only [Act.put, List.setIfInBounds_toArray, List.set_cons_zero, List.set_cons_succ]) | (refine wpList_load_row rfl 24 (.tmp 2) rfl w.heap.size rfl 24 _ (0, 0) _ hA0.out uWd rfl iA.out ?_; simp only [Act.put, List.setIfInBounds_toArray, List.set_cons_zero, List.set_cons_succ]))
    refine (hS.out _).mono ?_
    rintro e w2 ⟨rfl, hb3⟩
    have hC2 := hid (hC0.out.below hb3 hC0.out.lt)
    have hb4 := hb0.trans (hb3.mono hb0.size)
    clear hA0 hC0 hb0 hb3
    go_wp2_with (first | (refine wpList_store_row rfl 24 (.tmp 4) (.tmp 8) rfl (w.heap.size + 1) _ rfl rfl 24 _ hC2.out iS.out rfl nS.out ?_; simp only [Act.put]))
    refine bodyPost_ret (results_cell_row rfl _ _ (w.heap.size + 1) 24 (cellsW (subW 0 a)) (0, 0) _ rfl (heap_setRow' _ _ _ _ _ hC2.out) uWd rfl iS.out) rfl ⟨by rw [HS.out], below_setRow' hb4 _ (by omega) _⟩
  | false =>
    have HS := hid (show signW a false = a from rfl)
    unfold wd at *
    clear hS
    have hA0 := hid (show ArrW 24 ((w.alloc (.cells (cellsW a) 24)).alloc (.cells (cellsW 0) 24)) w.heap.size a from (ArrW.new _ w a).alloc _)
    have hC0 := hid (show ArrW 24 ((w.alloc (.cells (cellsW a) 24)).alloc (.cells (cellsW 0) 24)) (w.heap.size + 1) 0 by
      have := ArrW.new 24 (w.alloc (.cells (cellsW a) 24)) 0
      rw [World.size_alloc] at this; exact this)
    have hb0 : Below w.heap.size w ((w.alloc (.cells (cellsW a) 24)).alloc (.cells (cellsW 0) 24)) := ((Below.refl _ _).alloc (Nat.le_refl _) _).alloc (by simp) _
    go_enter Try.func116, Try.ntmps116
    go_wp2_with (first | (refine wpList_alloc_new rfl 24 rfl (cellsW 0) zWd ?_; simp only [Act.put, List.setIfInBounds_toArray, List.set_cons_zero, List.set_cons_succ]) | (refine wpList_load_row rfl 24 (.tmp 2) rfl w.heap.size rfl 24 _ (0, 0) _ hA0.out uWd rfl iA.out ?_; simp only [Act.put, List.setIfInBounds_toArray, List.set_cons_zero, List.set_cons_succ]) | (refine wpList_store_row rfl 24 (.tmp 4) (.tmp 9) rfl _ _ rfl rfl 24 _ (ArrW.new _ _ 0) iA.out rfl nA.out ?_; simp only [Act.put]))
    simp only [World.size_alloc]
    refine bodyPost_ret (results_cell_row rfl _ _ (w.heap.size + 1) 24 (cellsW a) (0, 0) _ rfl (heap_setRow' _ _ _ _ _ hC0.out) uWd rfl iA.out) rfl ⟨by rw [HS.out], below_setRow' hb0 _ (by omega) _⟩

theorem div_succ (x i : Nat) : x / 2 ^ (64 * i) = x / 2 ^ (64 * (i + 1)) * 2 ^ 64 + lmN x i := by
  rw [pow64_succ, ← Nat.div_div_eq_div_mul]
  unfold lmN
  generalize x / 2 ^ (64 * i) = y
  omega
theorem cmp_hi (a b i : Nat) (h : a / 2 ^ (64 * (i + 1)) = b / 2 ^ (64 * (i + 1))) (hl : lmN a i < lmN b i) : a < b := by
  have h1 := div_succ a i
  have h2 := div_succ b i
  have : a / 2 ^ (64 * i) < b / 2 ^ (64 * i) := by omega
  exact Nat.lt_of_not_le fun hle => by have := Nat.div_le_div_right (c := 2 ^ (64 * i)) hle; omega
set_option maxHeartbeats 1000000 in
theorem wcmp_any (a b : Nat) (w : World) (ha : a < 2 ^ 256) (hb : b < 2 ^ 256) : Calls Try.prog 42 #[wd a, wd b] w fun e w' => e = .returned (.int .i64 (cmpI a b)) ∧ Below w.heap.size w w' := by
  have HD := hid (show a / 2 ^ (64 * 4) = b / 2 ^ (64 * 4) by rw [Nat.div_eq_of_lt ha, Nat.div_eq_of_lt hb])
  clear ha hb
  unfold wd
  have hA0 := hid (show ArrW 24 ((w.alloc (.cells (cellsW a) 24)).alloc (.cells (cellsW b) 24)) w.heap.size a from (ArrW.new _ w a).alloc _)
  have hB0 := hid (show ArrW 24 ((w.alloc (.cells (cellsW a) 24)).alloc (.cells (cellsW b) 24)) (w.heap.size + 1) b by
    have := ArrW.new 24 (w.alloc (.cells (cellsW a) 24)) b
    rw [World.size_alloc] at this; exact this)
  have hb0 : Below w.heap.size w ((w.alloc (.cells (cellsW a) 24)).alloc (.cells (cellsW b) 24)) := ((Below.refl _ _).alloc (Nat.le_refl _) _).alloc (by simp) _
  go_enter Try.func42, Try.ntmps42
  go_wp2_with fail
  generalize (w.alloc (.cells (cellsW a) 24)).alloc (.cells (cellsW b) 24) = w1 at hA0 hB0 hb0 ⊢
  go_loopw [5] (fun iv wr => ∃ i : Nat, i ≤ 4 ∧ iv = .int .i64 ((i : Int) - 1) ∧ Hid (a / 2 ^ (64 * i) = b / 2 ^ (64 * i)) ∧ Hid (ArrW 24 wr w.heap.size a) ∧ Hid (ArrW 24 wr (w.heap.size + 1) b) ∧ Below w.heap.size w wr)
    (fun iv _ => (intOf iv + 1).toNat)
  case atStart => exact ⟨4, by omega, rfl, HD, hA0, hB0, hb0⟩
  case round =>
    clear hA0 hB0 hb0
    obtain ⟨i, hi, rfl, hX, hA, hB, hb⟩ := hrel
    by_cases h0 : i = 0
    · subst h0
      have he : a = b := by simpa using hX.out
      have HE := hid (show cmpI a b = 0 from cmpI_eq he)
      clear he hX
      go_wp2
      go_ret
      exact ⟨by rw [HE.out]; rfl, hb⟩
    · obtain ⟨k, rfl⟩ : ∃ k, i = k + 1 := ⟨i - 1, by omega⟩
      have c1 := hA.out.cell k (by omega)
      have c2 := hB.out.cell k (by omega)
      have l1 := hA.out.lt
      have l2 := hB.out.lt
      have e1 : (((k + 1 : Nat) : Int) - 1) = (k : Int) := by omega
      rw [e1]
      clear e1 h0
      have hdec : (lm a k < lm b k ∧ Hid (cmpI a b = -1)) ∨ (lm b k < lm a k ∧ Hid (cmpI a b = 1)) ∨ (lm a k = lm b k ∧ Hid (a / 2 ^ (64 * k) = b / 2 ^ (64 * k))) := by
        unfold lm
        rcases Nat.lt_trichotomy (lmN a k) (lmN b k) with h | h | h
        · exact Or.inl ⟨by omega, hid (cmpI_lt (cmp_hi a b k hX.out h))⟩
        · exact Or.inr (Or.inr ⟨by omega, hid (by rw [div_succ a k, div_succ b k, hX.out, h])⟩)
        · exact Or.inr (Or.inl ⟨by omega, hid (cmpI_gt (cmp_hi b a k hX.out.symm h))⟩)
      clear hX
      rcases hdec with ⟨h, hc⟩ | ⟨h, hc⟩ | ⟨h, hc⟩
      · have h1 : ¬ lm b k ≤ lm a k := by omega
        go_wp2_with fail
        (refine wp_region_ext (by kernel_rfl) (by kernel_rfl) ?_; (repeat (go_big_quiet_step (first | fail))); refine wpQuiet_nil ?_; rintro _ ⟨xw, rfl⟩)
        go_wp2
        go_ret
        exact ⟨by rw [hc.out]; rfl, World.ext_below_of hb hb.size xw⟩
      · have h1 : ¬ lm a k < lm b k := by omega
        have h2 : ¬ lm a k ≤ lm b k := by omega
        go_wp2_with fail
        (refine wp_region_ext (by kernel_rfl) (by kernel_rfl) ?_; (repeat (go_big_quiet_step (first | fail))); refine wpQuiet_nil ?_; rintro _ ⟨xw, rfl⟩)
        go_wp2_with (refine wp_region_ext (by kernel_rfl) (by kernel_rfl) ?_; (repeat (go_big_quiet_step (first | fail))); refine wpQuiet_nil ?_; rintro _ ⟨xw, rfl⟩)
        go_ret
        exact ⟨by rw [hc.out]; rfl, (by repeat (first | (with_reducible first | exact Below.refl _ _ | assumption | refine World.ext_below_of ?_ ?_ _ | refine Below.setCell ?_ ?_ _ | refine Below.alloc ?_ ?_ _ | refine Below.drew ?_ | refine World.size_le_ext _ _ _ ?_) | (solve | simp [go_sem] | (simp [go_sem]; omega) | omega)))⟩
      · have h1 : ¬ lm a k < lm b k := by omega
        have h2 : ¬ lm b k < lm a k := by omega
        go_wp2_with (refine wp_region_ext (by kernel_rfl) (by kernel_rfl) ?_; (repeat (go_big_quiet_step (first | fail))); refine wpQuiet_nil ?_; rintro _ ⟨xw, rfl⟩)
        go_roundw
        case rel => exact ⟨k, by omega, rfl, hc, hid ((hA.out.ext _).ext _), hid ((hB.out.ext _).ext _), (by repeat (first | (with_reducible first | exact Below.refl _ _ | assumption | refine World.ext_below_of ?_ ?_ _ | refine Below.setCell ?_ ?_ _ | refine Below.alloc ?_ ?_ _ | refine Below.drew ?_ | refine World.size_le_ext _ _ _ ?_) | (solve | simp [go_sem] | (simp [go_sem]; omega) | omega)))⟩
        case measure => simp [intOf]

/-- The sign turned round: numbers in their order as signed ones. -/
def flipW (x : Nat) : Nat := (x + 2 ^ 255) % 2 ^ 256
theorem flipW_lt (x : Nat) : flipW x < 2 ^ 256 := Nat.mod_lt _ (Nat.pow_pos (by omega))
theorem flip_top (x : Nat) (h : x < 2 ^ 256) : flipW x = mk4 (lmN x 0) (lmN x 1) (lmN x 2) ((lmN x 3 + 2 ^ 63) % 2 ^ 64) := by
  have h2 := limbs_sum x h
  have l0 := lmN_lt x 0
  have l1 := lmN_lt x 1
  have l2 := lmN_lt x 2
  have l3 := lmN_lt x 3
  unfold flipW mk4
  rw [show (2 : Nat) ^ 256 = 115792089237316195423570985008687907853269984665640564039457584007913129639936 from by decide, show (2 : Nat) ^ 255 = 57896044618658097711785492504343953926634992332820282019728792003956564819968 from by decide]
  omega
theorem xor_small (x n : Nat) (h : x < 2 ^ n) : x ^^^ 2 ^ n = 2 ^ n + x := by
  apply Nat.eq_of_testBit_eq
  intro j
  rw [Nat.testBit_xor, Nat.testBit_two_pow]
  rcases Nat.lt_trichotomy j n with hj | hj | hj
  · rw [Nat.testBit_two_pow_add_gt hj, decide_eq_false (by omega)]; simp
  · subst hj
    rw [Nat.testBit_two_pow_add_eq, decide_eq_true rfl]; simp
  · have h1 : 2 ^ n + x < 2 ^ (n + 1) := by rw [Nat.pow_succ]; omega
    have h2 : 2 ^ (n + 1) ≤ 2 ^ j := Nat.pow_le_pow_right (by decide) hj
    rw [Nat.testBit_lt_two_pow (Nat.lt_of_lt_of_le h1 h2), Nat.testBit_lt_two_pow (show x < 2 ^ j by omega), decide_eq_false (by omega)]
    rfl
theorem xor_top (x : Nat) (h : x < 2 ^ 64) : x ^^^ 2 ^ 63 = (x + 2 ^ 63) % 2 ^ 64 := by
  rcases Nat.lt_or_ge x (2 ^ 63) with h1 | h1
  · rw [xor_small x 63 h1]; omega
  · obtain ⟨y, rfl⟩ : ∃ y, x = 2 ^ 63 + y := ⟨x - 2 ^ 63, by omega⟩
    rw [← xor_small y 63 (by omega), Nat.xor_assoc, Nat.xor_self, Nat.xor_zero, xor_small y 63 (by omega)]
    omega
theorem flip_set (x : Nat) (h : x < 2 ^ 256) : (cellsW x).setIfInBounds 3 (.int .u64 (bits .xor .u64 (lm x 3) 9223372036854775808)) = cellsW (flipW x) := by
  have l0 := lmN_lt x 0
  have l1 := lmN_lt x 1
  have l2 := lmN_lt x 2
  have l3 := lmN_lt x 3
  rw [flip_top x h, cellsW_mk4 _ _ _ _ l0 l1 l2 (Nat.mod_lt _ (by decide)), ← xor_top _ l3, ← u64_xor_nat _ _ l3 (by decide)]
  rfl
set_option maxHeartbeats 1000000 in
theorem wscmp_any (a b : Nat) (w : World) (ha : a < 2 ^ 256) (hb : b < 2 ^ 256) : Calls Try.prog 45 #[wd a, wd b] w fun e w' => e = .returned (.int .i64 (cmpI (flipW a) (flipW b))) ∧ Below w.heap.size w w' := by
  have hC := fun w => wcmp_any (flipW a) (flipW b) w (flipW_lt a) (flipW_lt b)
  unfold wd at hC
  rw [← flip_set a ha, ← flip_set b hb] at hC
  simp only [cellsW, List.setIfInBounds_toArray, List.set_cons_zero, List.set_cons_succ] at hC
  have HC := hid hC
  clear ha hb hC
  unfold wd cellsW
  go_enter Try.func45, Try.ntmps45
  go_wp2_with fail
  refine (HC.out _).mono ?_
  rintro e w1 ⟨rfl, hb3⟩
  go_wp2
  go_ret
  exact ⟨rfl, Below.trans (by repeat (first | (with_reducible first | exact Below.refl _ _ | assumption | refine World.ext_below_of ?_ ?_ _ | refine Below.setCell ?_ ?_ _ | refine Below.alloc ?_ ?_ _ | refine Below.drew ?_ | refine World.size_le_ext _ _ _ ?_) | (solve | simp [go_sem] | (simp [go_sem]; omega) | omega))) (hb3.mono (by simp only [World.size_alloc]; omega))⟩
end Go.Proofs.Ytfidbiabgmioaaa

/-! word: shifts, bytes. -/
namespace Go.Proofs.Ytfidbiabgmioaaa
open Go.RowKit

theorem shift_split (y r : Nat) (hr : r ≤ 64) : y / 2 ^ r % 2 ^ 64 = y % 2 ^ 64 / 2 ^ r + 2 ^ (64 - r) * (y / 2 ^ 64 % 2 ^ 64 % 2 ^ r) := by
  have e : (2 : Nat) ^ 64 = 2 ^ (64 - r) * 2 ^ r := by rw [← Nat.pow_add]; congr 1; omega
  have e1 : y / 2 ^ r % 2 ^ 64 = y / 2 ^ r % 2 ^ (64 - r) + 2 ^ (64 - r) * (y / 2 ^ r / 2 ^ (64 - r) % 2 ^ r) := by rw [e, Nat.mod_mul]
  have e2 : y % 2 ^ 64 / 2 ^ r = y / 2 ^ r % 2 ^ (64 - r) := by rw [e, Nat.mul_comm, Nat.mod_mul_right_div_self]
  have e3 : y / 2 ^ r / 2 ^ (64 - r) = y / 2 ^ 64 := by rw [Nat.div_div_eq_div_mul, ← Nat.pow_add]; congr 2; omega
  have e4 : y / 2 ^ 64 % 2 ^ 64 % 2 ^ r = y / 2 ^ 64 % 2 ^ r := Nat.mod_mod_of_dvd _ ⟨2 ^ (64 - r), by rw [← Nat.pow_add]; congr 1; omega⟩
  rw [e1, e2, e3, e4]
theorem shl_mod (z r : Nat) (hr : r ≤ 64) : z * 2 ^ (64 - r) % 2 ^ 64 = 2 ^ (64 - r) * (z % 2 ^ r) := by
  have e : (2 : Nat) ^ 64 = 2 ^ (64 - r) * 2 ^ r := by rw [← Nat.pow_add]; congr 1; omega
  rw [e, Nat.mul_comm z, Nat.mul_mod_mul_left]
/-- A limb of a number shifted down. -/
theorem lmN_shr (W k i : Nat) (hr : 0 < k % 64) : lmN (W / 2 ^ k) i = lmN W (i + k / 64) / 2 ^ (k % 64) ||| lmN W (i + k / 64 + 1) * 2 ^ (64 - k % 64) % 2 ^ 64 := by
  have e0 : W / 2 ^ k / 2 ^ (64 * i) = W / 2 ^ (64 * (i + k / 64)) / 2 ^ (k % 64) := by
    rw [Nat.div_div_eq_div_mul, Nat.div_div_eq_div_mul, ← Nat.pow_add, ← Nat.pow_add]; congr 2; omega
  have e1 : lmN W (i + k / 64 + 1) = W / 2 ^ (64 * (i + k / 64)) / 2 ^ 64 % 2 ^ 64 := by
    unfold lmN; rw [pow64_succ, Nat.div_div_eq_div_mul]
  have hlt : W / 2 ^ (64 * (i + k / 64)) % 2 ^ 64 / 2 ^ (k % 64) < 2 ^ (64 - k % 64) := by
    rw [Nat.div_lt_iff_lt_mul (Nat.pow_pos (by omega)), ← Nat.pow_add, show 64 - k % 64 + k % 64 = 64 by omega]
    exact Nat.mod_lt _ (by decide)
  unfold lmN at *
  rw [e0, shift_split _ _ (by omega), e1, shl_mod _ _ (by omega), Nat.mul_comm (2 ^ (64 - k % 64)), or_add _ _ _ hlt]
theorem lmN_shr0 (W k i : Nat) (hr : k % 64 = 0) : lmN (W / 2 ^ k) i = lmN W (i + k / 64) := by
  unfold lmN
  rw [Nat.div_div_eq_div_mul, ← Nat.pow_add]; congr 3; omega
theorem setL_twice (X i v u : Nat) (hX : X < 2 ^ (64 * i)) (hv : v < 2 ^ 64) : setL (setL X i v) i u = X + 2 ^ (64 * i) * u := by
  have h1 := setL_eq (setL X i v) i u
  rw [lmN_setL _ _ _ _ hv, if_pos rfl, setL_top X i v hX] at h1
  rw [setL_top X i v hX]; omega
theorem low_lt (x i : Nat) : x % 2 ^ (64 * i) < 2 ^ (64 * i) := Nat.mod_lt _ (Nat.pow_pos (by omega))
theorem ArrW.toM {t : TypeId} {w : World} {b x : Nat} (h : ArrW t w b x) : ArrM t 4 w b x := h
theorem zM9 : (Try.prog.info? 91).bind (·.zero) = some (.agg (cellsM 9 0)) := by kernel_rfl

set_option maxHeartbeats 2000000 in
theorem down_any (k x f W : Nat) (w : World) (hk : k ≤ 256) (hf : f < 2 ^ 64) (hW : cellsM 9 W = #[.int .u64 (lm x 0), .int .u64 (lm x 1), .int .u64 (lm x 2), .int .u64 (lm x 3), .int .u64 (f : Int), .int .u64 (f : Int), .int .u64 (f : Int), .int .u64 (f : Int), .int .u64 (f : Int)]) :
    Calls Try.prog 106 #[.int .i64 (k : Int), wd x, .int .u64 (f : Int)] w fun e w' => e = .returned (wd (W / 2 ^ k % 2 ^ 256)) ∧ Below w.heap.size w w' := by
  have HW := hid hW
  clear hW
  rw [show W / 2 ^ k % 2 ^ 256 = W / 2 ^ k % 2 ^ (64 * 4) from rfl]
  unfold wd
  have hA0 := hid (show ArrW 24 (((w.alloc (.cells (cellsW x) 24)).alloc (.cells (cellsW 0) 24)).alloc (.cells (cellsM 9 W) 91)) (w.heap.size + 1) 0 by
    have := ArrW.new 24 (w.alloc (.cells (cellsW x) 24)) 0
    rw [World.size_alloc] at this; exact this.alloc _)
  have hC0 := hid (show ArrM 91 9 (((w.alloc (.cells (cellsW x) 24)).alloc (.cells (cellsW 0) 24)).alloc (.cells (cellsM 9 W) 91)) (w.heap.size + 2) W by
    have := ArrM.new 91 9 ((w.alloc (.cells (cellsW x) 24)).alloc (.cells (cellsW 0) 24)) W
    rw [World.size_alloc, World.size_alloc] at this; exact this)
  have hb0 : Below w.heap.size w (((w.alloc (.cells (cellsW x) 24)).alloc (.cells (cellsW 0) 24)).alloc (.cells (cellsM 9 W) 91)) := (((Below.refl _ _).alloc (Nat.le_refl _) _).alloc (by simp) _).alloc (by simp; omega) _
  have q0 := cellsW_at x 0 (by omega)
  have q1 := cellsW_at x 1 (by omega)
  have q2 := cellsW_at x 2 (by omega)
  have q3 := cellsW_at x 3 (by omega)
  go_enter Try.func106, Try.ntmps106
  go_wp2_with (refine wpList_alloc_new rfl 24 rfl (cellsW 0) zWd ?_; simp only [Act.put, List.setIfInBounds_toArray, List.set_cons_zero, List.set_cons_succ])
  rw [← HW.out]
  simp only [World.size_alloc]
  generalize ((w.alloc (.cells (cellsW x) 24)).alloc (.cells (cellsW 0) 24)).alloc (.cells (cellsM 9 W) 91) = w1 at hA0 hC0 hb0 ⊢
  clear q0 q1 q2 q3 HW hf
  go_loopw [23] (fun iv wr => ∃ i : Nat, i ≤ 4 ∧ iv = .int .i64 i ∧ Hid (ArrM 24 4 wr (w.heap.size + 1) (W / 2 ^ k % 2 ^ (64 * i))) ∧ Hid (ArrM 91 9 wr (w.heap.size + 2) W) ∧ Below w.heap.size w wr)
    (fun iv _ => 4 - (intOf iv).toNat)
  case atStart => exact ⟨0, by omega, rfl, hid (by have := hA0.out.toM; rw [Nat.mul_zero, Nat.pow_zero, Nat.mod_one]; exact this), hC0, hb0⟩
  case round =>
    clear hA0 hC0 hb0
    obtain ⟨i, hi, rfl, hA, hC, hb⟩ := hrel
    by_cases hlt : i < 4
    · have c1 := hC.out.cell (i + k / 64) (by omega)
      have c2 := hA.out.cell i hlt
      have f1 := hA.out.free i
      have l1 := hA.out.lt
      have l2 := hC.out.lt
      have g0 := lmN_lt W (i + k / 64)
      have hX := low_lt (W / 2 ^ k) i
      have HS := hid (low_succ (W / 2 ^ k) i)
      by_cases hr : k % 64 = 0
      · have HO := hid (setL_top (W / 2 ^ k % 2 ^ (64 * i)) i (lmN W (i + k / 64)) hX)
        have H0 := hid (lmN_shr0 W k i hr)
        clear hX
        go_wp2
        go_roundw
        case rel =>
          refine ⟨i + 1, by omega, by go_num, hid ?_, hid (hC.out.other (by show w.heap.size + 2 ≠ w.heap.size + 1; omega) _), hb.setCell (p := ⟨w.heap.size + 1, i, none⟩) (by show w.heap.size ≤ w.heap.size + 1; omega) _⟩
          rw [HS.out, H0.out, ← HO.out]
          exact hA.out.set i _ g0
        case measure => simp [intOf]; omega
      · have c3 := hC.out.cell (i + k / 64 + 1) (by omega)
        have g3 := lmN_lt W (i + k / 64 + 1)
        have H0 := hid (lmN_shr W k i (by omega))
        have EN := hid (show ((lmN W (i + k / 64) / 2 ^ (k % 64) : Nat) : Int) = ((lmN W (i + k / 64) : Nat) : Int) / 2 ^ (k % 64) by rw [Int.natCast_ediv, Int.natCast_pow]; rfl)
        have hv1 : lmN W (i + k / 64) / 2 ^ (k % 64) < 2 ^ 64 := Nat.lt_of_le_of_lt (Nat.div_le_self _ _) g0
        obtain ⟨v1, hq⟩ : ∃ v1, v1 = lmN W (i + k / 64) / 2 ^ (k % 64) := ⟨_, rfl⟩
        rw [← hq] at EN hv1 H0
        have hV : bits .or .u64 (v1 : Int) (IntKind.u64.wrap (((lmN W (i + k / 64 + 1) : Nat) : Int) * 2 ^ (64 - k % 64))) = ((lmN (W / 2 ^ k) i : Nat) : Int) := by
          rw [H0.out, show ((lmN W (i + k / 64 + 1) : Nat) : Int) * 2 ^ (64 - k % 64) = ((lmN W (i + k / 64 + 1) * 2 ^ (64 - k % 64) : Nat) : Int) by rw [Int.natCast_mul, Int.natCast_pow]; rfl]
          rw [show IntKind.u64.wrap ((lmN W (i + k / 64 + 1) * 2 ^ (64 - k % 64) : Nat) : Int) = ((lmN W (i + k / 64 + 1) * 2 ^ (64 - k % 64) % 2 ^ 64 : Nat) : Int) by rw [IntKind.wrap_u64]; omega]
          exact u64_or_nat _ _ hv1 (Nat.mod_lt _ (by decide))
        have HV := hid hV
        have HT := hid (setL_twice (W / 2 ^ k % 2 ^ (64 * i)) i _ (lmN (W / 2 ^ k) i) hX hv1)
        have hA1 := hid (hA.out.set i _ hv1)
        have hC1 := hid (hC.out.other (a := ⟨w.heap.size + 1, i, none⟩) (by show w.heap.size + 2 ≠ w.heap.size + 1; omega) (.int .u64 (v1 : Int)))
        have hb1 := hb.setCell (p := ⟨w.heap.size + 1, i, none⟩) (by show w.heap.size ≤ w.heap.size + 1; omega) (.int .u64 (v1 : Int))
        have h64 : (64 - (k : Int) % 64).toNat = 64 - k % 64 := by omega
        clear hX hV hq H0
        go_wp2_with fail
        rw [← EN.out]
        clear c1 c2 c3 f1 l1 l2 hA hC hb
        generalize wr.setCell ⟨w.heap.size + 1, i, none⟩ (.int .u64 (v1 : Int)) = wr at hA1 hC1 hb1 ⊢
        have c2 := hA1.out.cell i hlt
        rw [lmN_setL _ _ _ _ hv1, if_pos rfl] at c2
        have c3 := hC1.out.cell (i + k / 64 + 1) (by omega)
        have f1 := hA1.out.free i
        have l1 := hA1.out.lt
        have l2 := hC1.out.lt
        (refine wp_region_ext_tail 16 (by kernel_rfl) (by kernel_rfl) ?_; simp only [List.take_succ_cons, List.take_zero, List.drop_succ_cons, List.drop_zero]; (repeat (go_big_quiet_step (first | fail))); refine wpQuiet_nil ?_; rintro _ ⟨xw, rfl⟩)
        go_wp2
        go_roundw
        case rel =>
          rw [HV.out]
          refine ⟨i + 1, by omega, by go_num, hid ?_, hid ((hC1.out.ext xw).other (by show w.heap.size + 2 ≠ w.heap.size + 1; omega) _), (World.ext_below_of hb1 hb1.size xw).setCell (p := ⟨w.heap.size + 1, i, none⟩) (by show w.heap.size ≤ w.heap.size + 1; omega) _⟩
          rw [HS.out, ← HT.out]
          exact (hA1.out.ext xw).set _ _ (lmN_lt _ _)
        case measure => simp [intOf]; omega
    · obtain rfl : i = 4 := by omega
      obtain ⟨y, hy⟩ : ∃ y, y = W / 2 ^ k % 2 ^ (64 * 4) := ⟨_, rfl⟩
      rw [← hy] at hA
      have HY := hid hy
      have hA' := hid hA.out.toW
      have iY := hid (iW y)
      have nY := hid (one_cellsW y)
      clear hy hA hC hlt hi
      go_wp2_with (first | (refine wpList_load_row rfl 24 (.tmp 6) rfl (w.heap.size + 1) rfl 24 _ (0, 0) _ hA'.out uWd rfl iY.out ?_; simp only [Act.put, List.setIfInBounds_toArray, List.set_cons_zero, List.set_cons_succ]) | (refine wpList_store_row rfl 24 (.tmp 6) (.tmp 57) rfl (w.heap.size + 1) _ rfl rfl 24 _ hA'.out iY.out rfl nY.out ?_; simp only [Act.put]))
      refine bodyPost_ret (results_cell_row rfl _ _ (w.heap.size + 1) 24 (cellsW y) (0, 0) _ rfl (heap_setRow' _ _ _ _ _ hA'.out) uWd rfl iY.out) rfl ⟨by rw [HY.out], below_setRow' hb _ (by omega) _⟩

theorem lmN_hi (x i : Nat) (h : x < 2 ^ (64 * i)) : lmN x i = 0 := by unfold lmN; rw [Nat.div_eq_of_lt h]
theorem wide0 (x : Nat) (h : x < 2 ^ 256) : cellsM 9 x = #[.int .u64 (lm x 0), .int .u64 (lm x 1), .int .u64 (lm x 2), .int .u64 (lm x 3), .int .u64 ((0 : Nat) : Int), .int .u64 ((0 : Nat) : Int), .int .u64 ((0 : Nat) : Int), .int .u64 ((0 : Nat) : Int), .int .u64 ((0 : Nat) : Int)] := by
  have e : ∀ i, 4 ≤ i → lmN x i = 0 := fun i hi => lmN_hi x i (Nat.lt_of_lt_of_le h (Nat.pow_le_pow_right (by omega) (by omega)))
  show (#[.int .u64 (lm x 0), .int .u64 (lm x 1), .int .u64 (lm x 2), .int .u64 (lm x 3), .int .u64 ((lmN x 4 : Nat) : Int), .int .u64 ((lmN x 5 : Nat) : Int), .int .u64 ((lmN x 6 : Nat) : Int), .int .u64 ((lmN x 7 : Nat) : Int), .int .u64 ((lmN x 8 : Nat) : Int)] : Array Value) = _
  rw [e 4 (by omega), e 5 (by omega), e 6 (by omega), e 7 (by omega), e 8 (by omega)]
def onesW : Nat := 2135987035920910082395021706169552114602704522356652769947041607822219725780640550022962086936575
theorem wide1 (x : Nat) (h : x < 2 ^ 256) : cellsM 9 (x + 2 ^ 256 * onesW) = #[.int .u64 (lm x 0), .int .u64 (lm x 1), .int .u64 (lm x 2), .int .u64 (lm x 3), .int .u64 ((18446744073709551615 : Nat) : Int), .int .u64 ((18446744073709551615 : Nat) : Int), .int .u64 ((18446744073709551615 : Nat) : Int), .int .u64 ((18446744073709551615 : Nat) : Int), .int .u64 ((18446744073709551615 : Nat) : Int)] := by
  have e : ∀ i, i < 4 → lmN (x + 2 ^ 256 * onesW) i = lmN x i := fun i hi => by
    unfold lmN
    rw [show (2 : Nat) ^ 256 * onesW = 2 ^ (64 * i) * (2 ^ 64 * (2 ^ (192 - 64 * i) * onesW)) by rw [← Nat.mul_assoc, ← Nat.mul_assoc, ← Nat.pow_add, ← Nat.pow_add, show 64 * i + 64 + (192 - 64 * i) = 256 by omega]]
    rw [Nat.add_mul_div_left _ _ (Nat.pow_pos (by omega)), Nat.add_mul_mod_self_left]
  have g : ∀ i, lmN (x + 2 ^ 256 * onesW) (4 + i) = lmN onesW i := fun i => by
    unfold lmN
    rw [Nat.mul_add, Nat.pow_add, ← Nat.div_div_eq_div_mul, show 2 ^ (64 * 4) = 2 ^ 256 from rfl, Nat.add_mul_div_left _ _ (by decide), Nat.div_eq_of_lt h, Nat.zero_add]
  show (#[.int .u64 ((lmN (x + 2 ^ 256 * onesW) 0 : Nat) : Int), .int .u64 ((lmN (x + 2 ^ 256 * onesW) 1 : Nat) : Int), .int .u64 ((lmN (x + 2 ^ 256 * onesW) 2 : Nat) : Int), .int .u64 ((lmN (x + 2 ^ 256 * onesW) 3 : Nat) : Int), .int .u64 ((lmN (x + 2 ^ 256 * onesW) (4 + 0) : Nat) : Int), .int .u64 ((lmN (x + 2 ^ 256 * onesW) (4 + 1) : Nat) : Int), .int .u64 ((lmN (x + 2 ^ 256 * onesW) (4 + 2) : Nat) : Int), .int .u64 ((lmN (x + 2 ^ 256 * onesW) (4 + 3) : Nat) : Int), .int .u64 ((lmN (x + 2 ^ 256 * onesW) (4 + 4) : Nat) : Int)] : Array Value) = _
  rw [e 0 (by omega), e 1 (by omega), e 2 (by omega), e 3 (by omega), g 0, g 1, g 2, g 3, g 4]
  rfl
theorem lmN_shl (x k i : Nat) : (i < k / 64 → lmN (x * 2 ^ k) i = 0) ∧ (i = k / 64 → lmN (x * 2 ^ k) i = lmN x 0 * 2 ^ (k % 64) % 2 ^ 64) ∧
    (k / 64 < i → lmN (x * 2 ^ k) i = if k % 64 = 0 then lmN x (i - k / 64) else lmN x (i - k / 64) * 2 ^ (k % 64) % 2 ^ 64 ||| lmN x (i - k / 64 - 1) / 2 ^ (64 - k % 64)) := by
  refine ⟨fun h => ?_, fun h => ?_, fun h => ?_⟩
  · unfold lmN
    rw [show x * 2 ^ k = 2 ^ (64 * i) * (2 ^ 64 * (x * 2 ^ (k - 64 * i - 64))) by
      rw [← Nat.mul_assoc, ← Nat.pow_add, Nat.mul_left_comm, ← Nat.pow_add]; congr 2; omega]
    rw [Nat.mul_div_cancel_left _ (Nat.pow_pos (by omega)), Nat.mul_mod_right]
  · unfold lmN
    rw [show x * 2 ^ k = 2 ^ (64 * i) * (x * 2 ^ (k % 64)) by rw [Nat.mul_left_comm, ← Nat.pow_add]; congr 2; omega]
    rw [Nat.mul_div_cancel_left _ (Nat.pow_pos (by omega)), Nat.mul_zero, Nat.pow_zero, Nat.div_one]
    conv => lhs; rw [Nat.mul_mod]
    conv => rhs; rw [Nat.mul_mod, Nat.mod_mod]
  · split
    · unfold lmN
      rw [show x * 2 ^ k = x * 2 ^ (64 * (k / 64)) by congr 2; omega, show 64 * i = 64 * (k / 64) + 64 * (i - k / 64) by omega, Nat.pow_add, ← Nat.div_div_eq_div_mul, Nat.mul_div_cancel _ (Nat.pow_pos (by omega))]
    · rename_i hr
      have e : x * 2 ^ k = x * 2 ^ (64 * (k / 64)) * 2 ^ (k % 64) := by rw [Nat.mul_assoc, ← Nat.pow_add]; congr 2; omega
      have e1 : x * 2 ^ k / 2 ^ (64 * i) = x / 2 ^ (64 * (i - k / 64 - 1)) / 2 ^ (64 - k % 64) := by
        rw [show x * 2 ^ k = 2 ^ k * x from Nat.mul_comm _ _, show 64 * i = k + (64 * (i - k / 64 - 1) + (64 - k % 64)) by omega, Nat.pow_add, ← Nat.div_div_eq_div_mul, Nat.mul_div_cancel_left _ (Nat.pow_pos (by omega)), Nat.pow_add, Nat.div_div_eq_div_mul]
      have e2 : x / 2 ^ (64 * (i - k / 64 - 1)) / 2 ^ 64 = x / 2 ^ (64 * (i - k / 64)) := by
        rw [Nat.div_div_eq_div_mul, ← Nat.pow_add]; congr 2; omega
      have hlt : x / 2 ^ (64 * (i - k / 64 - 1)) % 2 ^ 64 / 2 ^ (64 - k % 64) < 2 ^ (k % 64) := by
        rw [Nat.div_lt_iff_lt_mul (Nat.pow_pos (by omega)), ← Nat.pow_add, show k % 64 + (64 - k % 64) = 64 by omega]
        exact Nat.mod_lt _ (by decide)
      have e3 := shl_mod (x / 2 ^ (64 * (i - k / 64)) % 2 ^ 64) (64 - k % 64) (by omega)
      rw [show 64 - (64 - k % 64) = k % 64 by omega] at e3
      unfold lmN
      rw [e1, shift_split _ _ (by omega), e2, show 64 - (64 - k % 64) = k % 64 by omega, Nat.or_comm, ← e3]
      rw [e3, Nat.mul_comm (2 ^ (k % 64)), or_add _ _ _ hlt]

def ShlI (k x N : Nat) (w wr : World) (i : Nat) : Prop := ArrM 24 4 wr (N + 2) (x * 2 ^ k % 2 ^ (64 * i)) ∧ ArrW 24 wr (N + 1) x ∧ Below N w wr
theorem ShlI.skip {k x N i : Nat} {w wr : World} (h : ShlI k x N w wr i) (hz : lmN (x * 2 ^ k) i = 0) : ShlI k x N w wr (i + 1) := by
  refine ⟨?_, h.2⟩
  rw [low_succ, hz, Nat.mul_zero, Nat.add_zero]; exact h.1
theorem ShlI.set {k x N i v : Nat} {w wr : World} (h : ShlI k x N w wr i) (hz : lmN (x * 2 ^ k) i = v) : ShlI k x N w (wr.setCell ⟨N + 2, i, none⟩ (.int .u64 (v : Int))) (i + 1) := by
  refine ⟨?_, h.2.1.other (by show N + 1 ≠ N + 2; omega) _, h.2.2.setCell (p := ⟨N + 2, i, none⟩) (by show N ≤ N + 2; omega) _⟩
  rw [low_succ, ← setL_top _ _ _ (low_lt _ _), hz]
  exact h.1.set i v (by rw [← hz]; exact lmN_lt _ _)
theorem ShlI.ext {k x N i : Nat} {w wr : World} (h : ShlI k x N w wr i) (hN : N ≤ w.heap.size) (y : World) : ShlI k x N w (wr.ext y) i :=
  ⟨h.1.ext y, h.2.1.ext y, World.ext_below_of h.2.2 (Nat.le_trans hN h.2.2.size) y⟩
/-- The second store of a round. -/
theorem ShlI.set2 {k x N i u v : Nat} {w wr : World} (hN : N ≤ w.heap.size) (h : ShlI k x N w wr i) (hu : u < 2 ^ 64) (hz : lmN (x * 2 ^ k) i = v) (y : World) :
    ShlI k x N w (((wr.setCell ⟨N + 2, i, none⟩ (.int .u64 (u : Int))).ext y).setCell ⟨N + 2, i, none⟩ (.int .u64 (v : Int))) (i + 1) := by
  have hb : Below N w (wr.setCell ⟨N + 2, i, none⟩ (.int .u64 (u : Int))) := h.2.2.setCell (p := ⟨N + 2, i, none⟩) (by show N ≤ N + 2; omega) _
  refine ⟨?_, ((h.2.1.other (by show N + 1 ≠ N + 2; omega) _).ext y).other (by show N + 1 ≠ N + 2; omega) _, (World.ext_below_of hb (Nat.le_trans hN hb.size) y).setCell (p := ⟨N + 2, i, none⟩) (by show N ≤ N + 2; omega) _⟩
  rw [low_succ, ← setL_twice _ _ u _ (low_lt _ _) hu, hz]
  exact ((h.1.set i u hu).ext y).set i v (by rw [← hz]; exact lmN_lt _ _)

set_option maxHeartbeats 2000000 in
theorem wshl_any (n x : Nat) (w : World) (hn : n < 2 ^ 256) (hx : x < 2 ^ 256) : Calls Try.prog 30 #[wd n, wd x] w fun e w' => e = .returned (wd (x * 2 ^ upT n 256 % 2 ^ 256)) ∧ Below w.heap.size w w' := by
  have hU := hid (fun w => upto_any n 256 hn (by omega) w)
  have hk : upT n 256 ≤ 256 := by unfold upT; split <;> omega
  obtain ⟨k, hk2⟩ : ∃ k, k = upT n 256 := ⟨_, rfl⟩
  rw [← hk2] at hU hk ⊢
  clear hn hk2
  rw [show x * 2 ^ k % 2 ^ 256 = x * 2 ^ k % 2 ^ (64 * 4) from rfl]
  unfold wd at *
  have iN := hid (iW n)
  have hA0 := hid (show ArrW 24 (((w.alloc (.cells (cellsW n) 24)).alloc (.cells (cellsW x) 24)).alloc (.cells (cellsW 0) 24)) w.heap.size n from ((ArrW.new _ w n).alloc _).alloc _)
  have hB0 := hid (show ArrW 24 (((w.alloc (.cells (cellsW n) 24)).alloc (.cells (cellsW x) 24)).alloc (.cells (cellsW 0) 24)) (w.heap.size + 1) x by
    have := ArrW.new 24 (w.alloc (.cells (cellsW n) 24)) x
    rw [World.size_alloc] at this; exact this.alloc _)
  have hC0 := hid (show ArrW 24 (((w.alloc (.cells (cellsW n) 24)).alloc (.cells (cellsW x) 24)).alloc (.cells (cellsW 0) 24)) (w.heap.size + 2) 0 by
    have := ArrW.new 24 ((w.alloc (.cells (cellsW n) 24)).alloc (.cells (cellsW x) 24)) 0
    rw [World.size_alloc, World.size_alloc] at this; exact this)
  have hb0 : Below w.heap.size w (((w.alloc (.cells (cellsW n) 24)).alloc (.cells (cellsW x) 24)).alloc (.cells (cellsW 0) 24)) := (((Below.refl _ _).alloc (Nat.le_refl _) _).alloc (by simp) _).alloc (by simp; omega) _
  go_enter Try.func30, Try.ntmps30
  go_wp2_with (first | (refine wpList_alloc_new rfl 24 rfl (cellsW 0) zWd ?_; simp only [Act.put, List.setIfInBounds_toArray, List.set_cons_zero, List.set_cons_succ]) | (refine wpList_load_row rfl 24 (.tmp 2) rfl w.heap.size rfl 24 _ (0, 0) _ hA0.out uWd rfl iN.out ?_; simp only [Act.put, List.setIfInBounds_toArray, List.set_cons_zero, List.set_cons_succ]))
  refine (hU.out _).mono ?_
  rintro e w1 ⟨rfl, hb1⟩
  have hB1 := hB0.out.below hb1 hB0.out.lt
  have hC1 := hC0.out.below hb1 hC0.out.lt
  have hb2 := hb0.trans (hb1.mono hb0.size)
  have hI : Hid (ShlI k x w.heap.size w w1 0) := hid ⟨by rw [Nat.mul_zero, Nat.pow_zero, Nat.mod_one]; exact hC1.toM, hB1, hb2⟩
  clear hA0 hB0 hC0 hB1 hC1 hb0 hb1 hb2
  go_wp2
  go_loopw [10] (fun iv wr => ∃ i : Nat, i ≤ 4 ∧ iv = .int .i64 i ∧ Hid (ShlI k x w.heap.size w wr i))
    (fun iv _ => 4 - (intOf iv).toNat)
  case atStart => exact ⟨0, by omega, rfl, hI⟩
  case round =>
    clear hI
    obtain ⟨i, hi, rfl, hI⟩ := hrel
    obtain ⟨z1, z2, z3⟩ := lmN_shl x k i
    by_cases hlt : i < 4
    · have c2 := hI.out.1.cell i hlt
      have f1 := hI.out.1.free i
      have l1 := hI.out.1.lt
      have l2 := hI.out.2.1.lt
      rcases Nat.lt_trichotomy i (k / 64) with h | h | h
      · have HZ := hid (z1 h)
        clear z1 z2 z3
        have hneg : ¬ ((k : Int) / 64 ≤ (i : Int)) := by omega
        go_wp2
        go_roundw
        case rel => exact ⟨i + 1, by omega, by go_num, hid (hI.out.skip HZ.out)⟩
        case measure => simp [intOf]; omega
      · have HZ := hid (z2 h)
        clear z1 z2 z3
        have e0 : (i : Int) - (k : Int) / 64 = 0 := by omega
        have c1 := hI.out.2.1.cell 0 (by omega)
        have g1 := lmN_lt x 0
        have hV := hid (show IntKind.u64.wrap (lm x 0 * 2 ^ (k % 64)) = ((lmN x 0 * 2 ^ (k % 64) % 2 ^ 64 : Nat) : Int) by
          unfold lm
          rw [show ((lmN x 0 : Nat) : Int) * 2 ^ (k % 64) = ((lmN x 0 * 2 ^ (k % 64) : Nat) : Int) by rw [Int.natCast_mul, Int.natCast_pow]; rfl, IntKind.wrap_u64]; omega)
        clear h
        go_wp2
        go_roundw
        case rel =>
          rw [hV.out]
          exact ⟨i + 1, by omega, by go_num, hid (hI.out.set HZ.out)⟩
        case measure => simp [intOf]; omega
      · obtain ⟨m, hm⟩ : ∃ m, i = k / 64 + (m + 1) := ⟨i - k / 64 - 1, by omega⟩
        have HZ := z3 h
        rw [show i - k / 64 = m + 1 by omega, Nat.add_sub_cancel] at HZ
        have e0 : (i : Int) - (k : Int) / 64 = (m : Int) + 1 := by omega
        have hm3 : m + 1 < 4 := by omega
        have c1 := hI.out.2.1.cell (m + 1) hm3
        clear z1 z2 z3 hm h
        by_cases hr : k % 64 = 0
        · rw [if_pos hr] at HZ
          have HZ := hid HZ
          have g1 := lmN_lt x (m + 1)
          have hV := hid (show IntKind.u64.wrap (lm x (m + 1)) = ((lmN x (m + 1) : Nat) : Int) by unfold lm; rw [IntKind.wrap_u64]; omega)
          go_wp2
          go_roundw
          case rel =>
            rw [hV.out]
            exact ⟨i + 1, by omega, by go_num, hid (hI.out.set HZ.out)⟩
          case measure => simp [intOf]; omega
        · rw [if_neg hr] at HZ
          have HZ := hid HZ
          have c3 := hI.out.2.1.cell m (by omega)
          have g1 := lmN_lt x (m + 1)
          obtain ⟨u, hu⟩ : ∃ u, u = lmN x (m + 1) * 2 ^ (k % 64) % 2 ^ 64 := ⟨_, rfl⟩
          have hu2 : u < 2 ^ 64 := by rw [hu]; exact Nat.mod_lt _ (by decide)
          have hV := hid (show IntKind.u64.wrap (lm x (m + 1) * 2 ^ (k % 64)) = (u : Int) by
            unfold lm
            rw [hu, show ((lmN x (m + 1) : Nat) : Int) * 2 ^ (k % 64) = ((lmN x (m + 1) * 2 ^ (k % 64) : Nat) : Int) by rw [Int.natCast_mul, Int.natCast_pow]; rfl, IntKind.wrap_u64]; omega)
          have hV2 := hid (show bits .or .u64 (u : Int) (lm x m / 2 ^ (64 - k % 64)) = ((lmN (x * 2 ^ k) i : Nat) : Int) by
            rw [HZ.out, ← hu, ← u64_or_nat _ _ hu2 (Nat.lt_of_le_of_lt (Nat.div_le_self _ _) (lmN_lt x m)), Int.natCast_ediv, Int.natCast_pow]; rfl)
          have hx1 := hid (hI.out.1.set i u hu2)
          have hx2 := hid (hI.out.2.1.other (a := ⟨w.heap.size + 2, i, none⟩) (by show w.heap.size + 1 ≠ w.heap.size + 2; omega) (.int .u64 (u : Int)))
          have HI := hI
          have h64 : (64 - (k : Int) % 64).toNat = 64 - k % 64 := by omega
          clear hu HZ hI
          go_wp2_with fail
          rw [hV.out]
          clear c1 c2 c3 f1 l1 l2
          have hw := ShlI.set2 (Nat.le_refl _) HI.out hu2 rfl
          clear HI
          generalize wr.setCell ⟨w.heap.size + 2, i, none⟩ (.int .u64 (u : Int)) = wr at hx1 hx2 hw ⊢
          have HW := hid hw
          have c2 := hx1.out.cell i hlt
          rw [lmN_setL _ _ _ _ hu2, if_pos rfl] at c2
          have c3 := hx2.out.cell m (by omega)
          have f1 := hx1.out.free i
          have l1 := hx1.out.lt
          have l2 := hx2.out.lt
          clear hw
          (refine wp_region_ext_tail 13 (by kernel_rfl) (by kernel_rfl) ?_; simp only [List.take_succ_cons, List.take_zero, List.drop_succ_cons, List.drop_zero]; (repeat (go_big_quiet_step (first | fail))); refine wpQuiet_nil ?_; rintro _ ⟨xw, rfl⟩)
          go_wp2
          go_roundw
          case rel =>
            rw [hV2.out]
            exact ⟨i + 1, by omega, by go_num, hid (HW.out xw)⟩
          case measure => simp [intOf]; omega
    · obtain rfl : i = 4 := by omega
      obtain ⟨y, hy⟩ : ∃ y, y = x * 2 ^ k % 2 ^ (64 * 4) := ⟨_, rfl⟩
      have hA' := hid hI.out.1.toW
      have hb := hI.out.2.2
      rw [← hy] at hA'
      have HY := hid hy
      have iY := hid (iW y)
      have nY := hid (one_cellsW y)
      clear hy hI hlt hi z1 z2 z3
      go_wp2_with (first | (refine wpList_load_row rfl 24 (.tmp 4) rfl (w.heap.size + 2) rfl 24 _ (0, 0) _ hA'.out uWd rfl iY.out ?_; simp only [Act.put, List.setIfInBounds_toArray, List.set_cons_zero, List.set_cons_succ]) | (refine wpList_store_row rfl 24 (.tmp 4) (.tmp 48) rfl (w.heap.size + 2) _ rfl rfl 24 _ hA'.out iY.out rfl nY.out ?_; simp only [Act.put]))
      refine bodyPost_ret (results_cell_row rfl _ _ (w.heap.size + 2) 24 (cellsW y) (0, 0) _ rfl (heap_setRow' _ _ _ _ _ hA'.out) uWd rfl iY.out) rfl ⟨by rw [HY.out], below_setRow' hb _ (by omega) _⟩
end Go.Proofs.Ytfidbiabgmioaaa

/-! word: Shr, Sar, Signext, Byte, Exp, Len, Bytes, Short, Read. -/
namespace Go.Proofs.Ytfidbiabgmioaaa
open Go.RowKit

theorem upT_le (n m : Nat) : upT n m ≤ m := by unfold upT; split <;> omega
set_option maxHeartbeats 1000000 in
theorem wshr_any (n x : Nat) (w : World) (hn : n < 2 ^ 256) (hx : x < 2 ^ 256) : Calls Try.prog 32 #[wd n, wd x] w fun e w' => e = .returned (wd (x / 2 ^ upT n 256)) ∧ Below w.heap.size w w' := by
  have hU := hid (fun w => upto_any n 256 hn (by omega) w)
  have hk := upT_le n 256
  obtain ⟨k, hk2⟩ : ∃ k, k = upT n 256 := ⟨_, rfl⟩
  rw [← hk2] at hU hk ⊢
  have hD := hid (fun w => down_any k x 0 x w hk (by omega) (wide0 x hx))
  have hlt : x / 2 ^ k < 2 ^ 256 := Nat.lt_of_le_of_lt (Nat.div_le_self _ _) hx
  rw [Nat.mod_eq_of_lt hlt] at hD
  clear hn hk2 hx hlt hk
  obtain ⟨y, hy⟩ : ∃ y, y = x / 2 ^ k := ⟨_, rfl⟩
  rw [← hy] at hD ⊢
  clear hy
  unfold wd at *
  have iN := hid (iW n)
  have iX := hid (iW x)
  have iY := hid (iW y)
  have nY := hid (one_cellsW y)
  have hA0 := hid (show ArrW 24 (((w.alloc (.cells (cellsW n) 24)).alloc (.cells (cellsW x) 24)).alloc (.cells (cellsW 0) 24)) w.heap.size n from ((ArrW.new _ w n).alloc _).alloc _)
  have hB0 := hid (show ArrW 24 (((w.alloc (.cells (cellsW n) 24)).alloc (.cells (cellsW x) 24)).alloc (.cells (cellsW 0) 24)) (w.heap.size + 1) x by
    have := ArrW.new 24 (w.alloc (.cells (cellsW n) 24)) x
    rw [World.size_alloc] at this; exact this.alloc _)
  have hC0 := hid (show ArrW 24 (((w.alloc (.cells (cellsW n) 24)).alloc (.cells (cellsW x) 24)).alloc (.cells (cellsW 0) 24)) (w.heap.size + 2) 0 by
    have := ArrW.new 24 ((w.alloc (.cells (cellsW n) 24)).alloc (.cells (cellsW x) 24)) 0
    rw [World.size_alloc, World.size_alloc] at this; exact this)
  have hb0 : Below w.heap.size w (((w.alloc (.cells (cellsW n) 24)).alloc (.cells (cellsW x) 24)).alloc (.cells (cellsW 0) 24)) := (((Below.refl _ _).alloc (Nat.le_refl _) _).alloc (by simp) _).alloc (by simp; omega) _
  go_enter Try.func32, Try.ntmps32
  go_wp2_with (refine wpList_alloc_new rfl 24 rfl (cellsW 0) zWd ?_; simp only [Act.put, List.setIfInBounds_toArray, List.set_cons_zero, List.set_cons_succ])
  ((try simp only [World.size_alloc]); refine wp_region_ext_tail 4 (by kernel_rfl) (by kernel_rfl) ?_; simp only [List.take_succ_cons, List.take_zero, List.drop_succ_cons, List.drop_zero]; (repeat (first | (refine wpQuiet_load_part rfl 24 (.tmp 2) rfl w.heap.size 0 rfl 24 _ (cellsW _) (0, 0) _ hA0.out (fun j v h => by rw [Nat.zero_add]; exact h) uWd rfl iN.out ?_; simp only [Act.put, List.setIfInBounds_toArray, List.set_cons_zero, List.set_cons_succ]) | (refine wpQuiet_load_part rfl 24 (.tmp 3) rfl (w.heap.size + 1) 0 rfl 24 _ (cellsW _) (0, 0) _ hB0.out (fun j v h => by rw [Nat.zero_add]; exact h) uWd rfl iX.out ?_; simp only [Act.put, List.setIfInBounds_toArray, List.set_cons_zero, List.set_cons_succ]) | go_big_quiet_step (first | (go_at_call 102; with_reducible refine Calls.ext_of (hU.out _)) | (go_at_call 106; with_reducible refine Calls.ext_of (hD.out _))))); refine wpQuiet_nil ?_; rintro _ ⟨xw, rfl⟩)
  go_wp2_with (refine wpList_store_row rfl 24 (.tmp 4) (.tmp 8) rfl (w.heap.size + 2) _ rfl rfl 24 _ (hC0.out.ext _) iY.out rfl nY.out ?_; simp only [Act.put])
  refine bodyPost_ret (results_cell_row rfl _ _ (w.heap.size + 2) 24 (cellsW y) (0, 0) _ rfl (heap_setRow' _ _ _ _ _ (hC0.out.ext _)) uWd rfl iY.out) rfl ⟨rfl, below_setRow' (World.ext_below_of hb0 hb0.size _) _ (by omega) _⟩

/-- Shifted down, with the sign coming in. -/
def sarW (x k : Nat) : Nat := if negW x = true then (x + 2 ^ 256 * onesW) / 2 ^ k % 2 ^ 256 else x / 2 ^ k
theorem sarW_lt (x k : Nat) (h : x < 2 ^ 256) : sarW x k < 2 ^ 256 := by
  unfold sarW; split
  · exact Nat.mod_lt _ (by decide)
  · exact Nat.lt_of_le_of_lt (Nat.div_le_self _ _) h
set_option maxHeartbeats 1000000 in
theorem wsar_any (n x : Nat) (w : World) (hn : n < 2 ^ 256) (hx : x < 2 ^ 256) : Calls Try.prog 34 #[wd n, wd x] w fun e w' => e = .returned (wd (sarW x (upT n 256))) ∧ Below w.heap.size w w' := by
  have hU := hid (fun w => upto_any n 256 hn (by omega) w)
  have hN := hid (fun w => wneg_any x w hx)
  have hk := upT_le n 256
  obtain ⟨k, hk2⟩ : ∃ k, k = upT n 256 := ⟨_, rfl⟩
  rw [← hk2] at hU hk ⊢
  have iN := hid (iW n)
  have iX := hid (iW x)
  cases hs : negW x with
  | true =>
    have hD := hid (fun w => down_any k x 18446744073709551615 _ w hk (by omega) (wide1 x hx))
    have HY := hid (show sarW x k = (x + 2 ^ 256 * onesW) / 2 ^ k % 2 ^ 256 by unfold sarW; rw [if_pos hs])
    obtain ⟨y, hy⟩ : ∃ y, y = (x + 2 ^ 256 * onesW) / 2 ^ k % 2 ^ 256 := ⟨_, rfl⟩
    rw [← hy] at hD HY
    rw [HY.out]
    rw [hs] at hN
    clear hn hk2 hx hk hy HY hs
    unfold wd at *
    have iY := hid (iW y)
    have nY := hid (one_cellsW y)
    have eF : bits .xor .u64 IntKind.u64.max 0 = 18446744073709551615 := by decide
    have hA0 := hid (show ArrW 24 (((w.alloc (.cells (cellsW n) 24)).alloc (.cells (cellsW x) 24)).alloc (.cells (cellsW 0) 24)) w.heap.size n from ((ArrW.new _ w n).alloc _).alloc _)
    have hB0 := hid (show ArrW 24 (((w.alloc (.cells (cellsW n) 24)).alloc (.cells (cellsW x) 24)).alloc (.cells (cellsW 0) 24)) (w.heap.size + 1) x by
      have := ArrW.new 24 (w.alloc (.cells (cellsW n) 24)) x
      rw [World.size_alloc] at this; exact this.alloc _)
    have hC0 := hid (show ArrW 24 (((w.alloc (.cells (cellsW n) 24)).alloc (.cells (cellsW x) 24)).alloc (.cells (cellsW 0) 24)) (w.heap.size + 2) 0 by
      have := ArrW.new 24 ((w.alloc (.cells (cellsW n) 24)).alloc (.cells (cellsW x) 24)) 0
      rw [World.size_alloc, World.size_alloc] at this; exact this)
    have hb0 : Below w.heap.size w (((w.alloc (.cells (cellsW n) 24)).alloc (.cells (cellsW x) 24)).alloc (.cells (cellsW 0) 24)) := (((Below.refl _ _).alloc (Nat.le_refl _) _).alloc (by simp) _).alloc (by simp; omega) _
    go_enter Try.func34, Try.ntmps34
    go_wp2_with (first | (refine wpList_alloc_new rfl 24 rfl (cellsW 0) zWd ?_; simp only [Act.put, List.setIfInBounds_toArray, List.set_cons_zero, List.set_cons_succ]) | (refine wpList_load_row rfl 24 (.tmp 3) rfl (w.heap.size + 1) rfl 24 _ (0, 0) _ hB0.out uWd rfl iX.out ?_; simp only [Act.put, List.setIfInBounds_toArray, List.set_cons_zero, List.set_cons_succ]))
    refine (hN.out _).mono ?_
    rintro e w1 ⟨rfl, hb1⟩
    have hA1 := hid (hA0.out.below hb1 hA0.out.lt)
    have hB1 := hid (hB0.out.below hb1 hB0.out.lt)
    have hC1 := hid (hC0.out.below hb1 hC0.out.lt)
    have hb2 := hb0.trans (hb1.mono hb0.size)
    clear hA0 hB0 hC0 hb0 hb1
    go_wp2_with fail
    ((try simp only [World.size_alloc]); refine wp_region_ext_tail 5 (by kernel_rfl) (by kernel_rfl) ?_; simp only [List.take_succ_cons, List.take_zero, List.drop_succ_cons, List.drop_zero]; (repeat (first | (refine wpQuiet_load_part rfl 24 (.tmp 2) rfl w.heap.size 0 rfl 24 _ (cellsW _) (0, 0) _ hA1.out (fun j v h => by rw [Nat.zero_add]; exact h) uWd rfl iN.out ?_; simp only [Act.put, List.setIfInBounds_toArray, List.set_cons_zero, List.set_cons_succ]) | (refine wpQuiet_load_part rfl 24 (.tmp 3) rfl (w.heap.size + 1) 0 rfl 24 _ (cellsW _) (0, 0) _ hB1.out (fun j v h => by rw [Nat.zero_add]; exact h) uWd rfl iX.out ?_; simp only [Act.put, List.setIfInBounds_toArray, List.set_cons_zero, List.set_cons_succ]) | go_big_quiet_step (first | (go_at_call 102; with_reducible refine Calls.ext_of (hU.out _)) | (go_at_call 106; with_reducible refine Calls.ext_of (hD.out _))))); refine wpQuiet_nil ?_; rintro _ ⟨xw, rfl⟩)
    go_wp2_with (refine wpList_store_row rfl 24 (.tmp 4) (.tmp 14) rfl (w.heap.size + 2) _ rfl rfl 24 _ (hC1.out.ext _) iY.out rfl nY.out ?_; simp only [Act.put])
    refine bodyPost_ret (results_cell_row rfl _ _ (w.heap.size + 2) 24 (cellsW y) (0, 0) _ rfl (heap_setRow' _ _ _ _ _ (hC1.out.ext _)) uWd rfl iY.out) rfl ⟨rfl, below_setRow' (World.ext_below_of hb2 hb2.size _) _ (by omega) _⟩
  | false =>
    have hD := hid (fun w => down_any k x 0 x w hk (by omega) (wide0 x hx))
    have hlt : x / 2 ^ k < 2 ^ 256 := Nat.lt_of_le_of_lt (Nat.div_le_self _ _) hx
    rw [Nat.mod_eq_of_lt hlt] at hD
    have HY := hid (show sarW x k = x / 2 ^ k by unfold sarW; rw [if_neg (by rw [hs]; decide)])
    obtain ⟨y, hy⟩ : ∃ y, y = x / 2 ^ k := ⟨_, rfl⟩
    rw [← hy] at hD HY
    rw [HY.out]
    rw [hs] at hN
    clear hn hk2 hx hk hy HY hs hlt
    unfold wd at *
    have iY := hid (iW y)
    have nY := hid (one_cellsW y)
    have hA0 := hid (show ArrW 24 (((w.alloc (.cells (cellsW n) 24)).alloc (.cells (cellsW x) 24)).alloc (.cells (cellsW 0) 24)) w.heap.size n from ((ArrW.new _ w n).alloc _).alloc _)
    have hB0 := hid (show ArrW 24 (((w.alloc (.cells (cellsW n) 24)).alloc (.cells (cellsW x) 24)).alloc (.cells (cellsW 0) 24)) (w.heap.size + 1) x by
      have := ArrW.new 24 (w.alloc (.cells (cellsW n) 24)) x
      rw [World.size_alloc] at this; exact this.alloc _)
    have hC0 := hid (show ArrW 24 (((w.alloc (.cells (cellsW n) 24)).alloc (.cells (cellsW x) 24)).alloc (.cells (cellsW 0) 24)) (w.heap.size + 2) 0 by
      have := ArrW.new 24 ((w.alloc (.cells (cellsW n) 24)).alloc (.cells (cellsW x) 24)) 0
      rw [World.size_alloc, World.size_alloc] at this; exact this)
    have hb0 : Below w.heap.size w (((w.alloc (.cells (cellsW n) 24)).alloc (.cells (cellsW x) 24)).alloc (.cells (cellsW 0) 24)) := (((Below.refl _ _).alloc (Nat.le_refl _) _).alloc (by simp) _).alloc (by simp; omega) _
    go_enter Try.func34, Try.ntmps34
    go_wp2_with (first | (refine wpList_alloc_new rfl 24 rfl (cellsW 0) zWd ?_; simp only [Act.put, List.setIfInBounds_toArray, List.set_cons_zero, List.set_cons_succ]) | (refine wpList_load_row rfl 24 (.tmp 3) rfl (w.heap.size + 1) rfl 24 _ (0, 0) _ hB0.out uWd rfl iX.out ?_; simp only [Act.put, List.setIfInBounds_toArray, List.set_cons_zero, List.set_cons_succ]))
    refine (hN.out _).mono ?_
    rintro e w1 ⟨rfl, hb1⟩
    have hA1 := hid (hA0.out.below hb1 hA0.out.lt)
    have hB1 := hid (hB0.out.below hb1 hB0.out.lt)
    have hC1 := hid (hC0.out.below hb1 hC0.out.lt)
    have hb2 := hb0.trans (hb1.mono hb0.size)
    clear hA0 hB0 hC0 hb0 hb1
    go_wp2_with fail
    ((try simp only [World.size_alloc]); refine wp_region_ext_tail 5 (by kernel_rfl) (by kernel_rfl) ?_; simp only [List.take_succ_cons, List.take_zero, List.drop_succ_cons, List.drop_zero]; (repeat (first | (refine wpQuiet_load_part rfl 24 (.tmp 2) rfl w.heap.size 0 rfl 24 _ (cellsW _) (0, 0) _ hA1.out (fun j v h => by rw [Nat.zero_add]; exact h) uWd rfl iN.out ?_; simp only [Act.put, List.setIfInBounds_toArray, List.set_cons_zero, List.set_cons_succ]) | (refine wpQuiet_load_part rfl 24 (.tmp 3) rfl (w.heap.size + 1) 0 rfl 24 _ (cellsW _) (0, 0) _ hB1.out (fun j v h => by rw [Nat.zero_add]; exact h) uWd rfl iX.out ?_; simp only [Act.put, List.setIfInBounds_toArray, List.set_cons_zero, List.set_cons_succ]) | go_big_quiet_step (first | (go_at_call 102; with_reducible refine Calls.ext_of (hU.out _)) | (go_at_call 106; with_reducible refine Calls.ext_of (hD.out _))))); refine wpQuiet_nil ?_; rintro _ ⟨xw, rfl⟩)
    go_wp2_with (refine wpList_store_row rfl 24 (.tmp 4) (.tmp 14) rfl (w.heap.size + 2) _ rfl rfl 24 _ (hC1.out.ext _) iY.out rfl nY.out ?_; simp only [Act.put])
    refine bodyPost_ret (results_cell_row rfl _ _ (w.heap.size + 2) 24 (cellsW y) (0, 0) _ rfl (heap_setRow' _ _ _ _ _ (hC1.out.ext _)) uWd rfl iY.out) rfl ⟨rfl, below_setRow' (World.ext_below_of hb2 hb2.size _) _ (by omega) _⟩

/-- A sign drawn out from byte k. -/
def sexW (k x : Nat) : Nat := sarW (x * 2 ^ upT (248 - 8 * upT k 31) 256 % 2 ^ 256) (upT (248 - 8 * upT k 31) 256)
theorem sexW_lt (k x : Nat) : sexW k x < 2 ^ 256 := sarW_lt _ _ (Nat.mod_lt _ (by decide))
set_option maxHeartbeats 1000000 in
theorem wsext_any (n x : Nat) (w : World) (hn : n < 2 ^ 256) (hx : x < 2 ^ 256) : Calls Try.prog 36 #[wd n, wd x] w fun e w' => e = .returned (wd (sexW n x)) ∧ Below w.heap.size w w' := by
  have hU := hid (fun w => upto_any n 31 hn (by omega) w)
  have hk := upT_le n 31
  have HY := hid (show sexW n x = _ from rfl)
  obtain ⟨y, hy⟩ : ∃ y, y = sexW n x := ⟨_, rfl⟩
  rw [← hy]
  unfold sexW at hy
  obtain ⟨k, hk2⟩ : ∃ k, k = upT n 31 := ⟨_, rfl⟩
  rw [← hk2] at hU hk hy
  have hup : 248 - 8 * k < 2 ^ 64 := by omega
  have hup2 : 248 - 8 * k < 2 ^ 256 := Nat.lt_of_lt_of_le hup (by decide)
  have hO := hid (fun w => wof_any (248 - 8 * k) hup w)
  have hSl := hid (fun w => wshl_any (248 - 8 * k) x w hup2 hx)
  have hSa := hid (fun w => wsar_any (248 - 8 * k) (x * 2 ^ upT (248 - 8 * k) 256 % 2 ^ 256) w hup2 (Nat.mod_lt _ (by decide)))
  rw [← hy] at hSa
  clear hup hup2
  obtain ⟨u, hu⟩ : ∃ u, u = 248 - 8 * k := ⟨_, rfl⟩
  rw [← hu] at hSl hSa hO
  have eu : (248 - 8 * (k : Int)) = ((u : Nat) : Int) := by omega
  obtain ⟨z, hz⟩ : ∃ z, z = x * 2 ^ upT u 256 % 2 ^ 256 := ⟨_, rfl⟩
  rw [← hz] at hSl hSa
  have hu3 : u ≤ 248 := by omega
  clear hn hk2 hx hy HY hk hz hu
  unfold wd at *
  have iN := hid (iW n)
  have iX := hid (iW x)
  have iU := hid (iW u)
  have nU := hid (one_cellsW u)
  have iY := hid (iW y)
  have nY := hid (one_cellsW y)
  have hA0 := hid (show ArrW 24 (((w.alloc (.cells (cellsW n) 24)).alloc (.cells (cellsW x) 24)).alloc (.cells (cellsW 0) 24)) w.heap.size n from ((ArrW.new _ w n).alloc _).alloc _)
  have hB0 := hid (show ArrW 24 (((w.alloc (.cells (cellsW n) 24)).alloc (.cells (cellsW x) 24)).alloc (.cells (cellsW 0) 24)) (w.heap.size + 1) x by
    have := ArrW.new 24 (w.alloc (.cells (cellsW n) 24)) x
    rw [World.size_alloc] at this; exact this.alloc _)
  have hC0 := hid (show ArrW 24 (((w.alloc (.cells (cellsW n) 24)).alloc (.cells (cellsW x) 24)).alloc (.cells (cellsW 0) 24)) (w.heap.size + 2) 0 by
    have := ArrW.new 24 ((w.alloc (.cells (cellsW n) 24)).alloc (.cells (cellsW x) 24)) 0
    rw [World.size_alloc, World.size_alloc] at this; exact this)
  have hb0 : Below w.heap.size w (((w.alloc (.cells (cellsW n) 24)).alloc (.cells (cellsW x) 24)).alloc (.cells (cellsW 0) 24)) := (((Below.refl _ _).alloc (Nat.le_refl _) _).alloc (by simp) _).alloc (by simp; omega) _
  go_enter Try.func36, Try.ntmps36
  go_wp2_with (first | (refine wpList_alloc_new rfl 24 rfl (cellsW 0) zWd ?_; simp only [Act.put, List.setIfInBounds_toArray, List.set_cons_zero, List.set_cons_succ]) | (refine wpList_load_row rfl 24 (.tmp 2) rfl w.heap.size rfl 24 _ (0, 0) _ hA0.out uWd rfl iN.out ?_; simp only [Act.put, List.setIfInBounds_toArray, List.set_cons_zero, List.set_cons_succ]))
  refine (hU.out _).mono ?_
  rintro e w1 ⟨rfl, hb1⟩
  have hB1 := hid (hB0.out.below hb1 hB0.out.lt)
  have hC1 := hid (hC0.out.below hb1 hC0.out.lt)
  have hb2 := hb0.trans (hb1.mono hb0.size)
  clear hA0 hB0 hC0 hb0 hb1
  go_wp2_with fail
  refine (hO.out _).mono ?_
  rintro e w2 ⟨rfl, hb3⟩
  have hB2 := hid ((hB1.out.below hb3 hB1.out.lt).alloc (.cells (cellsW u) 24))
  have hC2 := hid ((hC1.out.below hb3 hC1.out.lt).alloc (.cells (cellsW u) 24))
  have hU2 := hid (ArrW.new 24 w2 u)
  have hb4 := hb2.trans (hb3.mono hb2.size)
  have hb5 := hb4.alloc hb4.size (.cells (cellsW u) 24)
  clear hB1 hC1 hb2 hb3
  go_wp2_with (refine wpList_allocStore 24 13 6 (cellsW u) (cellsW 0) rfl rfl rfl rfl rfl rfl (by decide) (by simp) rfl (by kernel_rfl) rfl iU.out nU.out ?_; simp only [Act.put, List.setIfInBounds_toArray, List.set_cons_zero, List.set_cons_succ])
  ((try simp only [World.size_alloc]); refine wp_region_ext_tail 5 (by kernel_rfl) (by kernel_rfl) ?_; simp only [List.take_succ_cons, List.take_zero, List.drop_succ_cons, List.drop_zero]; (repeat (first | (refine wpQuiet_load_part rfl 24 (.tmp 6) rfl w2.heap.size 0 rfl 24 _ (cellsW _) (0, 0) _ hU2.out (fun j v h => by rw [Nat.zero_add]; exact h) uWd rfl iU.out ?_; simp only [Act.put, List.setIfInBounds_toArray, List.set_cons_zero, List.set_cons_succ]) | (refine wpQuiet_load_part rfl 24 (.tmp 3) rfl (w.heap.size + 1) 0 rfl 24 _ (cellsW _) (0, 0) _ hB2.out (fun j v h => by rw [Nat.zero_add]; exact h) uWd rfl iX.out ?_; simp only [Act.put, List.setIfInBounds_toArray, List.set_cons_zero, List.set_cons_succ]) | go_big_quiet_step (first | (go_at_call 30; with_reducible refine Calls.ext_of (hSl.out _)) | (go_at_call 34; with_reducible refine Calls.ext_of (hSa.out _))))); refine wpQuiet_nil ?_; rintro _ ⟨xw, rfl⟩)
  go_wp2_with (refine wpList_store_row rfl 24 (.tmp 4) (.tmp 18) rfl (w.heap.size + 2) _ rfl rfl 24 _ (hC2.out.ext _) iY.out rfl nY.out ?_; simp only [Act.put])
  refine bodyPost_ret (results_cell_row rfl _ _ (w.heap.size + 2) 24 (cellsW y) (0, 0) _ rfl (heap_setRow' _ _ _ _ _ (hC2.out.ext _)) uWd rfl iY.out) rfl ⟨rfl, below_setRow' (World.ext_below_of hb5 hb5.size _) _ (by omega) _⟩

/-- A byte taken out, the highest first. -/
def byteW (i x : Nat) : Nat := if i < 32 then x / 256 ^ (31 - i) % 256 else 0
theorem byteW_lt (i x : Nat) : byteW i x < 256 := by unfold byteW; split <;> omega
set_option maxHeartbeats 1000000 in
theorem wbyte_any (n x : Nat) (w : World) (hn : n < 2 ^ 256) : Calls Try.prog 28 #[wd n, wd x] w fun e w' => e = .returned (wd (byteW n x)) ∧ Below w.heap.size w w' := by
  have hU := hid (fun w => upto_any n 32 hn (by omega) w)
  have hk := upT_le n 32
  have iN := hid (iW n)
  by_cases hlt : n < 32
  · have HY := hid (show byteW n x = lmN x ((31 - n) / 8) / 2 ^ (8 * ((31 - n) % 8)) % 256 by unfold byteW; rw [if_pos hlt, lmN_byte _ _ (by omega)])
    have hUn : upT n 32 = n := by unfold upT; rw [if_pos hlt]
    rw [hUn] at hU
    obtain ⟨y, hy⟩ : ∃ y, y = byteW n x := ⟨_, rfl⟩
    have hy2 := byteW_lt n x
    rw [← hy] at HY hy2 ⊢
    have hO := hid (fun w => wof_any y (by omega) w)
    obtain ⟨m, hm⟩ : ∃ m, m = 31 - n := ⟨_, rfl⟩
    rw [← hm] at HY
    have h3 : (31 - (n : Int)) = (m : Int) := by omega
    have hm2 : m ≤ 31 := by omega
    have n1 := lm_nonneg x (m / 8)
    have n2 := lm_lt x (m / 8)
    have hV := hid (show bits .and .u64 (lm x (m / 8) / 2 ^ (8 * (m % 8))) 255 = (y : Int) by
      rw [HY.out]
      unfold lm
      rw [show (((lmN x (m / 8) : Nat) : Int)) / 2 ^ (8 * (m % 8)) = ((lmN x (m / 8) / 2 ^ (8 * (m % 8)) : Nat) : Int) by rw [Int.natCast_ediv, Int.natCast_pow]; rfl]
      rw [show (255 : Int) = ((255 : Nat) : Int) from rfl, u64_and_nat _ _ (Nat.lt_of_le_of_lt (Nat.div_le_self _ _) (lmN_lt _ _)) (by decide)]
      rw [show (255 : Nat) = 2 ^ 8 - 1 from rfl, Nat.and_two_pow_sub_one_eq_mod])
    have hsh : (8 * ((m : Int) % 8)).toNat = 8 * (m % 8) := by omega
    have hne : ¬ ((n : Int) = 32) := by omega
    clear HY hy hm hn hlt hUn hk hy2
    unfold wd at *
    have iY := hid (iW y)
    have nY := hid (one_cellsW y)
    have hA0 := hid (show ArrW 24 (((w.alloc (.cells (cellsW n) 24)).alloc (.cells (cellsW x) 24)).alloc (.cells (cellsW 0) 24)) w.heap.size n from ((ArrW.new _ w n).alloc _).alloc _)
    have hB0 := hid (show ArrW 24 (((w.alloc (.cells (cellsW n) 24)).alloc (.cells (cellsW x) 24)).alloc (.cells (cellsW 0) 24)) (w.heap.size + 1) x by
      have := ArrW.new 24 (w.alloc (.cells (cellsW n) 24)) x
      rw [World.size_alloc] at this; exact this.alloc _)
    have hC0 := hid (show ArrW 24 (((w.alloc (.cells (cellsW n) 24)).alloc (.cells (cellsW x) 24)).alloc (.cells (cellsW 0) 24)) (w.heap.size + 2) 0 by
      have := ArrW.new 24 ((w.alloc (.cells (cellsW n) 24)).alloc (.cells (cellsW x) 24)) 0
      rw [World.size_alloc, World.size_alloc] at this; exact this)
    have hb0 : Below w.heap.size w (((w.alloc (.cells (cellsW n) 24)).alloc (.cells (cellsW x) 24)).alloc (.cells (cellsW 0) 24)) := (((Below.refl _ _).alloc (Nat.le_refl _) _).alloc (by simp) _).alloc (by simp; omega) _
    go_enter Try.func28, Try.ntmps28
    go_wp2_with (first | (refine wpList_alloc_new rfl 24 rfl (cellsW 0) zWd ?_; simp only [Act.put, List.setIfInBounds_toArray, List.set_cons_zero, List.set_cons_succ]) | (refine wpList_load_row rfl 24 (.tmp 2) rfl w.heap.size rfl 24 _ (0, 0) _ hA0.out uWd rfl iN.out ?_; simp only [Act.put, List.setIfInBounds_toArray, List.set_cons_zero, List.set_cons_succ]))
    refine (hU.out _).mono ?_
    rintro e w1 ⟨rfl, hb1⟩
    have hB1 := hid (hB0.out.below hb1 hB0.out.lt)
    have hC1 := hid (hC0.out.below hb1 hC0.out.lt)
    have hb2 := hb0.trans (hb1.mono hb0.size)
    have c1 := hB1.out.cell (m / 8) (by omega)
    have l1 := hB1.out.lt
    clear hA0 hB0 hC0 hb0 hb1
    go_wp2_with fail
    rw [hV.out]
    refine (hO.out _).mono ?_
    rintro e w2 ⟨rfl, hb3⟩
    have hC2 := hid (hC1.out.below hb3 hC1.out.lt)
    have hb4 := hb2.trans (hb3.mono hb2.size)
    clear hB1 hC1 c1 l1
    go_wp2_with (refine wpList_store_row rfl 24 (.tmp 4) (.tmp 22) rfl (w.heap.size + 2) _ rfl rfl 24 _ hC2.out iY.out rfl nY.out ?_; simp only [Act.put])
    refine bodyPost_ret (results_cell_row rfl _ _ (w.heap.size + 2) 24 (cellsW y) (0, 0) _ rfl (heap_setRow' _ _ _ _ _ hC2.out) uWd rfl iY.out) rfl ⟨rfl, below_setRow' hb4 _ (by omega) _⟩
  · have hUn : upT n 32 = 32 := by unfold upT; rw [if_neg hlt]
    rw [hUn] at hU
    have HY := hid (show byteW n x = 0 by unfold byteW; rw [if_neg hlt])
    clear hUn hk hlt hn
    rw [HY.out]
    have i0 := hid (iW 0)
    have n0 := hid (one_cellsW 0)
    have b0 : Try.prog.built 24 [] = some (cellsW 0) := by kernel_rfl
    unfold wd at *
    have hA0 := hid (show ArrW 24 (((w.alloc (.cells (cellsW n) 24)).alloc (.cells (cellsW x) 24)).alloc (.cells (cellsW 0) 24)) w.heap.size n from ((ArrW.new _ w n).alloc _).alloc _)
    have hB0 := hid (show ArrW 24 (((w.alloc (.cells (cellsW n) 24)).alloc (.cells (cellsW x) 24)).alloc (.cells (cellsW 0) 24)) (w.heap.size + 1) x by
      have := ArrW.new 24 (w.alloc (.cells (cellsW n) 24)) x
      rw [World.size_alloc] at this; exact this.alloc _)
    have hC0 := hid (show ArrW 24 (((w.alloc (.cells (cellsW n) 24)).alloc (.cells (cellsW x) 24)).alloc (.cells (cellsW 0) 24)) (w.heap.size + 2) 0 by
      have := ArrW.new 24 ((w.alloc (.cells (cellsW n) 24)).alloc (.cells (cellsW x) 24)) 0
      rw [World.size_alloc, World.size_alloc] at this; exact this)
    have hb0 : Below w.heap.size w (((w.alloc (.cells (cellsW n) 24)).alloc (.cells (cellsW x) 24)).alloc (.cells (cellsW 0) 24)) := (((Below.refl _ _).alloc (Nat.le_refl _) _).alloc (by simp) _).alloc (by simp; omega) _
    go_enter Try.func28, Try.ntmps28
    go_wp2_with (first | (refine wpList_alloc_new rfl 24 rfl (cellsW 0) zWd ?_; simp only [Act.put, List.setIfInBounds_toArray, List.set_cons_zero, List.set_cons_succ]) | (refine wpList_load_row rfl 24 (.tmp 2) rfl w.heap.size rfl 24 _ (0, 0) _ hA0.out uWd rfl iN.out ?_; simp only [Act.put, List.setIfInBounds_toArray, List.set_cons_zero, List.set_cons_succ]))
    refine (hU.out _).mono ?_
    rintro e w1 ⟨rfl, hb1⟩
    have hC1 := hid (hC0.out.below hb1 hC0.out.lt)
    have hb2 := hb0.trans (hb1.mono hb0.size)
    clear hA0 hB0 hC0 hb0 hb1
    go_wp2_with (first | (refine wpList_store_row rfl 24 (.tmp 4) (.tmp 10) rfl (w.heap.size + 2) _ rfl rfl 24 _ hC1.out i0.out rfl n0.out ?_; simp only [Act.put]))
    refine bodyPost_ret (results_cell_row rfl _ _ (w.heap.size + 2) 24 (cellsW 0) (0, 0) _ rfl (heap_setRow' _ _ _ _ _ hC1.out) uWd rfl i0.out) rfl ⟨rfl, below_setRow' hb2 _ (by omega) _⟩
end Go.Proofs.Ytfidbiabgmioaaa

/-! word: powers. -/
namespace Go.Proofs.Ytfidbiabgmioaaa
open Go.RowKit

theorem ArrW.row {t : TypeId} {w : World} {b x : Nat} (h : ArrW t w b x) (y : Nat) : ArrW t (w.setRow b (cellsW y)) b y := heap_setRow' _ _ _ _ _ h
theorem ArrW.otherRow {t : TypeId} {w : World} {b x g : Nat} (h : ArrW t w b x) (hg : b ≠ g) (cs : Array Value) : ArrW t (w.setRow g cs) b x := by
  unfold ArrW at *
  simp only [World.setRow, Array.getElem?_modify]
  rw [if_neg (fun e => hg e.symm)]; exact h
/-- A power modulo 2^256. -/
def powW (a e : Nat) : Nat := a ^ e % 2 ^ 256
theorem powW_lt (a e : Nat) : powW a e < 2 ^ 256 := Nat.mod_lt _ (by decide)
theorem powW_zero (a : Nat) : powW a 0 = 1 := rfl
theorem powW_add (a e f : Nat) : powW a e * powW a f % 2 ^ 256 = powW a (e + f) := by
  unfold powW; rw [← Nat.mul_mod, Nat.pow_add]
theorem powW_one (a : Nat) (h : a < 2 ^ 256) : powW a 1 = a := by unfold powW; rw [Nat.pow_one, Nat.mod_eq_of_lt h]
theorem low_bit (b i : Nat) : b % 2 ^ (i + 1) = b % 2 ^ i + 2 ^ i * (b / 2 ^ i % 2) := by rw [Nat.pow_succ, Nat.mod_mul]
/-- A bit of a limb. -/
theorem lmN_bit (b i : Nat) : lmN b (i / 64) / 2 ^ (i % 64) % 2 = b / 2 ^ i % 2 := by
  have e : 2 ^ i = 2 ^ (64 * (i / 64)) * 2 ^ (i % 64) := by rw [← Nat.pow_add]; congr 1; omega
  have e2 : (2 : Nat) ^ 64 = 2 ^ (i % 64) * (2 * 2 ^ (63 - i % 64)) := by rw [← Nat.mul_assoc, ← Nat.pow_succ, ← Nat.pow_add]; congr 1; omega
  unfold lmN
  rw [e, ← Nat.div_div_eq_div_mul]
  generalize b / 2 ^ (64 * (i / 64)) = y
  rw [e2, Nat.mod_mul_right_div_self, Nat.mod_mul_right_mod]
theorem lm_bit (b i : Nat) : bits .and .u64 (lm b (i / 64) / 2 ^ (i % 64)) 1 = ((b / 2 ^ i % 2 : Nat) : Int) := by
  unfold lm
  rw [show (((lmN b (i / 64) : Nat) : Int)) / 2 ^ (i % 64) = ((lmN b (i / 64) / 2 ^ (i % 64) : Nat) : Int) by rw [Int.natCast_ediv, Int.natCast_pow]; rfl]
  rw [show (1 : Int) = ((1 : Nat) : Int) from rfl, u64_and_nat _ _ (Nat.lt_of_le_of_lt (Nat.div_le_self _ _) (lmN_lt _ _)) (by decide)]
  rw [show (1 : Nat) = 2 ^ 1 - 1 from rfl, Nat.and_two_pow_sub_one_eq_mod, Nat.pow_one, lmN_bit]

def ExpI (a b N S : Nat) (w wr : World) (i : Nat) : Prop :=
  ArrW 24 wr N (powW a (2 ^ i)) ∧ ArrW 24 wr (N + 1) b ∧ ArrW 24 wr (N + 2) 0 ∧ ArrW 24 wr S (powW a (b % 2 ^ i)) ∧ Below N w wr

set_option maxHeartbeats 2000000 in
theorem wexp_any (a b : Nat) (w : World) (ha : a < 2 ^ 256) (hb : b < 2 ^ 256) : Calls Try.prog 60 #[wd a, wd b] w fun e w' => e = .returned (wd (powW a b)) ∧ Below w.heap.size w w' := by
  have hO := hid (fun w => wof_any 1 (by omega) w)
  have hM := hid (fun x y w hx hy => wmul_any x y w hx hy)
  have hW := hid (fun v w hr => width_any 4 b v w hr hb (by omega))
  have hbl := bl_le b 256 hb
  have hbe := hid (show b % 2 ^ bl b = b from Nat.mod_eq_of_lt (bl_lt b))
  have HA := hid ha
  clear ha hb
  obtain ⟨n, hn⟩ : ∃ n, n = bl b := ⟨_, rfl⟩
  rw [← hn] at hW hbl hbe
  clear hn
  unfold wd at *
  have i1 := hid (iW 1)
  have n1 := hid (one_cellsW 1)
  have H0 := hid (iW 0)
  have hA0 := hid (show ArrW 24 (((w.alloc (.cells (cellsW a) 24)).alloc (.cells (cellsW b) 24)).alloc (.cells (cellsW 0) 24)) w.heap.size a from ((ArrW.new _ w a).alloc _).alloc _)
  have hB0 := hid (show ArrW 24 (((w.alloc (.cells (cellsW a) 24)).alloc (.cells (cellsW b) 24)).alloc (.cells (cellsW 0) 24)) (w.heap.size + 1) b by
    have := ArrW.new 24 (w.alloc (.cells (cellsW a) 24)) b
    rw [World.size_alloc] at this; exact this.alloc _)
  have hC0 := hid (show ArrW 24 (((w.alloc (.cells (cellsW a) 24)).alloc (.cells (cellsW b) 24)).alloc (.cells (cellsW 0) 24)) (w.heap.size + 2) 0 by
    have := ArrW.new 24 ((w.alloc (.cells (cellsW a) 24)).alloc (.cells (cellsW b) 24)) 0
    rw [World.size_alloc, World.size_alloc] at this; exact this)
  have hb0 : Below w.heap.size w (((w.alloc (.cells (cellsW a) 24)).alloc (.cells (cellsW b) 24)).alloc (.cells (cellsW 0) 24)) := (((Below.refl _ _).alloc (Nat.le_refl _) _).alloc (by simp) _).alloc (by simp; omega) _
  go_enter Try.func60, Try.ntmps60
  go_wp2_with (first | (refine wpList_alloc_new rfl 24 rfl (cellsW 0) zWd ?_; simp only [Act.put, List.setIfInBounds_toArray, List.set_cons_zero, List.set_cons_succ]))
  refine (hO.out _).mono ?_
  rintro e w1 ⟨rfl, hb1⟩
  have hA1 := hid ((hA0.out.below hb1 hA0.out.lt).alloc (.cells (cellsW 1) 24))
  have hB1 := hid ((hB0.out.below hb1 hB0.out.lt).alloc (.cells (cellsW 1) 24))
  have hC1 := hid ((hC0.out.below hb1 hC0.out.lt).alloc (.cells (cellsW 1) 24))
  have hS1 := hid (ArrW.new 24 w1 1)
  have hb2 := hb0.trans (hb1.mono hb0.size)
  have hb3 := hb2.alloc hb2.size (.cells (cellsW 1) 24)
  have hsz : w.heap.size + 3 ≤ w1.heap.size := by have := hC0.out.below hb1 hC0.out.lt; have := this.lt; omega
  clear hA0 hB0 hC0 hb0 hb1
  have hrd := hid (hB1.out.toM.rd 4 (by omega))
  go_wp2_with (first | (refine wpList_allocStore 24 7 5 (cellsW 1) (cellsW 0) rfl rfl rfl rfl rfl rfl (by decide) (by simp) rfl (by kernel_rfl) rfl i1.out n1.out ?_; simp only [Act.put, List.setIfInBounds_toArray, List.set_cons_zero, List.set_cons_succ]))
  refine (hW.out _ _ hrd.out).mono ?_
  rintro e w2 ⟨rfl, rfl⟩
  have hI : Hid (ExpI a b w.heap.size w1.heap.size w (w1.alloc (.cells (cellsW 1) 24)) 0) := hid ⟨by rw [Nat.pow_zero, powW_one a HA.out]; exact hA1.out, hB1.out, hC1.out, by rw [Nat.pow_zero, Nat.mod_one]; exact hS1.out, hb3⟩
  clear hA1 hB1 hC1 hS1 hb2 hb3 hrd hW HA
  go_wp2
  generalize w1.alloc (.cells (cellsW 1) 24) = w2 at hI ⊢
  obtain ⟨S, hS⟩ : ∃ S, S = w1.heap.size := ⟨_, rfl⟩
  rw [← hS] at hI hsz ⊢
  clear hS
  go_loopw [10] (fun iv wr => ∃ i : Nat, i ≤ n ∧ iv = .int .i64 i ∧ Hid (ExpI a b w.heap.size S w wr i))
    (fun iv _ => n - (intOf iv).toNat)
  case atStart => exact ⟨0, by omega, rfl, hI⟩
  case round =>
    clear hI
    obtain ⟨i, hi, rfl, hI⟩ := hrel
    by_cases hlt : i < n
    · have hA := hid hI.out.1
      have hB := hid hI.out.2.1
      have hC := hid hI.out.2.2.1
      have hD := hid hI.out.2.2.2.1
      have hb := hI.out.2.2.2.2
      have c1 := hB.out.cell (i / 64) (by omega)
      have l1 := hB.out.lt
      have n1 := lm_nonneg b (i / 64)
      have n2 := lm_lt b (i / 64)
      have hbit := lm_bit b i
      have hlow := low_bit b i
      have hq : powW a (2 ^ i) * powW a (2 ^ i) % 2 ^ 256 = powW a (2 ^ (i + 1)) := by rw [powW_add, Nat.pow_succ, Nat.mul_two]
      have HS := hid (fun w => hM.out (powW a (2 ^ i)) (powW a (2 ^ i)) w (powW_lt _ _) (powW_lt _ _))
      rw [hq] at HS
      have iq := hid (iW (powW a (2 ^ i)))
      have iq2 := hid (iW (powW a (2 ^ (i + 1))))
      have nq2 := hid (one_cellsW (powW a (2 ^ (i + 1))))
      have hd2 : b / 2 ^ i % 2 = 0 ∨ b / 2 ^ i % 2 = 1 := by omega
      rcases hd2 with hz | hz
      · rw [hz] at hbit hlow
        rw [Nat.mul_zero, Nat.add_zero] at hlow
        have HL := hid hlow
        clear hq hz hI hlow
        go_wp2_with (first | (refine wpList_load_row rfl 24 (.tmp 2) rfl w.heap.size rfl 24 _ (0, 0) _ hA.out uWd rfl iq.out ?_; simp only [Act.put, List.setIfInBounds_toArray, List.set_cons_zero, List.set_cons_succ]))
        refine (HS.out _).mono ?_
        rintro e w3 ⟨rfl, hb5⟩
        have hA2 := hid (hA.out.below hb5 hA.out.lt)
        have hB2 := hid (hB.out.below hb5 hB.out.lt)
        have hC2 := hid (hC.out.below hb5 hC.out.lt)
        have hD2 := hid (hD.out.below hb5 hD.out.lt)
        have hb6 := hb.trans (hb5.mono hb.size)
        clear hA hB hC hD hb hb5
        go_wp2_with (first | (refine wpList_store_row rfl 24 (.tmp 2) (.tmp 27) rfl w.heap.size _ rfl rfl 24 _ hA2.out iq2.out rfl nq2.out ?_; simp only [Act.put]))
        go_roundw
        case rel =>
          exact ⟨i + 1, by omega, by go_num, hid ⟨hA2.out.row _, hB2.out.otherRow (by omega) _, hC2.out.otherRow (by omega) _, by rw [HL.out]; exact hD2.out.otherRow (by omega) _, below_setRow' hb6 _ (by omega) _⟩⟩
        case measure => simp [intOf]; omega
      · rw [hz] at hbit hlow
        rw [Nat.mul_one] at hlow
        have hr : powW a (b % 2 ^ i) * powW a (2 ^ i) % 2 ^ 256 = powW a (b % 2 ^ (i + 1)) := by rw [powW_add, hlow]
        have HR := hid (fun w => hM.out (powW a (b % 2 ^ i)) (powW a (2 ^ i)) w (powW_lt _ _) (powW_lt _ _))
        rw [hr] at HR
        have ir := hid (iW (powW a (b % 2 ^ i)))
        have ir2 := hid (iW (powW a (b % 2 ^ (i + 1))))
        have nr2 := hid (one_cellsW (powW a (b % 2 ^ (i + 1))))
        clear hq hz hI hlow hr
        go_wp2_with (first | (refine wpList_load_row rfl 24 (.tmp 5) rfl S rfl 24 _ (0, 0) _ hD.out uWd rfl ir.out ?_; simp only [Act.put, List.setIfInBounds_toArray, List.set_cons_zero, List.set_cons_succ]) | (refine wpList_load_row rfl 24 (.tmp 2) rfl w.heap.size rfl 24 _ (0, 0) _ hA.out uWd rfl iq.out ?_; simp only [Act.put, List.setIfInBounds_toArray, List.set_cons_zero, List.set_cons_succ]))
        refine (HR.out _).mono ?_
        rintro e w3 ⟨rfl, hb5⟩
        have hA2 := hid (hA.out.below hb5 hA.out.lt)
        have hB2 := hid (hB.out.below hb5 hB.out.lt)
        have hC2 := hid (hC.out.below hb5 hC.out.lt)
        have hD2 := hid (hD.out.below hb5 hD.out.lt)
        have hb6 := hb.trans (hb5.mono hb.size)
        clear hA hB hC hD hb hb5 c1 l1
        have hA3 := hid (hA2.out.otherRow (show w.heap.size ≠ S by omega) (cellsW (powW a (b % 2 ^ (i + 1)))))
        go_wp2_with (first | (refine wpList_store_row rfl 24 (.tmp 5) (.tmp 24) rfl S _ rfl rfl 24 _ hD2.out ir2.out rfl nr2.out ?_; simp only [Act.put]) | (refine wpList_load_row rfl 24 (.tmp 2) rfl w.heap.size rfl 24 _ (0, 0) _ hA3.out uWd rfl iq.out ?_; simp only [Act.put, List.setIfInBounds_toArray, List.set_cons_zero, List.set_cons_succ]))
        refine (HS.out _).mono ?_
        rintro e w4 ⟨rfl, hb7⟩
        have hA4 := hid (hA3.out.below hb7 hA3.out.lt)
        have hB4 := hid ((hB2.out.otherRow (show w.heap.size + 1 ≠ S by omega) (cellsW (powW a (b % 2 ^ (i + 1))))).below hb7 (by rw [size_setRow]; exact hB2.out.lt))
        have hC4 := hid ((hC2.out.otherRow (show w.heap.size + 2 ≠ S by omega) (cellsW (powW a (b % 2 ^ (i + 1))))).below hb7 (by rw [size_setRow]; exact hC2.out.lt))
        have hD4 := hid ((hD2.out.row (powW a (b % 2 ^ (i + 1)))).below hb7 (by rw [size_setRow]; exact hD2.out.lt))
        have hb8 := (below_setRow' hb6 S (by omega) (cellsW (powW a (b % 2 ^ (i + 1))))).trans (hb7.mono (by rw [size_setRow]; exact hb6.size))
        clear hA2 hB2 hC2 hD2 hA3 hb6 hb7
        go_wp2_with (first | (refine wpList_store_row rfl 24 (.tmp 2) (.tmp 27) rfl w.heap.size _ rfl rfl 24 _ hA4.out iq2.out rfl nq2.out ?_; simp only [Act.put]))
        go_roundw
        case rel =>
          exact ⟨i + 1, by omega, by go_num, hid ⟨hA4.out.row _, hB4.out.otherRow (by omega) _, hC4.out.otherRow (by omega) _, hD4.out.otherRow (by omega) _, below_setRow' hb8 _ (by omega) _⟩⟩
        case measure => simp [intOf]; omega
    · obtain rfl : i = n := by omega
      have hC := hid hI.out.2.2.1
      have hD := hI.out.2.2.2.1
      have hb := hI.out.2.2.2.2
      rw [hbe.out] at hD
      obtain ⟨y, hy⟩ : ∃ y, y = powW a b := ⟨_, rfl⟩
      rw [← hy] at hD
      have HY := hid hy
      have HD := hid hD
      have iY := hid (iW y)
      have nY := hid (one_cellsW y)
      clear hy hI hlt hi hD
      go_wp2_with (first | (refine wpList_load_row rfl 24 (.tmp 5) rfl S rfl 24 _ (0, 0) _ HD.out uWd rfl iY.out ?_; simp only [Act.put, List.setIfInBounds_toArray, List.set_cons_zero, List.set_cons_succ]) | (refine wpList_store_row rfl 24 (.tmp 4) (.tmp 29) rfl (w.heap.size + 2) _ rfl rfl 24 _ hC.out iY.out rfl nY.out ?_; simp only [Act.put]))
      refine bodyPost_ret (results_cell_row rfl _ _ (w.heap.size + 2) 24 (cellsW y) (0, 0) _ rfl (heap_setRow' _ _ _ _ _ hC.out) uWd rfl iY.out) rfl ⟨by rw [HY.out], below_setRow' hb _ (by omega) _⟩
end Go.Proofs.Ytfidbiabgmioaaa
