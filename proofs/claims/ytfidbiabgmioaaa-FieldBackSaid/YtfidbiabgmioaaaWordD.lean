import Derived.Test.YtfidbiabgmioaaaWordC
import Derived.Laws.Cover3
import Derived.Laws.BitsAllLaws
/-! word: Mul, And, Or, Xor, Not, negative, size, signed, Cmp, Scmp. -/
set_option maxRecDepth 4000
set_option linter.unusedVariables false
set_option linter.unusedSimpArgs false
namespace Go.Proofs.Ytfidbiabgmioaaa
open Go.RowKit

theorem cellsW_mod (x : Nat) : cellsW (x % 2 ^ 256) = cellsW x := by
  have h : ∀ i, i < 4 → lmN (x % 2 ^ 256) i = lmN x i := fun i hi => by
    unfold lmN
    have e : (2 : Nat) ^ 256 = 2 ^ (64 * i) * 2 ^ (256 - 64 * i) := by rw [← Nat.pow_add]; congr 1; omega
    have e2 : (2 : Nat) ^ (256 - 64 * i) = 2 ^ 64 * 2 ^ (192 - 64 * i) := by rw [← Nat.pow_add]; congr 1; omega
    rw [e, Nat.mod_mul_right_div_self, e2, Nat.mod_mul_right_mod]
  unfold cellsW lm
  rw [h 0 (by omega), h 1 (by omega), h 2 (by omega), h 3 (by omega)]
theorem cellsM_part (x : Nat) : ∀ (j : Nat) (v : Value), (cellsW x)[j]? = some v → (cellsM 8 x)[0 + j]? = some v := by
  intro j v h
  have hj : j < 4 := by
    rcases Nat.lt_or_ge j 4 with h1 | h1
    · exact h1
    · rw [Array.getElem?_eq_none (by rw [size_cellsW]; exact h1)] at h; cases h
  rw [Nat.zero_add, cellsM_at 8 x j (by omega)]
  rw [cellsW_at x j hj] at h
  exact h
@[go_sem] theorem run_toArr (w : World) (a : Option Addr) (len cap : Nat) (h : 4 ≤ len) : (Instr.arrayAt 24 (.slice a len cap)).run Try.prog w = .ok (.pointer a) w := run_arrayAt _ _ _ _ _ _ _ uWd h

set_option maxHeartbeats 1000000 in
theorem wmul_any (a b : Nat) (w : World) (ha : a < 2 ^ 256) (hb : b < 2 ^ 256) : Calls Try.prog 40 #[wd a, wd b] w fun e w' => e = .returned (wd (a * b % 2 ^ 256)) ∧ Below w.heap.size w w' := by
  have hS := hid (fun w => wfull_any a b w ha hb)
  have iA := hid (iW a)
  have iB := hid (iW b)
  clear ha hb
  unfold wd at *
  rw [cellsW_mod]
  obtain ⟨s, hs⟩ : ∃ s, s = a * b := ⟨_, rfl⟩
  rw [← hs] at hS ⊢
  clear hs
  have iS := hid (iW s)
  have nS := hid (one_cellsW s)
  have iP := hid (iM8 s)
  have nP := hid (one_cellsM 8 s)
  have hA0 := hid (show ArrW 24 (((w.alloc (.cells (cellsW a) 24)).alloc (.cells (cellsW b) 24)).alloc (.cells (cellsW 0) 24)) w.heap.size a from ((ArrW.new _ w a).alloc _).alloc _)
  have hB0 := hid (show ArrW 24 (((w.alloc (.cells (cellsW a) 24)).alloc (.cells (cellsW b) 24)).alloc (.cells (cellsW 0) 24)) (w.heap.size + 1) b by
    have := ArrW.new 24 (w.alloc (.cells (cellsW a) 24)) b
    rw [World.size_alloc] at this; exact this.alloc _)
  have hC0 := hid (show ArrW 24 (((w.alloc (.cells (cellsW a) 24)).alloc (.cells (cellsW b) 24)).alloc (.cells (cellsW 0) 24)) (w.heap.size + 2) 0 by
    have := ArrW.new 24 ((w.alloc (.cells (cellsW a) 24)).alloc (.cells (cellsW b) 24)) 0
    rw [World.size_alloc, World.size_alloc] at this; exact this)
  have hb0 : Below w.heap.size w (((w.alloc (.cells (cellsW a) 24)).alloc (.cells (cellsW b) 24)).alloc (.cells (cellsW 0) 24)) := (((Below.refl _ _).alloc (Nat.le_refl _) _).alloc (by simp) _).alloc (by simp; omega) _
  go_enter Try.func40, Try.ntmps40
  go_wp2_with (first | (refine wpList_alloc_new rfl 24 rfl (cellsW 0) zWd ?_; simp only [Act.put, List.setIfInBounds_toArray, List.set_cons_zero, List.set_cons_succ]) | (refine wpList_load_row rfl 24 (.tmp 2) rfl w.heap.size rfl 24 _ (0, 0) _ hA0.out uWd rfl iA.out ?_; simp only [Act.put, List.setIfInBounds_toArray, List.set_cons_zero, List.set_cons_succ]) | (refine wpList_load_row rfl 24 (.tmp 3) rfl (w.heap.size + 1) rfl 24 _ (0, 0) _ hB0.out uWd rfl iB.out ?_; simp only [Act.put, List.setIfInBounds_toArray, List.set_cons_zero, List.set_cons_succ]))
  refine (hS.out _).mono ?_
  rintro e w1 ⟨rfl, hb1⟩
  have hC1 := hC0.out.below hb1 hC0.out.lt
  have hb2 := hb0.trans (hb1.mono hb0.size)
  have hC2 := hid (hC1.alloc (.cells (cellsM 8 s) 69))
  have hD2 := hid (ArrM.new 69 8 w1 s)
  have lD2 := hD2.out.lt
  have hb3 := hb2.alloc hb2.size (.cells (cellsM 8 s) 69)
  have HP := hid (cellsM_part s)
  clear hA0 hB0 hC0 hb0 hb1 hC1 iA iB
  go_wp2_with (first | (refine wpList_allocStore 69 8 5 (cellsM 8 s) (cellsM 8 0) rfl rfl rfl rfl rfl rfl (by decide) (by simp) rfl (by kernel_rfl) (by rw [size_cellsM, size_cellsM]) iP.out nP.out ?_; simp only [Act.put, List.setIfInBounds_toArray, List.set_cons_zero, List.set_cons_succ]) | (refine wpList_load_part rfl 24 (.tmp 10) rfl w1.heap.size 0 rfl 69 (cellsM 8 s) (cellsW s) (0, 0) _ hD2.out HP.out uWd rfl iS.out ?_; simp only [Act.put, List.setIfInBounds_toArray, List.set_cons_zero, List.set_cons_succ]) | (refine wpList_store_row rfl 24 (.tmp 4) (.tmp 11) rfl (w.heap.size + 2) _ rfl rfl 24 _ hC2.out iS.out rfl nS.out ?_; simp only [Act.put]))
  refine bodyPost_ret (results_cell_row rfl _ _ (w.heap.size + 2) 24 (cellsW s) (0, 0) _ rfl (heap_setRow' _ _ _ _ _ hC2.out) uWd rfl iS.out) rfl ⟨rfl, below_setRow' hb3 _ (by omega) _⟩

theorem heap_new_at (w : World) (o : Obj) (n : Nat) (h : n = w.heap.size) : (w.alloc o).heap[n]? = some o := by
  subst h
  show (w.heap.push _)[w.heap.size]? = _
  simp
theorem lmN_and (a b i : Nat) : lmN (a &&& b) i = lmN a i &&& lmN b i := by
  unfold lmN; rw [Nat.and_div_two_pow, Nat.and_mod_two_pow]
theorem lmN_or (a b i : Nat) : lmN (a ||| b) i = lmN a i ||| lmN b i := by
  unfold lmN; rw [Nat.or_div_two_pow, Nat.or_mod_two_pow]
theorem lmN_xor (a b i : Nat) : lmN (a ^^^ b) i = lmN a i ^^^ lmN b i := by
  unfold lmN; rw [Nat.xor_div_two_pow, Nat.xor_mod_two_pow]
theorem built4 (a b c d : Int) : Try.prog.built 24 [(0, .int .u64 a), (1, .int .u64 b), (2, .int .u64 c), (3, .int .u64 d)] = some #[.int .u64 a, .int .u64 b, .int .u64 c, .int .u64 d] := by kernel_rfl
theorem lm_and (a b i : Nat) : bits .and .u64 (lm a i) (lm b i) = lm (a &&& b) i := by
  unfold lm; rw [u64_and_nat _ _ (lmN_lt a i) (lmN_lt b i), lmN_and]
theorem lm_or (a b i : Nat) : bits .or .u64 (lm a i) (lm b i) = lm (a ||| b) i := by
  unfold lm; rw [u64_or_nat _ _ (lmN_lt a i) (lmN_lt b i), lmN_or]
theorem lm_xor (a b i : Nat) : bits .xor .u64 (lm a i) (lm b i) = lm (a ^^^ b) i := by
  unfold lm; rw [u64_xor_nat _ _ (lmN_lt a i) (lmN_lt b i), lmN_xor]
set_option maxHeartbeats 1000000 in
theorem wand_any (a b : Nat) (w : World) : Calls Try.prog 24 #[wd a, wd b] w fun e w' => e = .returned (wd (a &&& b)) ∧ Below w.heap.size w w' := by
  have e0 := lm_and a b 0
  have e1 := lm_and a b 1
  have e2 := lm_and a b 2
  have e3 := lm_and a b 3
  unfold wd cellsW
  go_enter Try.func24, Try.ntmps24
  go_wp2
  refine bodyPost_ret (results_cell_row rfl _ _ (w.heap.size + 1 + 1) 24 (cellsW (a &&& b)) (0, 0) _ rfl (heap_new_at _ _ _ (by simp only [World.size_alloc])) uWd rfl iWd) rfl ⟨rfl, (by repeat (first | (with_reducible first | exact Below.refl _ _ | assumption | refine World.ext_below_of ?_ ?_ _ | refine Below.setCell ?_ ?_ _ | refine Below.alloc ?_ ?_ _ | refine Below.drew ?_ | refine World.size_le_ext _ _ _ ?_) | (solve | simp [go_sem] | (simp [go_sem]; omega) | omega)))⟩
set_option maxHeartbeats 1000000 in
theorem wor_any (a b : Nat) (w : World) : Calls Try.prog 25 #[wd a, wd b] w fun e w' => e = .returned (wd (a ||| b)) ∧ Below w.heap.size w w' := by
  have e0 := lm_or a b 0
  have e1 := lm_or a b 1
  have e2 := lm_or a b 2
  have e3 := lm_or a b 3
  unfold wd cellsW
  go_enter Try.func25, Try.ntmps25
  go_wp2
  refine bodyPost_ret (results_cell_row rfl _ _ (w.heap.size + 1 + 1) 24 (cellsW (a ||| b)) (0, 0) _ rfl (heap_new_at _ _ _ (by simp only [World.size_alloc])) uWd rfl iWd) rfl ⟨rfl, (by repeat (first | (with_reducible first | exact Below.refl _ _ | assumption | refine World.ext_below_of ?_ ?_ _ | refine Below.setCell ?_ ?_ _ | refine Below.alloc ?_ ?_ _ | refine Below.drew ?_ | refine World.size_le_ext _ _ _ ?_) | (solve | simp [go_sem] | (simp [go_sem]; omega) | omega)))⟩
set_option maxHeartbeats 1000000 in
theorem wxor_any (a b : Nat) (w : World) : Calls Try.prog 26 #[wd a, wd b] w fun e w' => e = .returned (wd (a ^^^ b)) ∧ Below w.heap.size w w' := by
  have e0 := lm_xor a b 0
  have e1 := lm_xor a b 1
  have e2 := lm_xor a b 2
  have e3 := lm_xor a b 3
  unfold wd cellsW
  go_enter Try.func26, Try.ntmps26
  go_wp2
  refine bodyPost_ret (results_cell_row rfl _ _ (w.heap.size + 1 + 1) 24 (cellsW (a ^^^ b)) (0, 0) _ rfl (heap_new_at _ _ _ (by simp only [World.size_alloc])) uWd rfl iWd) rfl ⟨rfl, (by repeat (first | (with_reducible first | exact Below.refl _ _ | assumption | refine World.ext_below_of ?_ ?_ _ | refine Below.setCell ?_ ?_ _ | refine Below.alloc ?_ ?_ _ | refine Below.drew ?_ | refine World.size_le_ext _ _ _ ?_) | (solve | simp [go_sem] | (simp [go_sem]; omega) | omega)))⟩

/-- The other bits. -/
def notW (x : Nat) : Nat := 2 ^ 256 - 1 - x
theorem lmN_not (x i : Nat) (h : x < 2 ^ 256) (hi : i < 4) : lmN (notW x) i = 18446744073709551615 - lmN x i := by
  have h1 : notW x = mk4 (18446744073709551615 - lmN x 0) (18446744073709551615 - lmN x 1) (18446744073709551615 - lmN x 2) (18446744073709551615 - lmN x 3) := by
    have h2 := limbs_sum x h
    have l0 := lmN_lt x 0
    have l1 := lmN_lt x 1
    have l2 := lmN_lt x 2
    have l3 := lmN_lt x 3
    unfold notW mk4
    rw [show (2 : Nat) ^ 256 = 115792089237316195423570985008687907853269984665640564039457584007913129639936 from by decide]
    omega
  have h4 := lmN_mk4 (18446744073709551615 - lmN x 0) (18446744073709551615 - lmN x 1) (18446744073709551615 - lmN x 2) (18446744073709551615 - lmN x 3) (by omega) (by omega) (by omega) (by omega)
  rw [h1]
  have hc : i = 0 ∨ i = 1 ∨ i = 2 ∨ i = 3 := by omega
  rcases hc with rfl | rfl | rfl | rfl
  · exact h4.1
  · exact h4.2.1
  · exact h4.2.2.1
  · exact h4.2.2.2
theorem lm_not (x i : Nat) (h : x < 2 ^ 256) (hi : i < 4) : bits .xor .u64 IntKind.u64.max (lm x i) = lm (notW x) i := by
  have := lmN_lt x i
  unfold lm
  rw [lmN_not x i h hi, show IntKind.u64.max = ((2 ^ 64 - 1 : Nat) : Int) from rfl, u64_xor_nat _ _ (by decide) (lmN_lt x i)]
  congr 1
  rw [Nat.xor_comm]
  apply Nat.eq_of_testBit_eq
  intro j
  have e := Nat.testBit_two_pow_sub_succ (show lmN x i < 2 ^ 64 from lmN_lt x i) j
  rw [show 18446744073709551615 - lmN x i = 2 ^ 64 - (lmN x i + 1) by omega, e, Nat.testBit_xor, Nat.testBit_two_pow_sub_one]
  rcases Nat.lt_or_ge j 64 with hj | hj
  · simp [hj]
  · rw [Nat.testBit_lt_two_pow (Nat.lt_of_lt_of_le (lmN_lt x i) (show 2 ^ 64 ≤ 2 ^ j from Nat.pow_le_pow_right (by decide) hj))]
    simp [Nat.not_lt.2 hj]
set_option maxHeartbeats 1000000 in
theorem wnot_any (a : Nat) (w : World) (h : a < 2 ^ 256) : Calls Try.prog 27 #[wd a] w fun e w' => e = .returned (wd (notW a)) ∧ Below w.heap.size w w' := by
  have e0 := lm_not a 0 h (by omega)
  have e1 := lm_not a 1 h (by omega)
  have e2 := lm_not a 2 h (by omega)
  have e3 := lm_not a 3 h (by omega)
  clear h
  unfold wd cellsW
  go_enter Try.func27, Try.ntmps27
  go_wp2
  refine bodyPost_ret (results_cell_row rfl _ _ (w.heap.size + 1) 24 (cellsW (notW a)) (0, 0) _ rfl (heap_new_at _ _ _ (by simp only [World.size_alloc])) uWd rfl iWd) rfl ⟨rfl, (by repeat (first | (with_reducible first | exact Below.refl _ _ | assumption | refine World.ext_below_of ?_ ?_ _ | refine Below.setCell ?_ ?_ _ | refine Below.alloc ?_ ?_ _ | refine Below.drew ?_ | refine World.size_le_ext _ _ _ ?_) | (solve | simp [go_sem] | (simp [go_sem]; omega) | omega)))⟩
/-- Below 0, as a signed number? -/
def negW (x : Nat) : Bool := decide (2 ^ 255 ≤ x)
theorem lm_neg (x : Nat) (h : x < 2 ^ 256) : decide (lm x 3 / 9223372036854775808 = 1) = negW x := by
  unfold negW
  congr 1
  apply propext
  unfold lm
  have h2 := limbs_sum x h
  have l0 := lmN_lt x 0
  have l1 := lmN_lt x 1
  have l2 := lmN_lt x 2
  have l3 := lmN_lt x 3
  rw [show (2 : Nat) ^ 255 = 57896044618658097711785492504343953926634992332820282019728792003956564819968 from by decide]
  omega
theorem wneg_any (a : Nat) (w : World) (h : a < 2 ^ 256) : Calls Try.prog 107 #[wd a] w fun e w' => e = .returned (.bool (negW a)) ∧ Below w.heap.size w w' := by
  rw [← lm_neg a h]
  clear h
  unfold wd cellsW
  go_enter Try.func107, Try.ntmps107
  go_wp2
  go_ret
  exact ⟨rfl, (by repeat (first | (with_reducible first | exact Below.refl _ _ | assumption | refine World.ext_below_of ?_ ?_ _ | refine Below.setCell ?_ ?_ _ | refine Below.alloc ?_ ?_ _ | refine Below.drew ?_ | refine World.size_le_ext _ _ _ ?_) | (solve | simp [go_sem] | (simp [go_sem]; omega) | omega)))⟩

theorem cellsW_zero : cellsW 0 = #[.int .u64 0, .int .u64 0, .int .u64 0, .int .u64 0] := rfl
def sizeW (x : Nat) : Nat := if negW x = true then subW 0 x else x
def signW (x : Nat) (n : Bool) : Nat := if n = true then subW 0 x else x
theorem sizeW_lt (x : Nat) (h : x < 2 ^ 256) : sizeW x < 2 ^ 256 := by
  unfold sizeW; split
  · exact subW_lt _ _
  · exact h
theorem signW_lt (x : Nat) (n : Bool) (h : x < 2 ^ 256) : signW x n < 2 ^ 256 := by
  unfold signW; split
  · exact subW_lt _ _
  · exact h
theorem wsize_any (a : Nat) (w : World) (h : a < 2 ^ 256) : Calls Try.prog 117 #[wd a] w fun e w' => e = .returned (wd (sizeW a)) ∧ Below w.heap.size w w' := by
  have hN := hid (fun w => wneg_any a w h)
  have hS := hid (fun w => wsub_any 0 a w (by decide) h)
  have iA := hid (iW a)
  have nA := hid (one_cellsW a)
  clear h
  cases hn : negW a with
  | true =>
    rw [hn] at hN
    have HS := hid (show sizeW a = subW 0 a by unfold sizeW; rw [if_pos hn])
    have iS := hid (iW (subW 0 a))
    have nS := hid (one_cellsW (subW 0 a))
    unfold wd at *
    rw [cellsW_zero] at hS
    clear hn
    have hA0 := hid (show ArrW 24 ((w.alloc (.cells (cellsW a) 24)).alloc (.cells (cellsW 0) 24)) w.heap.size a from (ArrW.new _ w a).alloc _)
    have hC0 := hid (show ArrW 24 ((w.alloc (.cells (cellsW a) 24)).alloc (.cells (cellsW 0) 24)) (w.heap.size + 1) 0 by
      have := ArrW.new 24 (w.alloc (.cells (cellsW a) 24)) 0
      rw [World.size_alloc] at this; exact this)
    have hb0 : Below w.heap.size w ((w.alloc (.cells (cellsW a) 24)).alloc (.cells (cellsW 0) 24)) := ((Below.refl _ _).alloc (Nat.le_refl _) _).alloc (by simp) _
    go_enter Try.func117, Try.ntmps117
    go_wp2_with (first | (refine wpList_alloc_new rfl 24 rfl (cellsW 0) zWd ?_; simp only [Act.put, List.setIfInBounds_toArray, List.set_cons_zero, List.set_cons_succ]) | (refine wpList_load_row rfl 24 (.tmp 1) rfl w.heap.size rfl 24 _ (0, 0) _ hA0.out uWd rfl iA.out ?_; simp only [Act.put, List.setIfInBounds_toArray, List.set_cons_zero, List.set_cons_succ]))
    refine (hN.out _).mono ?_
    rintro e w1 ⟨rfl, hb1⟩
    have hA1 := hid (hA0.out.below hb1 hA0.out.lt)
    have hC1 := hid (hC0.out.below hb1 hC0.out.lt)
    have hb2 := hb0.trans (hb1.mono hb0.size)
    clear hA0 hC0 hb0 hb1
    go_wp2_with (first | (refine wpList_load_row rfl 24 (.tmp 1) rfl w.heap.size rfl 24 _ (0, 0) _ hA1.out uWd rfl iA.out ?_; simp only [Act.put, List.setIfInBounds_toArray, List.set_cons_zero, List.set_cons_succ]))
    refine (hS.out _).mono ?_
    rintro e w2 ⟨rfl, hb3⟩
    have hC2 := hid (hC1.out.below hb3 hC1.out.lt)
    have hb4 := hb2.trans (hb3.mono hb2.size)
    clear hA1 hC1 hb2 hb3
    go_wp2_with (first | (refine wpList_store_row rfl 24 (.tmp 2) (.tmp 7) rfl (w.heap.size + 1) _ rfl rfl 24 _ hC2.out iS.out rfl nS.out ?_; simp only [Act.put]))
    refine bodyPost_ret (results_cell_row rfl _ _ (w.heap.size + 1) 24 (cellsW (subW 0 a)) (0, 0) _ rfl (heap_setRow' _ _ _ _ _ hC2.out) uWd rfl iS.out) rfl ⟨by rw [HS.out], below_setRow' hb4 _ (by omega) _⟩
  | false =>
    rw [hn] at hN
    have HS := hid (show sizeW a = a by unfold sizeW; rw [if_neg (by rw [hn]; decide)])
    unfold wd at *
    clear hn hS
    have hA0 := hid (show ArrW 24 ((w.alloc (.cells (cellsW a) 24)).alloc (.cells (cellsW 0) 24)) w.heap.size a from (ArrW.new _ w a).alloc _)
    have hC0 := hid (show ArrW 24 ((w.alloc (.cells (cellsW a) 24)).alloc (.cells (cellsW 0) 24)) (w.heap.size + 1) 0 by
      have := ArrW.new 24 (w.alloc (.cells (cellsW a) 24)) 0
      rw [World.size_alloc] at this; exact this)
    have hb0 : Below w.heap.size w ((w.alloc (.cells (cellsW a) 24)).alloc (.cells (cellsW 0) 24)) := ((Below.refl _ _).alloc (Nat.le_refl _) _).alloc (by simp) _
    go_enter Try.func117, Try.ntmps117
    go_wp2_with (first | (refine wpList_alloc_new rfl 24 rfl (cellsW 0) zWd ?_; simp only [Act.put, List.setIfInBounds_toArray, List.set_cons_zero, List.set_cons_succ]) | (refine wpList_load_row rfl 24 (.tmp 1) rfl w.heap.size rfl 24 _ (0, 0) _ hA0.out uWd rfl iA.out ?_; simp only [Act.put, List.setIfInBounds_toArray, List.set_cons_zero, List.set_cons_succ]))
    refine (hN.out _).mono ?_
    rintro e w1 ⟨rfl, hb1⟩
    have hA1 := hid (hA0.out.below hb1 hA0.out.lt)
    have hC1 := hid (hC0.out.below hb1 hC0.out.lt)
    have hb2 := hb0.trans (hb1.mono hb0.size)
    clear hA0 hC0 hb0 hb1
    go_wp2_with (first | (refine wpList_load_row rfl 24 (.tmp 1) rfl w.heap.size rfl 24 _ (0, 0) _ hA1.out uWd rfl iA.out ?_; simp only [Act.put, List.setIfInBounds_toArray, List.set_cons_zero, List.set_cons_succ]) | (refine wpList_store_row rfl 24 (.tmp 2) (.tmp 8) rfl (w.heap.size + 1) _ rfl rfl 24 _ hC1.out iA.out rfl nA.out ?_; simp only [Act.put]))
    refine bodyPost_ret (results_cell_row rfl _ _ (w.heap.size + 1) 24 (cellsW a) (0, 0) _ rfl (heap_setRow' _ _ _ _ _ hC1.out) uWd rfl iA.out) rfl ⟨by rw [HS.out], below_setRow' hb2 _ (by omega) _⟩
theorem wsigned_any (a : Nat) (n : Bool) (w : World) (h : a < 2 ^ 256) : Calls Try.prog 116 #[wd a, .bool n] w fun e w' => e = .returned (wd (signW a n)) ∧ Below w.heap.size w w' := by
  have hS := hid (fun w => wsub_any 0 a w (by decide) h)
  have iA := hid (iW a)
  have nA := hid (one_cellsW a)
  clear h
  cases n with
  | true =>
    have HS := hid (show signW a true = subW 0 a from rfl)
    have iS := hid (iW (subW 0 a))
    have nS := hid (one_cellsW (subW 0 a))
    unfold wd at *
    rw [cellsW_zero] at hS
    have hA0 := hid (show ArrW 24 ((w.alloc (.cells (cellsW a) 24)).alloc (.cells (cellsW 0) 24)) w.heap.size a from (ArrW.new _ w a).alloc _)
    have hC0 := hid (show ArrW 24 ((w.alloc (.cells (cellsW a) 24)).alloc (.cells (cellsW 0) 24)) (w.heap.size + 1) 0 by
      have := ArrW.new 24 (w.alloc (.cells (cellsW a) 24)) 0
      rw [World.size_alloc] at this; exact this)
    have hb0 : Below w.heap.size w ((w.alloc (.cells (cellsW a) 24)).alloc (.cells (cellsW 0) 24)) := ((Below.refl _ _).alloc (Nat.le_refl _) _).alloc (by simp) _
    go_enter Try.func116, Try.ntmps116
    go_wp2_with (first | (refine wpList_alloc_new rfl 24 rfl (cellsW 0) zWd ?_; simp only [Act.put, List.setIfInBounds_toArray, List.set_cons_zero, List.set_cons_succ]) | (refine wpList_load_row rfl 24 (.tmp 2) rfl w.heap.size rfl 24 _ (0, 0) _ hA0.out uWd rfl iA.out ?_; simp only [Act.put, List.setIfInBounds_toArray, List.set_cons_zero, List.set_cons_succ]))
    refine (hS.out _).mono ?_
    rintro e w2 ⟨rfl, hb3⟩
    have hC2 := hid (hC0.out.below hb3 hC0.out.lt)
    have hb4 := hb0.trans (hb3.mono hb0.size)
    clear hA0 hC0 hb0 hb3
    go_wp2_with (first | (refine wpList_store_row rfl 24 (.tmp 4) (.tmp 8) rfl (w.heap.size + 1) _ rfl rfl 24 _ hC2.out iS.out rfl nS.out ?_; simp only [Act.put]))
    refine bodyPost_ret (results_cell_row rfl _ _ (w.heap.size + 1) 24 (cellsW (subW 0 a)) (0, 0) _ rfl (heap_setRow' _ _ _ _ _ hC2.out) uWd rfl iS.out) rfl ⟨by rw [HS.out], below_setRow' hb4 _ (by omega) _⟩
  | false =>
    have HS := hid (show signW a false = a from rfl)
    unfold wd at *
    clear hS
    have hA0 := hid (show ArrW 24 ((w.alloc (.cells (cellsW a) 24)).alloc (.cells (cellsW 0) 24)) w.heap.size a from (ArrW.new _ w a).alloc _)
    have hC0 := hid (show ArrW 24 ((w.alloc (.cells (cellsW a) 24)).alloc (.cells (cellsW 0) 24)) (w.heap.size + 1) 0 by
      have := ArrW.new 24 (w.alloc (.cells (cellsW a) 24)) 0
      rw [World.size_alloc] at this; exact this)
    have hb0 : Below w.heap.size w ((w.alloc (.cells (cellsW a) 24)).alloc (.cells (cellsW 0) 24)) := ((Below.refl _ _).alloc (Nat.le_refl _) _).alloc (by simp) _
    go_enter Try.func116, Try.ntmps116
    go_wp2_with (first | (refine wpList_alloc_new rfl 24 rfl (cellsW 0) zWd ?_; simp only [Act.put, List.setIfInBounds_toArray, List.set_cons_zero, List.set_cons_succ]) | (refine wpList_load_row rfl 24 (.tmp 2) rfl w.heap.size rfl 24 _ (0, 0) _ hA0.out uWd rfl iA.out ?_; simp only [Act.put, List.setIfInBounds_toArray, List.set_cons_zero, List.set_cons_succ]) | (refine wpList_store_row rfl 24 (.tmp 4) (.tmp 9) rfl _ _ rfl rfl 24 _ (ArrW.new _ _ 0) iA.out rfl nA.out ?_; simp only [Act.put]))
    simp only [World.size_alloc]
    refine bodyPost_ret (results_cell_row rfl _ _ (w.heap.size + 1) 24 (cellsW a) (0, 0) _ rfl (heap_setRow' _ _ _ _ _ hC0.out) uWd rfl iA.out) rfl ⟨by rw [HS.out], below_setRow' hb0 _ (by omega) _⟩

theorem div_succ (x i : Nat) : x / 2 ^ (64 * i) = x / 2 ^ (64 * (i + 1)) * 2 ^ 64 + lmN x i := by
  rw [pow64_succ, ← Nat.div_div_eq_div_mul]
  unfold lmN
  generalize x / 2 ^ (64 * i) = y
  omega
theorem cmp_hi (a b i : Nat) (h : a / 2 ^ (64 * (i + 1)) = b / 2 ^ (64 * (i + 1))) (hl : lmN a i < lmN b i) : a < b := by
  have h1 := div_succ a i
  have h2 := div_succ b i
  have : a / 2 ^ (64 * i) < b / 2 ^ (64 * i) := by omega
  exact Nat.lt_of_not_le fun hle => by have := Nat.div_le_div_right (c := 2 ^ (64 * i)) hle; omega
set_option maxHeartbeats 1000000 in
theorem wcmp_any (a b : Nat) (w : World) (ha : a < 2 ^ 256) (hb : b < 2 ^ 256) : Calls Try.prog 42 #[wd a, wd b] w fun e w' => e = .returned (.int .i64 (cmpI a b)) ∧ Below w.heap.size w w' := by
  have HD := hid (show a / 2 ^ (64 * 4) = b / 2 ^ (64 * 4) by rw [Nat.div_eq_of_lt ha, Nat.div_eq_of_lt hb])
  clear ha hb
  unfold wd
  have hA0 := hid (show ArrW 24 ((w.alloc (.cells (cellsW a) 24)).alloc (.cells (cellsW b) 24)) w.heap.size a from (ArrW.new _ w a).alloc _)
  have hB0 := hid (show ArrW 24 ((w.alloc (.cells (cellsW a) 24)).alloc (.cells (cellsW b) 24)) (w.heap.size + 1) b by
    have := ArrW.new 24 (w.alloc (.cells (cellsW a) 24)) b
    rw [World.size_alloc] at this; exact this)
  have hb0 : Below w.heap.size w ((w.alloc (.cells (cellsW a) 24)).alloc (.cells (cellsW b) 24)) := ((Below.refl _ _).alloc (Nat.le_refl _) _).alloc (by simp) _
  go_enter Try.func42, Try.ntmps42
  go_wp2_with fail
  generalize (w.alloc (.cells (cellsW a) 24)).alloc (.cells (cellsW b) 24) = w1 at hA0 hB0 hb0 ⊢
  go_loopw [5] (fun iv wr => ∃ i : Nat, i ≤ 4 ∧ iv = .int .i64 ((i : Int) - 1) ∧ Hid (a / 2 ^ (64 * i) = b / 2 ^ (64 * i)) ∧ Hid (ArrW 24 wr w.heap.size a) ∧ Hid (ArrW 24 wr (w.heap.size + 1) b) ∧ Below w.heap.size w wr)
    (fun iv _ => (intOf iv + 1).toNat)
  case atStart => exact ⟨4, by omega, rfl, HD, hA0, hB0, hb0⟩
  case round =>
    clear hA0 hB0 hb0
    obtain ⟨i, hi, rfl, hX, hA, hB, hb⟩ := hrel
    by_cases h0 : i = 0
    · subst h0
      have he : a = b := by simpa using hX.out
      have HE := hid (show cmpI a b = 0 from cmpI_eq he)
      clear he hX
      go_wp2
      go_ret
      exact ⟨by rw [HE.out]; rfl, hb⟩
    · obtain ⟨k, rfl⟩ : ∃ k, i = k + 1 := ⟨i - 1, by omega⟩
      have c1 := hA.out.cell k (by omega)
      have c2 := hB.out.cell k (by omega)
      have l1 := hA.out.lt
      have l2 := hB.out.lt
      have e1 : (((k + 1 : Nat) : Int) - 1) = (k : Int) := by omega
      rw [e1]
      clear e1 h0
      have hdec : (lm a k < lm b k ∧ Hid (cmpI a b = -1)) ∨ (lm b k < lm a k ∧ Hid (cmpI a b = 1)) ∨ (lm a k = lm b k ∧ Hid (a / 2 ^ (64 * k) = b / 2 ^ (64 * k))) := by
        unfold lm
        rcases Nat.lt_trichotomy (lmN a k) (lmN b k) with h | h | h
        · exact Or.inl ⟨by omega, hid (cmpI_lt (cmp_hi a b k hX.out h))⟩
        · exact Or.inr (Or.inr ⟨by omega, hid (by rw [div_succ a k, div_succ b k, hX.out, h])⟩)
        · exact Or.inr (Or.inl ⟨by omega, hid (cmpI_gt (cmp_hi b a k hX.out.symm h))⟩)
      clear hX
      rcases hdec with ⟨h, hc⟩ | ⟨h, hc⟩ | ⟨h, hc⟩
      · have h1 : ¬ lm b k ≤ lm a k := by omega
        go_wp2_with fail
        (refine wp_region_ext (by kernel_rfl) (by kernel_rfl) ?_; (repeat (go_big_quiet_step (first | fail))); refine wpQuiet_nil ?_; rintro _ ⟨xw, rfl⟩)
        go_wp2
        go_ret
        exact ⟨by rw [hc.out]; rfl, World.ext_below_of hb hb.size xw⟩
      · have h1 : ¬ lm a k < lm b k := by omega
        have h2 : ¬ lm a k ≤ lm b k := by omega
        go_wp2_with fail
        (refine wp_region_ext (by kernel_rfl) (by kernel_rfl) ?_; (repeat (go_big_quiet_step (first | fail))); refine wpQuiet_nil ?_; rintro _ ⟨xw, rfl⟩)
        go_wp2_with (refine wp_region_ext (by kernel_rfl) (by kernel_rfl) ?_; (repeat (go_big_quiet_step (first | fail))); refine wpQuiet_nil ?_; rintro _ ⟨xw, rfl⟩)
        go_ret
        exact ⟨by rw [hc.out]; rfl, (by repeat (first | (with_reducible first | exact Below.refl _ _ | assumption | refine World.ext_below_of ?_ ?_ _ | refine Below.setCell ?_ ?_ _ | refine Below.alloc ?_ ?_ _ | refine Below.drew ?_ | refine World.size_le_ext _ _ _ ?_) | (solve | simp [go_sem] | (simp [go_sem]; omega) | omega)))⟩
      · have h1 : ¬ lm a k < lm b k := by omega
        have h2 : ¬ lm b k < lm a k := by omega
        go_wp2_with (refine wp_region_ext (by kernel_rfl) (by kernel_rfl) ?_; (repeat (go_big_quiet_step (first | fail))); refine wpQuiet_nil ?_; rintro _ ⟨xw, rfl⟩)
        go_roundw
        case rel => exact ⟨k, by omega, rfl, hc, hid ((hA.out.ext _).ext _), hid ((hB.out.ext _).ext _), (by repeat (first | (with_reducible first | exact Below.refl _ _ | assumption | refine World.ext_below_of ?_ ?_ _ | refine Below.setCell ?_ ?_ _ | refine Below.alloc ?_ ?_ _ | refine Below.drew ?_ | refine World.size_le_ext _ _ _ ?_) | (solve | simp [go_sem] | (simp [go_sem]; omega) | omega)))⟩
        case measure => simp [intOf]

/-- The sign turned round: numbers in their order as signed ones. -/
def flipW (x : Nat) : Nat := (x + 2 ^ 255) % 2 ^ 256
theorem flipW_lt (x : Nat) : flipW x < 2 ^ 256 := Nat.mod_lt _ (Nat.pow_pos (by omega))
theorem flip_top (x : Nat) (h : x < 2 ^ 256) : flipW x = mk4 (lmN x 0) (lmN x 1) (lmN x 2) ((lmN x 3 + 2 ^ 63) % 2 ^ 64) := by
  have h2 := limbs_sum x h
  have l0 := lmN_lt x 0
  have l1 := lmN_lt x 1
  have l2 := lmN_lt x 2
  have l3 := lmN_lt x 3
  unfold flipW mk4
  rw [show (2 : Nat) ^ 256 = 115792089237316195423570985008687907853269984665640564039457584007913129639936 from by decide, show (2 : Nat) ^ 255 = 57896044618658097711785492504343953926634992332820282019728792003956564819968 from by decide]
  omega
theorem xor_small (x n : Nat) (h : x < 2 ^ n) : x ^^^ 2 ^ n = 2 ^ n + x := by
  apply Nat.eq_of_testBit_eq
  intro j
  rw [Nat.testBit_xor, Nat.testBit_two_pow]
  rcases Nat.lt_trichotomy j n with hj | hj | hj
  · rw [Nat.testBit_two_pow_add_gt hj, decide_eq_false (by omega)]; simp
  · subst hj
    rw [Nat.testBit_two_pow_add_eq, decide_eq_true rfl]; simp
  · have h1 : 2 ^ n + x < 2 ^ (n + 1) := by rw [Nat.pow_succ]; omega
    have h2 : 2 ^ (n + 1) ≤ 2 ^ j := Nat.pow_le_pow_right (by decide) hj
    rw [Nat.testBit_lt_two_pow (Nat.lt_of_lt_of_le h1 h2), Nat.testBit_lt_two_pow (show x < 2 ^ j by omega), decide_eq_false (by omega)]
    rfl
theorem xor_top (x : Nat) (h : x < 2 ^ 64) : x ^^^ 2 ^ 63 = (x + 2 ^ 63) % 2 ^ 64 := by
  rcases Nat.lt_or_ge x (2 ^ 63) with h1 | h1
  · rw [xor_small x 63 h1]; omega
  · obtain ⟨y, rfl⟩ : ∃ y, x = 2 ^ 63 + y := ⟨x - 2 ^ 63, by omega⟩
    rw [← xor_small y 63 (by omega), Nat.xor_assoc, Nat.xor_self, Nat.xor_zero, xor_small y 63 (by omega)]
    omega
theorem flip_set (x : Nat) (h : x < 2 ^ 256) : (cellsW x).setIfInBounds 3 (.int .u64 (bits .xor .u64 (lm x 3) 9223372036854775808)) = cellsW (flipW x) := by
  have l0 := lmN_lt x 0
  have l1 := lmN_lt x 1
  have l2 := lmN_lt x 2
  have l3 := lmN_lt x 3
  rw [flip_top x h, cellsW_mk4 _ _ _ _ l0 l1 l2 (Nat.mod_lt _ (by decide)), ← xor_top _ l3, ← u64_xor_nat _ _ l3 (by decide)]
  rfl
set_option maxHeartbeats 1000000 in
theorem wscmp_any (a b : Nat) (w : World) (ha : a < 2 ^ 256) (hb : b < 2 ^ 256) : Calls Try.prog 45 #[wd a, wd b] w fun e w' => e = .returned (.int .i64 (cmpI (flipW a) (flipW b))) ∧ Below w.heap.size w w' := by
  have hC := fun w => wcmp_any (flipW a) (flipW b) w (flipW_lt a) (flipW_lt b)
  unfold wd at hC
  rw [← flip_set a ha, ← flip_set b hb] at hC
  simp only [cellsW, List.setIfInBounds_toArray, List.set_cons_zero, List.set_cons_succ] at hC
  have HC := hid hC
  clear ha hb hC
  unfold wd cellsW
  go_enter Try.func45, Try.ntmps45
  go_wp2_with fail
  refine (HC.out _).mono ?_
  rintro e w1 ⟨rfl, hb3⟩
  go_wp2
  go_ret
  exact ⟨rfl, Below.trans (by repeat (first | (with_reducible first | exact Below.refl _ _ | assumption | refine World.ext_below_of ?_ ?_ _ | refine Below.setCell ?_ ?_ _ | refine Below.alloc ?_ ?_ _ | refine Below.drew ?_ | refine World.size_le_ext _ _ _ ?_) | (solve | simp [go_sem] | (simp [go_sem]; omega) | omega))) (hb3.mono (by simp only [World.size_alloc]; omega))⟩
end Go.Proofs.Ytfidbiabgmioaaa
