import Derived.Test.YtfidbiabgmioaaaWdN
import Derived.Test.YtfidbiabgmioaaaB64
import Derived.Test.YtfidbiabgmioaaaTwo
/-! word: sums and differences. -/
set_option maxRecDepth 4000
set_option linter.unusedVariables false
set_option linter.unusedSimpArgs false
namespace Go.Proofs.Ytfidbiabgmioaaa
open Go.RowKit

theorem pow64_succ (i : Nat) : 2 ^ (64 * (i + 1)) = 2 ^ (64 * i) * 2 ^ 64 := by rw [← Nat.pow_add]; rfl
theorem lmN_set (x i v j : Nat) (hx : x < 2 ^ (64 * i)) (hv : v < 2 ^ 64) : lmN (x + 2 ^ (64 * i) * v) j = if i = j then v else lmN x j := by
  unfold lmN
  by_cases h : i = j
  · subst h
    rw [if_pos rfl, Nat.add_mul_div_left _ _ (Nat.pow_pos (by omega)), Nat.div_eq_of_lt hx, Nat.zero_add, Nat.mod_eq_of_lt hv]
  · rw [if_neg h]
    rcases Nat.lt_or_ge j i with hlt | hge
    · have e2 : (2 : Nat) ^ (64 * i) * v = 2 ^ (64 * j) * (2 ^ 64 * (2 ^ (64 * i - 64 * j - 64) * v)) := by
        rw [← Nat.mul_assoc, ← Nat.mul_assoc, ← Nat.pow_add, ← Nat.pow_add]; congr 2; omega
      rw [e2, Nat.add_mul_div_left _ _ (Nat.pow_pos (by omega)), Nat.add_mul_mod_self_left]
    · have h4 : 2 ^ (64 * (i + 1)) ≤ 2 ^ (64 * j) := Nat.pow_le_pow_right (by omega) (by omega)
      have h5 : 2 ^ (64 * i) * v ≤ 2 ^ (64 * i) * (2 ^ 64 - 1) := Nat.mul_le_mul_left _ (by omega)
      rw [pow64_succ] at h4
      rw [Nat.div_eq_of_lt (by omega), Nat.div_eq_of_lt (by omega)]
theorem set_lt (x i v : Nat) (hx : x < 2 ^ (64 * i)) (hv : v < 2 ^ 64) : x + 2 ^ (64 * i) * v < 2 ^ (64 * (i + 1)) := by
  have h5 : 2 ^ (64 * i) * v ≤ 2 ^ (64 * i) * (2 ^ 64 - 1) := Nat.mul_le_mul_left _ (by omega)
  rw [pow64_succ]
  omega
/-- A limb put on top. -/
theorem cellsW_set (x i v : Nat) (hx : x < 2 ^ (64 * i)) (hv : v < 2 ^ 64) (hi : i < 4) : (cellsW x).setIfInBounds i (.int .u64 (v : Int)) = cellsW (x + 2 ^ (64 * i) * v) := by
  have h := fun j => lmN_set x i v j hx hv
  have hc : i = 0 ∨ i = 1 ∨ i = 2 ∨ i = 3 := by omega
  unfold cellsW lm
  rw [h 0, h 1, h 2, h 3]
  rcases hc with e | e | e | e <;> simp [e]
/-- The lower limbs of a word. -/
theorem low_succ (a i : Nat) : a % 2 ^ (64 * (i + 1)) = a % 2 ^ (64 * i) + 2 ^ (64 * i) * lmN a i := by
  rw [pow64_succ, Nat.mod_mul]; rfl
theorem low_full (a : Nat) (h : a < 2 ^ 256) : a % 2 ^ (64 * 4) = a := Nat.mod_eq_of_lt h
theorem sum_step (a b X c i : Nat) (h : X + 2 ^ (64 * i) * c = a % 2 ^ (64 * i) + b % 2 ^ (64 * i)) :
    X + 2 ^ (64 * i) * ((lmN a i + lmN b i + c) % 2 ^ 64) + 2 ^ (64 * (i + 1)) * ((lmN a i + lmN b i + c) / 2 ^ 64) = a % 2 ^ (64 * (i + 1)) + b % 2 ^ (64 * (i + 1)) := by
  rw [low_succ, low_succ, pow64_succ]
  generalize hs : lmN a i + lmN b i + c = s
  have e1 : 2 ^ (64 * i) * (s % 2 ^ 64) + 2 ^ (64 * i) * 2 ^ 64 * (s / 2 ^ 64) = 2 ^ (64 * i) * s := by
    rw [Nat.mul_assoc, ← Nat.mul_add, Nat.mod_add_div]
  have e2 : 2 ^ (64 * i) * s = 2 ^ (64 * i) * lmN a i + 2 ^ (64 * i) * lmN b i + 2 ^ (64 * i) * c := by rw [← hs, Nat.mul_add, Nat.mul_add]
  omega

set_option maxHeartbeats 1000000 in
theorem wsum_any (a b : Nat) (w : World) (ha : a < 2 ^ 256) (hb : b < 2 ^ 256) : Calls Try.prog 109 #[wd a, wd b] w fun e w' => e = .returned (.tuple #[wd ((a + b) % 2 ^ 256), .int .u64 (((a + b) / 2 ^ 256 : Nat) : Int)]) ∧ Below w.heap.size w w' := by
  have HA := hid ha
  have HB := hid hb
  clear ha hb
  unfold wd
  have iA := hid (iW a)
  have hA0 := hid (show ArrW 24 (((w.alloc (.cells (cellsW a) 24)).alloc (.cells (cellsW b) 24)).alloc (.cells (cellsW 0) 24)) w.heap.size a from ((ArrW.new _ w a).alloc _).alloc _)
  have hB0 := hid (show ArrW 24 (((w.alloc (.cells (cellsW a) 24)).alloc (.cells (cellsW b) 24)).alloc (.cells (cellsW 0) 24)) (w.heap.size + 1) b by
    have := ArrW.new 24 (w.alloc (.cells (cellsW a) 24)) b
    rw [World.size_alloc] at this; exact this.alloc _)
  have hC0 := hid (show ArrW 24 (((w.alloc (.cells (cellsW a) 24)).alloc (.cells (cellsW b) 24)).alloc (.cells (cellsW 0) 24)) (w.heap.size + 2) 0 by
    have := ArrW.new 24 ((w.alloc (.cells (cellsW a) 24)).alloc (.cells (cellsW b) 24)) 0
    rw [World.size_alloc, World.size_alloc] at this; exact this)
  have hb0 : Below w.heap.size w (((w.alloc (.cells (cellsW a) 24)).alloc (.cells (cellsW b) 24)).alloc (.cells (cellsW 0) 24)) := (((Below.refl _ _).alloc (Nat.le_refl _) _).alloc (by simp) _).alloc (by simp; omega) _
  go_enter Try.func109, Try.ntmps109
  go_wp2_with (refine wpList_alloc_new rfl 24 rfl (cellsW 0) zWd ?_; simp only [Act.put, List.setIfInBounds_toArray, List.set_cons_zero, List.set_cons_succ])
  simp only [World.size_alloc]
  generalize ((w.alloc (.cells (cellsW a) 24)).alloc (.cells (cellsW b) 24)).alloc (.cells (cellsW 0) 24) = w1 at hA0 hB0 hC0 hb0 ⊢
  go_loopw [5, 7] (fun cv iv wr => ∃ i c X : Nat, i ≤ 4 ∧ c ≤ 1 ∧ iv = .int .i64 i ∧ cv = .int .u64 c ∧ Hid (X < 2 ^ (64 * i) ∧ X + 2 ^ (64 * i) * c = a % 2 ^ (64 * i) + b % 2 ^ (64 * i)) ∧ Hid (ArrW 24 wr w.heap.size a) ∧ Hid (ArrW 24 wr (w.heap.size + 1) b) ∧ Hid (ArrW 24 wr (w.heap.size + 2) X) ∧ Below w.heap.size w wr)
    (fun _ iv _ => 4 - (intOf iv).toNat)
  case atStart => exact ⟨0, 0, 0, by omega, by omega, rfl, rfl, hid ⟨by simp, by simp [Nat.mod_one]⟩, hA0, hB0, hC0, hb0⟩
  case round =>
    clear hA0 hB0 hC0 hb0
    obtain ⟨i, c, X, hi, hc, rfl, rfl, hX, hA, hB, hC, hb⟩ := hrel
    by_cases hlt : i < 4
    · have c1 := hA.out.cell i hlt
      have c2 := hB.out.cell i hlt
      have c3 := hC.out.cell i hlt
      have f3 := hC.out.free i
      have l1 := hA.out.lt
      have l2 := hB.out.lt
      have l3 := hC.out.lt
      have hadd := add64_run (lm a i) (lm b i) (c : Int) (lm_nonneg _ _) (lm_nonneg _ _) (by omega) (by omega)
      have q1 : (lm a i + lm b i + (c : Int)) % 18446744073709551616 = (((lmN a i + lmN b i + c) % 2 ^ 64 : Nat) : Int) := by unfold lm; omega
      have q2 : (lm a i + lm b i + (c : Int)) / 18446744073709551616 = (((lmN a i + lmN b i + c) / 2 ^ 64 : Nat) : Int) := by unfold lm; omega
      have g1 := lmN_lt a i
      have g2 := lmN_lt b i
      have hc2 : (lmN a i + lmN b i + c) / 2 ^ 64 ≤ 1 := by omega
      have hst := hid (sum_step a b X c i hX.out.2)
      have hlt2 := hid (set_lt X i ((lmN a i + lmN b i + c) % 2 ^ 64) hX.out.1 (Nat.mod_lt _ (by decide)))
      have hset := hid (cellsW_set X i ((lmN a i + lmN b i + c) % 2 ^ 64) hX.out.1 (Nat.mod_lt _ (by decide)) hlt)
      rw [q1, q2] at hadd
      obtain ⟨u, hu⟩ : ∃ u, u = (lmN a i + lmN b i + c) % 2 ^ 64 := ⟨_, rfl⟩
      obtain ⟨v, hv⟩ : ∃ v, v = (lmN a i + lmN b i + c) / 2 ^ 64 := ⟨_, rfl⟩
      rw [← hu] at hadd hst hlt2 hset
      rw [← hv] at hadd hst hc2
      clear q1 q2 hu hv g1 g2
      go_wp2_with fail
      (refine wp_region_ext_float 13 11 [0, 1, 2, 3, 4, 5, 6, 7, 8, 9, 10, 12] [_, _, _, _, _, _, _, _, _, _, _, _] _ _ _ rfl rfl rfl rfl (by kernel_rfl) (by kernel_rfl) ?_; (repeat (go_big_quiet_step (first | fail))); refine wpQuiet_nil ?_; refine ⟨?_, ?_⟩; rotate_left; rintro _ ⟨xw, rfl⟩; rotate_left; (repeat (go_big_quiet_step (first | fail))); refine wpQuiet_nil ?_; rintro _ ⟨xw, rfl⟩)
      all_goals
        go_wp2
        go_roundw
        case rel =>
          exact ⟨i + 1, v, X + 2 ^ (64 * i) * u, by omega, hc2, by go_num, rfl, hid ⟨hlt2.out, hst.out⟩, hid ((hA.out.ext xw).other (by show w.heap.size ≠ w.heap.size + 2; omega) _), hid ((hB.out.ext xw).other (by show w.heap.size + 1 ≠ w.heap.size + 2; omega) _), hid ((hC.out.ext xw).set i _ hset.out), (World.ext_below_of hb hb.size xw).setCell (p := ⟨w.heap.size + 2, i, none⟩) (by show w.heap.size ≤ w.heap.size + 2; omega) _⟩
        case measure => simp [intOf]; omega
    · obtain rfl : i = 4 := by omega
      obtain ⟨hx1, hx2⟩ := hX.out
      rw [low_full a HA.out, low_full b HB.out] at hx2
      have hXe : X = (a + b) % 2 ^ 256 := by
        rw [← hx2, show 2 ^ (64 * 4) = 2 ^ 256 from rfl, Nat.add_mul_mod_self_left, Nat.mod_eq_of_lt hx1]
      have hce : c = (a + b) / 2 ^ 256 := by
        rw [← hx2, show 2 ^ (64 * 4) = 2 ^ 256 from rfl, Nat.add_mul_div_left _ _ (Nat.pow_pos (by omega)), Nat.div_eq_of_lt hx1, Nat.zero_add]
      have HXE := hid hXe
      have HCE := hid hce
      have iX := hid (iW X)
      have nX := hid (one_cellsW X)
      clear hx1 hx2 hXe hce hX hA hB hlt hi
      go_wp2_with (first | (refine wpList_load_row rfl 24 (.tmp 4) rfl (w.heap.size + 2) rfl 24 _ (0, 0) _ hC.out uWd rfl iX.out ?_; simp only [Act.put, List.setIfInBounds_toArray, List.set_cons_zero, List.set_cons_succ]) | (refine wpList_store_row rfl 24 (.tmp 4) (.tmp 24) rfl (w.heap.size + 2) _ rfl rfl 24 _ hC.out iX.out rfl nX.out ?_; simp only [Act.put]))
      refine bodyPost_ret (results_row_tmp rfl _ _ (w.heap.size + 2) 24 (cellsW X) (0, 0) _ rfl (heap_setRow' _ _ _ _ _ hC.out) uWd rfl iX.out) rfl ⟨?_, below_setRow' hb _ (by omega) _⟩
      rw [HXE.out]
      conv => rhs; rw [← HCE.out]
      rfl

/-- A difference modulo 2^256. -/
def subW (a b : Nat) : Nat := (a + (2 ^ 256 - b)) % 2 ^ 256
theorem subW_lt (a b : Nat) : subW a b < 2 ^ 256 := Nat.mod_lt _ (Nat.pow_pos (by omega))
theorem sub_step (a b X c d c' i : Nat) (hc : c ≤ 1) (h : X + b % 2 ^ (64 * i) = a % 2 ^ (64 * i) + 2 ^ (64 * i) * c) (hd : ((lmN a i : Int) - (lmN b i : Int) - (c : Int)) % 2 ^ 64 = (d : Int)) (hc' : -(((lmN a i : Int) - (lmN b i : Int) - (c : Int)) / 2 ^ 64) = (c' : Int)) :
    X + 2 ^ (64 * i) * d + b % 2 ^ (64 * (i + 1)) = a % 2 ^ (64 * (i + 1)) + 2 ^ (64 * (i + 1)) * c' := by
  rw [low_succ, low_succ, pow64_succ]
  have e : d + lmN b i + c = lmN a i + 2 ^ 64 * c' := by omega
  have e2 : 2 ^ (64 * i) * d + 2 ^ (64 * i) * lmN b i + 2 ^ (64 * i) * c = 2 ^ (64 * i) * lmN a i + 2 ^ (64 * i) * 2 ^ 64 * c' := by
    rw [Nat.mul_assoc, ← Nat.mul_add, ← Nat.mul_add, ← Nat.mul_add, e]
  omega

set_option maxHeartbeats 1000000 in
theorem wsub_any (a b : Nat) (w : World) (ha : a < 2 ^ 256) (hb : b < 2 ^ 256) : Calls Try.prog 41 #[wd a, wd b] w fun e w' => e = .returned (wd (subW a b)) ∧ Below w.heap.size w w' := by
  have HA := hid ha
  have HB := hid hb
  clear ha hb
  unfold wd
  have hA0 := hid (show ArrW 24 (((w.alloc (.cells (cellsW a) 24)).alloc (.cells (cellsW b) 24)).alloc (.cells (cellsW 0) 24)) w.heap.size a from ((ArrW.new _ w a).alloc _).alloc _)
  have hB0 := hid (show ArrW 24 (((w.alloc (.cells (cellsW a) 24)).alloc (.cells (cellsW b) 24)).alloc (.cells (cellsW 0) 24)) (w.heap.size + 1) b by
    have := ArrW.new 24 (w.alloc (.cells (cellsW a) 24)) b
    rw [World.size_alloc] at this; exact this.alloc _)
  have hC0 := hid (show ArrW 24 (((w.alloc (.cells (cellsW a) 24)).alloc (.cells (cellsW b) 24)).alloc (.cells (cellsW 0) 24)) (w.heap.size + 2) 0 by
    have := ArrW.new 24 ((w.alloc (.cells (cellsW a) 24)).alloc (.cells (cellsW b) 24)) 0
    rw [World.size_alloc, World.size_alloc] at this; exact this)
  have hb0 : Below w.heap.size w (((w.alloc (.cells (cellsW a) 24)).alloc (.cells (cellsW b) 24)).alloc (.cells (cellsW 0) 24)) := (((Below.refl _ _).alloc (Nat.le_refl _) _).alloc (by simp) _).alloc (by simp; omega) _
  go_enter Try.func41, Try.ntmps41
  go_wp2_with (refine wpList_alloc_new rfl 24 rfl (cellsW 0) zWd ?_; simp only [Act.put, List.setIfInBounds_toArray, List.set_cons_zero, List.set_cons_succ])
  simp only [World.size_alloc]
  generalize ((w.alloc (.cells (cellsW a) 24)).alloc (.cells (cellsW b) 24)).alloc (.cells (cellsW 0) 24) = w1 at hA0 hB0 hC0 hb0 ⊢
  go_loopw [5, 7] (fun cv iv wr => ∃ i c X : Nat, i ≤ 4 ∧ c ≤ 1 ∧ iv = .int .i64 i ∧ cv = .int .u64 c ∧ Hid (X < 2 ^ (64 * i) ∧ X + b % 2 ^ (64 * i) = a % 2 ^ (64 * i) + 2 ^ (64 * i) * c) ∧ Hid (ArrW 24 wr w.heap.size a) ∧ Hid (ArrW 24 wr (w.heap.size + 1) b) ∧ Hid (ArrW 24 wr (w.heap.size + 2) X) ∧ Below w.heap.size w wr)
    (fun _ iv _ => 4 - (intOf iv).toNat)
  case atStart => exact ⟨0, 0, 0, by omega, by omega, rfl, rfl, hid ⟨by simp, by simp [Nat.mod_one]⟩, hA0, hB0, hC0, hb0⟩
  case round =>
    clear hA0 hB0 hC0 hb0
    obtain ⟨i, c, X, hi, hc, rfl, rfl, hX, hA, hB, hC, hb⟩ := hrel
    by_cases hlt : i < 4
    · have c1 := hA.out.cell i hlt
      have c2 := hB.out.cell i hlt
      have c3 := hC.out.cell i hlt
      have f3 := hC.out.free i
      have l1 := hA.out.lt
      have l2 := hB.out.lt
      have l3 := hC.out.lt
      have hsub := sub64_run (lm a i) (lm b i) (c : Int) (lm_nonneg _ _) (lm_nonneg _ _) (lm_lt _ _) (lm_lt _ _) (by omega) (by omega)
      have g1 := lmN_lt a i
      have g2 := lmN_lt b i
      obtain ⟨u, hu⟩ : ∃ u : Nat, (lm a i - lm b i - (c : Int)) % 18446744073709551616 = (u : Int) := ⟨((lm a i - lm b i - (c : Int)) % 18446744073709551616).toNat, by omega⟩
      obtain ⟨v, hv⟩ : ∃ v : Nat, -((lm a i - lm b i - (c : Int)) / 18446744073709551616) = (v : Int) := ⟨(-((lm a i - lm b i - (c : Int)) / 18446744073709551616)).toNat, by unfold lm; omega⟩
      have hu2 : u < 2 ^ 64 := by omega
      have hv2 : v ≤ 1 := by unfold lm at hv; omega
      have hst := hid (sub_step a b X c u v i hc hX.out.2 hu hv)
      have hlt2 := hid (set_lt X i u hX.out.1 hu2)
      have hset := hid (cellsW_set X i u hX.out.1 hu2 hlt)
      rw [hu, hv] at hsub
      clear hu hv g1 g2
      go_wp2_with fail
      (refine wp_region_ext_float 13 11 [0, 1, 2, 3, 4, 5, 6, 7, 8, 9, 10, 12] [_, _, _, _, _, _, _, _, _, _, _, _] _ _ _ rfl rfl rfl rfl (by kernel_rfl) (by kernel_rfl) ?_; (repeat (go_big_quiet_step (first | fail))); refine wpQuiet_nil ?_; refine ⟨?_, ?_⟩; rotate_left; rintro _ ⟨xw, rfl⟩; rotate_left; (repeat (go_big_quiet_step (first | fail))); refine wpQuiet_nil ?_; rintro _ ⟨xw, rfl⟩)
      all_goals
        go_wp2
        go_roundw
        case rel =>
          exact ⟨i + 1, v, X + 2 ^ (64 * i) * u, by omega, hv2, by go_num, rfl, hid ⟨hlt2.out, hst.out⟩, hid ((hA.out.ext xw).other (by show w.heap.size ≠ w.heap.size + 2; omega) _), hid ((hB.out.ext xw).other (by show w.heap.size + 1 ≠ w.heap.size + 2; omega) _), hid ((hC.out.ext xw).set i _ hset.out), (World.ext_below_of hb hb.size xw).setCell (p := ⟨w.heap.size + 2, i, none⟩) (by show w.heap.size ≤ w.heap.size + 2; omega) _⟩
        case measure => simp [intOf]; omega
    · obtain rfl : i = 4 := by omega
      obtain ⟨hx1, hx2⟩ := hX.out
      rw [low_full a HA.out, low_full b HB.out] at hx2
      have hXe : X = subW a b := by
        have h1 := HA.out
        have h2 := HB.out
        have h3 : X < 2 ^ 256 := hx1
        have h4 : X + b = a + 2 ^ 256 * c := hx2
        unfold subW
        rw [show (2 : Nat) ^ 256 = 115792089237316195423570985008687907853269984665640564039457584007913129639936 from by decide] at *
        omega
      have HXE := hid hXe
      have iX := hid (iW X)
      have nX := hid (one_cellsW X)
      clear hx1 hx2 hXe hX hA hB hlt hi
      go_wp2_with (first | (refine wpList_load_row rfl 24 (.tmp 4) rfl (w.heap.size + 2) rfl 24 _ (0, 0) _ hC.out uWd rfl iX.out ?_; simp only [Act.put, List.setIfInBounds_toArray, List.set_cons_zero, List.set_cons_succ]) | (refine wpList_store_row rfl 24 (.tmp 4) (.tmp 24) rfl (w.heap.size + 2) _ rfl rfl 24 _ hC.out iX.out rfl nX.out ?_; simp only [Act.put]))
      refine bodyPost_ret (results_cell_row rfl _ _ (w.heap.size + 2) 24 (cellsW X) (0, 0) _ rfl (heap_setRow' _ _ _ _ _ hC.out) uWd rfl iX.out) rfl ⟨?_, below_setRow' hb _ (by omega) _⟩
      rw [HXE.out]

set_option maxHeartbeats 1000000 in
theorem wadd_any (a b : Nat) (w : World) (ha : a < 2 ^ 256) (hb : b < 2 ^ 256) : Calls Try.prog 39 #[wd a, wd b] w fun e w' => e = .returned (wd ((a + b) % 2 ^ 256)) ∧ Below w.heap.size w w' := by
  have hS := hid (fun w => wsum_any a b w ha hb)
  have iA := hid (iW a)
  have iB := hid (iW b)
  clear ha hb
  unfold wd at *
  obtain ⟨s, hs⟩ : ∃ s, s = (a + b) % 2 ^ 256 := ⟨_, rfl⟩
  rw [← hs] at hS ⊢
  obtain ⟨c, hc⟩ : ∃ c : Int, c = (((a + b) / 2 ^ 256 : Nat) : Int) := ⟨_, rfl⟩
  rw [← hc] at hS
  have iS := hid (iW s)
  have nS := hid (one_cellsW s)
  clear hs hc
  have hA0 := hid (show ArrW 24 (((w.alloc (.cells (cellsW a) 24)).alloc (.cells (cellsW b) 24)).alloc (.cells (cellsW 0) 24)) w.heap.size a from ((ArrW.new _ w a).alloc _).alloc _)
  have hB0 := hid (show ArrW 24 (((w.alloc (.cells (cellsW a) 24)).alloc (.cells (cellsW b) 24)).alloc (.cells (cellsW 0) 24)) (w.heap.size + 1) b by
    have := ArrW.new 24 (w.alloc (.cells (cellsW a) 24)) b
    rw [World.size_alloc] at this; exact this.alloc _)
  have hC0 := hid (show ArrW 24 (((w.alloc (.cells (cellsW a) 24)).alloc (.cells (cellsW b) 24)).alloc (.cells (cellsW 0) 24)) (w.heap.size + 2) 0 by
    have := ArrW.new 24 ((w.alloc (.cells (cellsW a) 24)).alloc (.cells (cellsW b) 24)) 0
    rw [World.size_alloc, World.size_alloc] at this; exact this)
  have hb0 : Below w.heap.size w (((w.alloc (.cells (cellsW a) 24)).alloc (.cells (cellsW b) 24)).alloc (.cells (cellsW 0) 24)) := (((Below.refl _ _).alloc (Nat.le_refl _) _).alloc (by simp) _).alloc (by simp; omega) _
  go_enter Try.func39, Try.ntmps39
  go_wp2_with (first | (refine wpList_alloc_new rfl 24 rfl (cellsW 0) zWd ?_; simp only [Act.put, List.setIfInBounds_toArray, List.set_cons_zero, List.set_cons_succ]) | (refine wpList_load_row rfl 24 (.tmp 2) rfl w.heap.size rfl 24 _ (0, 0) _ hA0.out uWd rfl iA.out ?_; simp only [Act.put, List.setIfInBounds_toArray, List.set_cons_zero, List.set_cons_succ]) | (refine wpList_load_row rfl 24 (.tmp 3) rfl (w.heap.size + 1) rfl 24 _ (0, 0) _ hB0.out uWd rfl iB.out ?_; simp only [Act.put, List.setIfInBounds_toArray, List.set_cons_zero, List.set_cons_succ]))
  refine (hS.out _).mono ?_
  rintro e w1 ⟨rfl, hb1⟩
  have hC1 := hC0.out.below hb1 hC0.out.lt
  have hb2 := hb0.trans (hb1.mono hb0.size)
  have hC2 := hid (hC1.alloc (.cells (cellsW s) 24))
  have hD2 := hid (ArrW.new 24 w1 s)
  have hb3 := hb2.alloc hb2.size (.cells (cellsW s) 24)
  clear hA0 hB0 hC0 hb0 hb1 hC1 iA iB
  go_wp2_with (first | (refine wpList_allocStore 24 11 5 (cellsW s) (cellsW 0) rfl rfl rfl rfl rfl rfl (by decide) (by simp) rfl (by kernel_rfl) rfl iS.out nS.out ?_; simp only [Act.put, List.setIfInBounds_toArray, List.set_cons_zero, List.set_cons_succ]) | (refine wpList_load_row rfl 24 (.tmp 5) rfl w1.heap.size rfl 24 _ (0, 0) _ hD2.out uWd rfl iS.out ?_; simp only [Act.put, List.setIfInBounds_toArray, List.set_cons_zero, List.set_cons_succ]) | (refine wpList_store_row rfl 24 (.tmp 4) (.tmp 13) rfl (w.heap.size + 2) _ rfl rfl 24 _ hC2.out iS.out rfl nS.out ?_; simp only [Act.put]))
  refine bodyPost_ret (results_cell_row rfl _ _ (w.heap.size + 2) 24 (cellsW s) (0, 0) _ rfl (heap_setRow' _ _ _ _ _ hC2.out) uWd rfl iS.out) rfl ⟨rfl, below_setRow' hb3 _ (by omega) _⟩
end Go.Proofs.Ytfidbiabgmioaaa
