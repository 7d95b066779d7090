import Derived.Test.YtfidbiabgmioaaaWdN
import Derived.Test.YtfidbiabgmioaaaB64
import Derived.Test.YtfidbiabgmioaaaTwo
import Derived.Test.YtfidbiabgmioaaaPart
import Derived.Lib.ItoaNum
/-! word: sums and differences. -/
set_option maxRecDepth 4000
set_option linter.unusedVariables false
set_option linter.unusedSimpArgs false
namespace Go.Proofs.Ytfidbiabgmioaaa
open Go.RowKit

theorem pow64_succ (i : Nat) : 2 ^ (64 * (i + 1)) = 2 ^ (64 * i) * 2 ^ 64 := by rw [← Nat.pow_add]; rfl
theorem lmN_set (x i v j : Nat) (hx : x < 2 ^ (64 * i)) (hv : v < 2 ^ 64) : lmN (x + 2 ^ (64 * i) * v) j = if i = j then v else lmN x j := by
  unfold lmN
  by_cases h : i = j
  · subst h
    rw [if_pos rfl, Nat.add_mul_div_left _ _ (Nat.pow_pos (by omega)), Nat.div_eq_of_lt hx, Nat.zero_add, Nat.mod_eq_of_lt hv]
  · rw [if_neg h]
    rcases Nat.lt_or_ge j i with hlt | hge
    · have e2 : (2 : Nat) ^ (64 * i) * v = 2 ^ (64 * j) * (2 ^ 64 * (2 ^ (64 * i - 64 * j - 64) * v)) := by
        rw [← Nat.mul_assoc, ← Nat.mul_assoc, ← Nat.pow_add, ← Nat.pow_add]; congr 2; omega
      rw [e2, Nat.add_mul_div_left _ _ (Nat.pow_pos (by omega)), Nat.add_mul_mod_self_left]
    · have h4 : 2 ^ (64 * (i + 1)) ≤ 2 ^ (64 * j) := Nat.pow_le_pow_right (by omega) (by omega)
      have h5 : 2 ^ (64 * i) * v ≤ 2 ^ (64 * i) * (2 ^ 64 - 1) := Nat.mul_le_mul_left _ (by omega)
      rw [pow64_succ] at h4
      rw [Nat.div_eq_of_lt (by omega), Nat.div_eq_of_lt (by omega)]
theorem set_lt (x i v : Nat) (hx : x < 2 ^ (64 * i)) (hv : v < 2 ^ 64) : x + 2 ^ (64 * i) * v < 2 ^ (64 * (i + 1)) := by
  have h5 : 2 ^ (64 * i) * v ≤ 2 ^ (64 * i) * (2 ^ 64 - 1) := Nat.mul_le_mul_left _ (by omega)
  rw [pow64_succ]
  omega
/-- A limb put on top. -/
theorem cellsW_set (x i v : Nat) (hx : x < 2 ^ (64 * i)) (hv : v < 2 ^ 64) (hi : i < 4) : (cellsW x).setIfInBounds i (.int .u64 (v : Int)) = cellsW (x + 2 ^ (64 * i) * v) := by
  have h := fun j => lmN_set x i v j hx hv
  have hc : i = 0 ∨ i = 1 ∨ i = 2 ∨ i = 3 := by omega
  unfold cellsW lm
  rw [h 0, h 1, h 2, h 3]
  rcases hc with e | e | e | e <;> simp [e]
/-- The lower limbs of a word. -/
theorem low_succ (a i : Nat) : a % 2 ^ (64 * (i + 1)) = a % 2 ^ (64 * i) + 2 ^ (64 * i) * lmN a i := by
  rw [pow64_succ, Nat.mod_mul]; rfl
theorem low_full (a : Nat) (h : a < 2 ^ 256) : a % 2 ^ (64 * 4) = a := Nat.mod_eq_of_lt h
theorem sum_step (a b X c i : Nat) (h : X + 2 ^ (64 * i) * c = a % 2 ^ (64 * i) + b % 2 ^ (64 * i)) :
    X + 2 ^ (64 * i) * ((lmN a i + lmN b i + c) % 2 ^ 64) + 2 ^ (64 * (i + 1)) * ((lmN a i + lmN b i + c) / 2 ^ 64) = a % 2 ^ (64 * (i + 1)) + b % 2 ^ (64 * (i + 1)) := by
  rw [low_succ, low_succ, pow64_succ]
  generalize hs : lmN a i + lmN b i + c = s
  have e1 : 2 ^ (64 * i) * (s % 2 ^ 64) + 2 ^ (64 * i) * 2 ^ 64 * (s / 2 ^ 64) = 2 ^ (64 * i) * s := by
    rw [Nat.mul_assoc, ← Nat.mul_add, Nat.mod_add_div]
  have e2 : 2 ^ (64 * i) * s = 2 ^ (64 * i) * lmN a i + 2 ^ (64 * i) * lmN b i + 2 ^ (64 * i) * c := by rw [← hs, Nat.mul_add, Nat.mul_add]
  omega

set_option maxHeartbeats 1000000 in
theorem wsum_any (a b : Nat) (w : World) (ha : a < 2 ^ 256) (hb : b < 2 ^ 256) : Calls Try.prog 109 #[wd a, wd b] w fun e w' => e = .returned (.tuple #[wd ((a + b) % 2 ^ 256), .int .u64 (((a + b) / 2 ^ 256 : Nat) : Int)]) ∧ Below w.heap.size w w' := by
  have HA := hid ha
  have HB := hid hb
  clear ha hb
  unfold wd
  have iA := hid (iW a)
  have hA0 := hid (show ArrW 24 (((w.alloc (.cells (cellsW a) 24)).alloc (.cells (cellsW b) 24)).alloc (.cells (cellsW 0) 24)) w.heap.size a from ((ArrW.new _ w a).alloc _).alloc _)
  have hB0 := hid (show ArrW 24 (((w.alloc (.cells (cellsW a) 24)).alloc (.cells (cellsW b) 24)).alloc (.cells (cellsW 0) 24)) (w.heap.size + 1) b by
    have := ArrW.new 24 (w.alloc (.cells (cellsW a) 24)) b
    rw [World.size_alloc] at this; exact this.alloc _)
  have hC0 := hid (show ArrW 24 (((w.alloc (.cells (cellsW a) 24)).alloc (.cells (cellsW b) 24)).alloc (.cells (cellsW 0) 24)) (w.heap.size + 2) 0 by
    have := ArrW.new 24 ((w.alloc (.cells (cellsW a) 24)).alloc (.cells (cellsW b) 24)) 0
    rw [World.size_alloc, World.size_alloc] at this; exact this)
  have hb0 : Below w.heap.size w (((w.alloc (.cells (cellsW a) 24)).alloc (.cells (cellsW b) 24)).alloc (.cells (cellsW 0) 24)) := (((Below.refl _ _).alloc (Nat.le_refl _) _).alloc (by simp) _).alloc (by simp; omega) _
  go_enter Try.func109, Try.ntmps109
  go_wp2_with (refine wpList_alloc_new rfl 24 rfl (cellsW 0) zWd ?_; simp only [Act.put, List.setIfInBounds_toArray, List.set_cons_zero, List.set_cons_succ])
  simp only [World.size_alloc]
  generalize ((w.alloc (.cells (cellsW a) 24)).alloc (.cells (cellsW b) 24)).alloc (.cells (cellsW 0) 24) = w1 at hA0 hB0 hC0 hb0 ⊢
  go_loopw [5, 7] (fun cv iv wr => ∃ i c X : Nat, i ≤ 4 ∧ c ≤ 1 ∧ iv = .int .i64 i ∧ cv = .int .u64 c ∧ Hid (X < 2 ^ (64 * i) ∧ X + 2 ^ (64 * i) * c = a % 2 ^ (64 * i) + b % 2 ^ (64 * i)) ∧ Hid (ArrW 24 wr w.heap.size a) ∧ Hid (ArrW 24 wr (w.heap.size + 1) b) ∧ Hid (ArrW 24 wr (w.heap.size + 2) X) ∧ Below w.heap.size w wr)
    (fun _ iv _ => 4 - (intOf iv).toNat)
  case atStart => exact ⟨0, 0, 0, by omega, by omega, rfl, rfl, hid ⟨by simp, by simp [Nat.mod_one]⟩, hA0, hB0, hC0, hb0⟩
  case round =>
    clear hA0 hB0 hC0 hb0
    obtain ⟨i, c, X, hi, hc, rfl, rfl, hX, hA, hB, hC, hb⟩ := hrel
    by_cases hlt : i < 4
    · have c1 := hA.out.cell i hlt
      have c2 := hB.out.cell i hlt
      have c3 := hC.out.cell i hlt
      have f3 := hC.out.free i
      have l1 := hA.out.lt
      have l2 := hB.out.lt
      have l3 := hC.out.lt
      have hadd := add64_run (lm a i) (lm b i) (c : Int) (lm_nonneg _ _) (lm_nonneg _ _) (by omega) (by omega)
      have q1 : (lm a i + lm b i + (c : Int)) % 18446744073709551616 = (((lmN a i + lmN b i + c) % 2 ^ 64 : Nat) : Int) := by unfold lm; omega
      have q2 : (lm a i + lm b i + (c : Int)) / 18446744073709551616 = (((lmN a i + lmN b i + c) / 2 ^ 64 : Nat) : Int) := by unfold lm; omega
      have g1 := lmN_lt a i
      have g2 := lmN_lt b i
      have hc2 : (lmN a i + lmN b i + c) / 2 ^ 64 ≤ 1 := by omega
      have hst := hid (sum_step a b X c i hX.out.2)
      have hlt2 := hid (set_lt X i ((lmN a i + lmN b i + c) % 2 ^ 64) hX.out.1 (Nat.mod_lt _ (by decide)))
      have hset := hid (cellsW_set X i ((lmN a i + lmN b i + c) % 2 ^ 64) hX.out.1 (Nat.mod_lt _ (by decide)) hlt)
      rw [q1, q2] at hadd
      obtain ⟨u, hu⟩ : ∃ u, u = (lmN a i + lmN b i + c) % 2 ^ 64 := ⟨_, rfl⟩
      obtain ⟨v, hv⟩ : ∃ v, v = (lmN a i + lmN b i + c) / 2 ^ 64 := ⟨_, rfl⟩
      rw [← hu] at hadd hst hlt2 hset
      rw [← hv] at hadd hst hc2
      clear q1 q2 hu hv g1 g2
      go_wp2_with fail
      (refine wp_region_ext_float 13 11 [0, 1, 2, 3, 4, 5, 6, 7, 8, 9, 10, 12] [_, _, _, _, _, _, _, _, _, _, _, _] _ _ _ rfl rfl rfl rfl (by kernel_rfl) (by kernel_rfl) ?_; (repeat (go_big_quiet_step (first | fail))); refine wpQuiet_nil ?_; refine ⟨?_, ?_⟩; rotate_left; rintro _ ⟨xw, rfl⟩; rotate_left; (repeat (go_big_quiet_step (first | fail))); refine wpQuiet_nil ?_; rintro _ ⟨xw, rfl⟩)
      all_goals
        go_wp2
        go_roundw
        case rel =>
          exact ⟨i + 1, v, X + 2 ^ (64 * i) * u, by omega, hc2, by go_num, rfl, hid ⟨hlt2.out, hst.out⟩, hid ((hA.out.ext xw).other (by show w.heap.size ≠ w.heap.size + 2; omega) _), hid ((hB.out.ext xw).other (by show w.heap.size + 1 ≠ w.heap.size + 2; omega) _), hid ((hC.out.ext xw).set i _ hset.out), (World.ext_below_of hb hb.size xw).setCell (p := ⟨w.heap.size + 2, i, none⟩) (by show w.heap.size ≤ w.heap.size + 2; omega) _⟩
        case measure => simp [intOf]; omega
    · obtain rfl : i = 4 := by omega
      obtain ⟨hx1, hx2⟩ := hX.out
      rw [low_full a HA.out, low_full b HB.out] at hx2
      have hXe : X = (a + b) % 2 ^ 256 := by
        rw [← hx2, show 2 ^ (64 * 4) = 2 ^ 256 from rfl, Nat.add_mul_mod_self_left, Nat.mod_eq_of_lt hx1]
      have hce : c = (a + b) / 2 ^ 256 := by
        rw [← hx2, show 2 ^ (64 * 4) = 2 ^ 256 from rfl, Nat.add_mul_div_left _ _ (Nat.pow_pos (by omega)), Nat.div_eq_of_lt hx1, Nat.zero_add]
      have HXE := hid hXe
      have HCE := hid hce
      have iX := hid (iW X)
      have nX := hid (one_cellsW X)
      clear hx1 hx2 hXe hce hX hA hB hlt hi
      go_wp2_with (first | (refine wpList_load_row rfl 24 (.tmp 4) rfl (w.heap.size + 2) rfl 24 _ (0, 0) _ hC.out uWd rfl iX.out ?_; simp only [Act.put, List.setIfInBounds_toArray, List.set_cons_zero, List.set_cons_succ]) | (refine wpList_store_row rfl 24 (.tmp 4) (.tmp 24) rfl (w.heap.size + 2) _ rfl rfl 24 _ hC.out iX.out rfl nX.out ?_; simp only [Act.put]))
      refine bodyPost_ret (results_row_tmp rfl _ _ (w.heap.size + 2) 24 (cellsW X) (0, 0) _ rfl (heap_setRow' _ _ _ _ _ hC.out) uWd rfl iX.out) rfl ⟨?_, below_setRow' hb _ (by omega) _⟩
      rw [HXE.out]
      conv => rhs; rw [← HCE.out]
      rfl

/-- A difference modulo 2^256. -/
def subW (a b : Nat) : Nat := (a + (2 ^ 256 - b)) % 2 ^ 256
theorem subW_lt (a b : Nat) : subW a b < 2 ^ 256 := Nat.mod_lt _ (Nat.pow_pos (by omega))
theorem sub_step (a b X c d c' i : Nat) (hc : c ≤ 1) (h : X + b % 2 ^ (64 * i) = a % 2 ^ (64 * i) + 2 ^ (64 * i) * c) (hd : ((lmN a i : Int) - (lmN b i : Int) - (c : Int)) % 2 ^ 64 = (d : Int)) (hc' : -(((lmN a i : Int) - (lmN b i : Int) - (c : Int)) / 2 ^ 64) = (c' : Int)) :
    X + 2 ^ (64 * i) * d + b % 2 ^ (64 * (i + 1)) = a % 2 ^ (64 * (i + 1)) + 2 ^ (64 * (i + 1)) * c' := by
  rw [low_succ, low_succ, pow64_succ]
  have e : d + lmN b i + c = lmN a i + 2 ^ 64 * c' := by omega
  have e2 : 2 ^ (64 * i) * d + 2 ^ (64 * i) * lmN b i + 2 ^ (64 * i) * c = 2 ^ (64 * i) * lmN a i + 2 ^ (64 * i) * 2 ^ 64 * c' := by
    rw [Nat.mul_assoc, ← Nat.mul_add, ← Nat.mul_add, ← Nat.mul_add, e]
  omega

set_option maxHeartbeats 1000000 in
theorem wsub_any (a b : Nat) (w : World) (ha : a < 2 ^ 256) (hb : b < 2 ^ 256) : Calls Try.prog 41 #[wd a, wd b] w fun e w' => e = .returned (wd (subW a b)) ∧ Below w.heap.size w w' := by
  have HA := hid ha
  have HB := hid hb
  clear ha hb
  unfold wd
  have hA0 := hid (show ArrW 24 (((w.alloc (.cells (cellsW a) 24)).alloc (.cells (cellsW b) 24)).alloc (.cells (cellsW 0) 24)) w.heap.size a from ((ArrW.new _ w a).alloc _).alloc _)
  have hB0 := hid (show ArrW 24 (((w.alloc (.cells (cellsW a) 24)).alloc (.cells (cellsW b) 24)).alloc (.cells (cellsW 0) 24)) (w.heap.size + 1) b by
    have := ArrW.new 24 (w.alloc (.cells (cellsW a) 24)) b
    rw [World.size_alloc] at this; exact this.alloc _)
  have hC0 := hid (show ArrW 24 (((w.alloc (.cells (cellsW a) 24)).alloc (.cells (cellsW b) 24)).alloc (.cells (cellsW 0) 24)) (w.heap.size + 2) 0 by
    have := ArrW.new 24 ((w.alloc (.cells (cellsW a) 24)).alloc (.cells (cellsW b) 24)) 0
    rw [World.size_alloc, World.size_alloc] at this; exact this)
  have hb0 : Below w.heap.size w (((w.alloc (.cells (cellsW a) 24)).alloc (.cells (cellsW b) 24)).alloc (.cells (cellsW 0) 24)) := (((Below.refl _ _).alloc (Nat.le_refl _) _).alloc (by simp) _).alloc (by simp; omega) _
  go_enter Try.func41, Try.ntmps41
  go_wp2_with (refine wpList_alloc_new rfl 24 rfl (cellsW 0) zWd ?_; simp only [Act.put, List.setIfInBounds_toArray, List.set_cons_zero, List.set_cons_succ])
  simp only [World.size_alloc]
  generalize ((w.alloc (.cells (cellsW a) 24)).alloc (.cells (cellsW b) 24)).alloc (.cells (cellsW 0) 24) = w1 at hA0 hB0 hC0 hb0 ⊢
  go_loopw [5, 7] (fun cv iv wr => ∃ i c X : Nat, i ≤ 4 ∧ c ≤ 1 ∧ iv = .int .i64 i ∧ cv = .int .u64 c ∧ Hid (X < 2 ^ (64 * i) ∧ X + b % 2 ^ (64 * i) = a % 2 ^ (64 * i) + 2 ^ (64 * i) * c) ∧ Hid (ArrW 24 wr w.heap.size a) ∧ Hid (ArrW 24 wr (w.heap.size + 1) b) ∧ Hid (ArrW 24 wr (w.heap.size + 2) X) ∧ Below w.heap.size w wr)
    (fun _ iv _ => 4 - (intOf iv).toNat)
  case atStart => exact ⟨0, 0, 0, by omega, by omega, rfl, rfl, hid ⟨by simp, by simp [Nat.mod_one]⟩, hA0, hB0, hC0, hb0⟩
  case round =>
    clear hA0 hB0 hC0 hb0
    obtain ⟨i, c, X, hi, hc, rfl, rfl, hX, hA, hB, hC, hb⟩ := hrel
    by_cases hlt : i < 4
    · have c1 := hA.out.cell i hlt
      have c2 := hB.out.cell i hlt
      have c3 := hC.out.cell i hlt
      have f3 := hC.out.free i
      have l1 := hA.out.lt
      have l2 := hB.out.lt
      have l3 := hC.out.lt
      have hsub := sub64_run (lm a i) (lm b i) (c : Int) (lm_nonneg _ _) (lm_nonneg _ _) (lm_lt _ _) (lm_lt _ _) (by omega) (by omega)
      have g1 := lmN_lt a i
      have g2 := lmN_lt b i
      obtain ⟨u, hu⟩ : ∃ u : Nat, (lm a i - lm b i - (c : Int)) % 18446744073709551616 = (u : Int) := ⟨((lm a i - lm b i - (c : Int)) % 18446744073709551616).toNat, by omega⟩
      obtain ⟨v, hv⟩ : ∃ v : Nat, -((lm a i - lm b i - (c : Int)) / 18446744073709551616) = (v : Int) := ⟨(-((lm a i - lm b i - (c : Int)) / 18446744073709551616)).toNat, by unfold lm; omega⟩
      have hu2 : u < 2 ^ 64 := by omega
      have hv2 : v ≤ 1 := by unfold lm at hv; omega
      have hst := hid (sub_step a b X c u v i hc hX.out.2 hu hv)
      have hlt2 := hid (set_lt X i u hX.out.1 hu2)
      have hset := hid (cellsW_set X i u hX.out.1 hu2 hlt)
      rw [hu, hv] at hsub
      clear hu hv g1 g2
      go_wp2_with fail
      (refine wp_region_ext_float 13 11 [0, 1, 2, 3, 4, 5, 6, 7, 8, 9, 10, 12] [_, _, _, _, _, _, _, _, _, _, _, _] _ _ _ rfl rfl rfl rfl (by kernel_rfl) (by kernel_rfl) ?_; (repeat (go_big_quiet_step (first | fail))); refine wpQuiet_nil ?_; refine ⟨?_, ?_⟩; rotate_left; rintro _ ⟨xw, rfl⟩; rotate_left; (repeat (go_big_quiet_step (first | fail))); refine wpQuiet_nil ?_; rintro _ ⟨xw, rfl⟩)
      all_goals
        go_wp2
        go_roundw
        case rel =>
          exact ⟨i + 1, v, X + 2 ^ (64 * i) * u, by omega, hv2, by go_num, rfl, hid ⟨hlt2.out, hst.out⟩, hid ((hA.out.ext xw).other (by show w.heap.size ≠ w.heap.size + 2; omega) _), hid ((hB.out.ext xw).other (by show w.heap.size + 1 ≠ w.heap.size + 2; omega) _), hid ((hC.out.ext xw).set i _ hset.out), (World.ext_below_of hb hb.size xw).setCell (p := ⟨w.heap.size + 2, i, none⟩) (by show w.heap.size ≤ w.heap.size + 2; omega) _⟩
        case measure => simp [intOf]; omega
    · obtain rfl : i = 4 := by omega
      obtain ⟨hx1, hx2⟩ := hX.out
      rw [low_full a HA.out, low_full b HB.out] at hx2
      have hXe : X = subW a b := by
        have h1 := HA.out
        have h2 := HB.out
        have h3 : X < 2 ^ 256 := hx1
        have h4 : X + b = a + 2 ^ 256 * c := hx2
        unfold subW
        rw [show (2 : Nat) ^ 256 = 115792089237316195423570985008687907853269984665640564039457584007913129639936 from by decide] at *
        omega
      have HXE := hid hXe
      have iX := hid (iW X)
      have nX := hid (one_cellsW X)
      clear hx1 hx2 hXe hX hA hB hlt hi
      go_wp2_with (first | (refine wpList_load_row rfl 24 (.tmp 4) rfl (w.heap.size + 2) rfl 24 _ (0, 0) _ hC.out uWd rfl iX.out ?_; simp only [Act.put, List.setIfInBounds_toArray, List.set_cons_zero, List.set_cons_succ]) | (refine wpList_store_row rfl 24 (.tmp 4) (.tmp 24) rfl (w.heap.size + 2) _ rfl rfl 24 _ hC.out iX.out rfl nX.out ?_; simp only [Act.put]))
      refine bodyPost_ret (results_cell_row rfl _ _ (w.heap.size + 2) 24 (cellsW X) (0, 0) _ rfl (heap_setRow' _ _ _ _ _ hC.out) uWd rfl iX.out) rfl ⟨?_, below_setRow' hb _ (by omega) _⟩
      rw [HXE.out]

set_option maxHeartbeats 1000000 in
theorem wadd_any (a b : Nat) (w : World) (ha : a < 2 ^ 256) (hb : b < 2 ^ 256) : Calls Try.prog 39 #[wd a, wd b] w fun e w' => e = .returned (wd ((a + b) % 2 ^ 256)) ∧ Below w.heap.size w w' := by
  have hS := hid (fun w => wsum_any a b w ha hb)
  have iA := hid (iW a)
  have iB := hid (iW b)
  clear ha hb
  unfold wd at *
  obtain ⟨s, hs⟩ : ∃ s, s = (a + b) % 2 ^ 256 := ⟨_, rfl⟩
  rw [← hs] at hS ⊢
  obtain ⟨c, hc⟩ : ∃ c : Int, c = (((a + b) / 2 ^ 256 : Nat) : Int) := ⟨_, rfl⟩
  rw [← hc] at hS
  have iS := hid (iW s)
  have nS := hid (one_cellsW s)
  clear hs hc
  have hA0 := hid (show ArrW 24 (((w.alloc (.cells (cellsW a) 24)).alloc (.cells (cellsW b) 24)).alloc (.cells (cellsW 0) 24)) w.heap.size a from ((ArrW.new _ w a).alloc _).alloc _)
  have hB0 := hid (show ArrW 24 (((w.alloc (.cells (cellsW a) 24)).alloc (.cells (cellsW b) 24)).alloc (.cells (cellsW 0) 24)) (w.heap.size + 1) b by
    have := ArrW.new 24 (w.alloc (.cells (cellsW a) 24)) b
    rw [World.size_alloc] at this; exact this.alloc _)
  have hC0 := hid (show ArrW 24 (((w.alloc (.cells (cellsW a) 24)).alloc (.cells (cellsW b) 24)).alloc (.cells (cellsW 0) 24)) (w.heap.size + 2) 0 by
    have := ArrW.new 24 ((w.alloc (.cells (cellsW a) 24)).alloc (.cells (cellsW b) 24)) 0
    rw [World.size_alloc, World.size_alloc] at this; exact this)
  have hb0 : Below w.heap.size w (((w.alloc (.cells (cellsW a) 24)).alloc (.cells (cellsW b) 24)).alloc (.cells (cellsW 0) 24)) := (((Below.refl _ _).alloc (Nat.le_refl _) _).alloc (by simp) _).alloc (by simp; omega) _
  go_enter Try.func39, Try.ntmps39
  go_wp2_with (first | (refine wpList_alloc_new rfl 24 rfl (cellsW 0) zWd ?_; simp only [Act.put, List.setIfInBounds_toArray, List.set_cons_zero, List.set_cons_succ]) | (refine wpList_load_row rfl 24 (.tmp 2) rfl w.heap.size rfl 24 _ (0, 0) _ hA0.out uWd rfl iA.out ?_; simp only [Act.put, List.setIfInBounds_toArray, List.set_cons_zero, List.set_cons_succ]) | (refine wpList_load_row rfl 24 (.tmp 3) rfl (w.heap.size + 1) rfl 24 _ (0, 0) _ hB0.out uWd rfl iB.out ?_; simp only [Act.put, List.setIfInBounds_toArray, List.set_cons_zero, List.set_cons_succ]))
  refine (hS.out _).mono ?_
  rintro e w1 ⟨rfl, hb1⟩
  have hC1 := hC0.out.below hb1 hC0.out.lt
  have hb2 := hb0.trans (hb1.mono hb0.size)
  have hC2 := hid (hC1.alloc (.cells (cellsW s) 24))
  have hD2 := hid (ArrW.new 24 w1 s)
  have hb3 := hb2.alloc hb2.size (.cells (cellsW s) 24)
  clear hA0 hB0 hC0 hb0 hb1 hC1 iA iB
  go_wp2_with (first | (refine wpList_allocStore 24 11 5 (cellsW s) (cellsW 0) rfl rfl rfl rfl rfl rfl (by decide) (by simp) rfl (by kernel_rfl) rfl iS.out nS.out ?_; simp only [Act.put, List.setIfInBounds_toArray, List.set_cons_zero, List.set_cons_succ]) | (refine wpList_load_row rfl 24 (.tmp 5) rfl w1.heap.size rfl 24 _ (0, 0) _ hD2.out uWd rfl iS.out ?_; simp only [Act.put, List.setIfInBounds_toArray, List.set_cons_zero, List.set_cons_succ]) | (refine wpList_store_row rfl 24 (.tmp 4) (.tmp 13) rfl (w.heap.size + 2) _ rfl rfl 24 _ hC2.out iS.out rfl nS.out ?_; simp only [Act.put]))
  refine bodyPost_ret (results_cell_row rfl _ _ (w.heap.size + 2) 24 (cellsW s) (0, 0) _ rfl (heap_setRow' _ _ _ _ _ hC2.out) uWd rfl iS.out) rfl ⟨rfl, below_setRow' hb3 _ (by omega) _⟩
end Go.Proofs.Ytfidbiabgmioaaa

/-! Rows of limbs. -/
namespace Go.Proofs.Ytfidbiabgmioaaa
open Go.RowKit

def cellsM (n x : Nat) : Array Value := ((List.range n).map fun i => Value.int .u64 ((lmN x i : Nat) : Int)).toArray
theorem cellsW_M (x : Nat) : cellsW x = cellsM 4 x := rfl
theorem size_cellsM (n x : Nat) : (cellsM n x).size = n := by simp [cellsM]
theorem one_cellsM (n x : Nat) : (cellsM n x).all (·.oneCell') = true := by
  rw [Array.all_eq_true_iff_forall_mem]
  intro v hv
  simp [cellsM] at hv
  obtain ⟨i, _, rfl⟩ := hv
  rfl
theorem cellsM_at (n x j : Nat) (h : j < n) : (cellsM n x)[j]? = some (.int .u64 ((lmN x j : Nat) : Int)) := by simp [cellsM, h]
/-- Block b holds n limbs of x. -/
def ArrM (t : TypeId) (n : Nat) (w : World) (b : Nat) (x : Nat) : Prop := w.heap[b]? = some (.cells (cellsM n x) t (0, 0))
theorem ArrM.ofW {t : TypeId} {w : World} {b x : Nat} (h : ArrW t w b x) : ArrM t 4 w b x := h
theorem ArrM.toW {t : TypeId} {w : World} {b x : Nat} (h : ArrM t 4 w b x) : ArrW t w b x := h
theorem ArrM.lt {t : TypeId} {n : Nat} {w : World} {b x : Nat} (h : ArrM t n w b x) : b < w.heap.size := (Array.getElem?_eq_some_iff.1 h).1
theorem ArrM.cell {t : TypeId} {n : Nat} {w : World} {b x : Nat} (h : ArrM t n w b x) (j : Nat) (hj : j < n) : w.cell? ⟨b, j, none⟩ = some (.int .u64 ((lmN x j : Nat) : Int)) := by
  rw [cell_of_row w b j _ _ _ h]; exact cellsM_at n x j hj
theorem ArrM.free {t : TypeId} {n : Nat} {w : World} {b x : Nat} (h : ArrM t n w b x) (j : Nat) : w.frozen? ⟨b, j, none⟩ = false := by
  unfold ArrM at h
  simp [World.frozen?, h]
theorem ArrM.other {t : TypeId} {n : Nat} {w : World} {b x : Nat} (h : ArrM t n w b x) {a : Addr} (ha : b ≠ a.block) (v : Value) : ArrM t n (w.setCell a v) b x := by
  unfold ArrM at *
  rw [Below.heap_setCell _ _ _ _ ha]; exact h
theorem ArrM.below {t : TypeId} {n : Nat} {w w' : World} {b B x : Nat} (h : ArrM t n w b x) (hb : Below B w w') (hB : b < B) : ArrM t n w' b x := by
  unfold ArrM at *
  rw [hb.block b hB]; exact h
theorem ArrM.ext {t : TypeId} {n : Nat} {w : World} {b x : Nat} (h : ArrM t n w b x) (y : World) : ArrM t n (w.ext y) b x := h.below (w.ext_below y) h.lt
theorem ArrM.alloc {t : TypeId} {n : Nat} {w : World} {b x : Nat} (h : ArrM t n w b x) (o : Obj) : ArrM t n (w.alloc o) b x := by
  unfold ArrM at *
  rw [Below.heap_alloc _ _ _ (ArrM.lt h)]; exact h
theorem ArrM.new (t : TypeId) (n : Nat) (w : World) (x : Nat) : ArrM t n (w.alloc (.cells (cellsM n x) t)) w.heap.size x := by
  unfold ArrM
  show (w.heap.push _)[w.heap.size]? = _
  simp
/-- One limb changed. -/
def setL (x j v : Nat) : Nat := x + 2 ^ (64 * j) * v - 2 ^ (64 * j) * lmN x j
theorem lmN_le (x j : Nat) : 2 ^ (64 * j) * lmN x j ≤ x := by
  unfold lmN
  have h1 : x / 2 ^ (64 * j) % 2 ^ 64 ≤ x / 2 ^ (64 * j) := Nat.mod_le _ _
  have h2 := Nat.mul_le_mul_left (2 ^ (64 * j)) h1
  have h3 := Nat.mul_div_le x (2 ^ (64 * j))
  omega
theorem setL_eq (x j v : Nat) : setL x j v + 2 ^ (64 * j) * lmN x j = x + 2 ^ (64 * j) * v := by
  have := lmN_le x j
  unfold setL; omega
theorem setL_parts (x j v : Nat) : setL x j v = x % 2 ^ (64 * j) + 2 ^ (64 * j) * (v + 2 ^ 64 * (x / 2 ^ (64 * j) / 2 ^ 64)) := by
  have h1 := setL_eq x j v
  have h2 := Nat.div_add_mod x (2 ^ (64 * j))
  have h3 := Nat.div_add_mod (x / 2 ^ (64 * j)) (2 ^ 64)
  have h4 : 2 ^ (64 * j) * (x / 2 ^ (64 * j)) = 2 ^ (64 * j) * (2 ^ 64 * (x / 2 ^ (64 * j) / 2 ^ 64)) + 2 ^ (64 * j) * lmN x j := by
    conv => lhs; rw [← h3]
    rw [Nat.mul_add]; rfl
  rw [Nat.mul_add]
  omega
theorem lmN_setL (x j v i : Nat) (hv : v < 2 ^ 64) : lmN (setL x j v) i = if j = i then v else lmN x i := by
  have hp : 0 < 2 ^ (64 * j) := Nat.pow_pos (by omega)
  have hm : x % 2 ^ (64 * j) < 2 ^ (64 * j) := Nat.mod_lt _ hp
  unfold lmN
  by_cases h : j = i
  · subst h
    rw [if_pos rfl, setL_parts, Nat.add_mul_div_left _ _ hp, Nat.div_eq_of_lt hm, Nat.zero_add, Nat.add_mul_mod_self_left, Nat.mod_eq_of_lt hv]
  · rw [if_neg h]
    rcases Nat.lt_or_ge i j with hlt | hge
    · have e1 : setL x j v + 2 ^ (64 * i) * (2 ^ 64 * (2 ^ (64 * j - 64 * i - 64) * lmN x j)) = x + 2 ^ (64 * i) * (2 ^ 64 * (2 ^ (64 * j - 64 * i - 64) * v)) := by
        have := setL_eq x j v
        have e : ∀ z, 2 ^ (64 * i) * (2 ^ 64 * (2 ^ (64 * j - 64 * i - 64) * z)) = 2 ^ (64 * j) * z := fun z => by
          rw [← Nat.mul_assoc, ← Nat.mul_assoc, ← Nat.pow_add, ← Nat.pow_add]; congr 2; omega
        rw [e, e]; exact this
      have hp2 : 0 < 2 ^ (64 * i) := Nat.pow_pos (by omega)
      have e2 := congrArg (fun z => z / 2 ^ (64 * i) % 2 ^ 64) e1
      simp only [Nat.add_mul_div_left _ _ hp2, Nat.add_mul_mod_self_left] at e2
      exact e2
    · have hji : 64 * i = 64 * j + 64 + (64 * i - 64 * j - 64) := by omega
      have e3 : ∀ y, y / 2 ^ (64 * i) = y / 2 ^ (64 * j) / 2 ^ 64 / 2 ^ (64 * i - 64 * j - 64) := fun y => by
        rw [Nat.div_div_eq_div_mul, Nat.div_div_eq_div_mul, ← Nat.pow_add, ← Nat.pow_add]; congr 2; omega
      rw [e3, e3 x, setL_parts, Nat.add_mul_div_left _ _ hp, Nat.div_eq_of_lt hm, Nat.zero_add, Nat.add_mul_div_left _ _ (by decide : 0 < 2 ^ 64), Nat.div_eq_of_lt hv, Nat.zero_add]
theorem setL_lt (x j v n : Nat) (hx : x < 2 ^ (64 * n)) (hv : v < 2 ^ 64) (hj : j < n) : setL x j v < 2 ^ (64 * n) := by
  have hp : 0 < 2 ^ (64 * j) := Nat.pow_pos (by omega)
  have hm : x % 2 ^ (64 * j) < 2 ^ (64 * j) := Nat.mod_lt _ hp
  have e : 2 ^ (64 * n) = 2 ^ (64 * j) * (2 ^ 64 * 2 ^ (64 * n - 64 * j - 64)) := by rw [← Nat.pow_add, ← Nat.pow_add]; congr 1; omega
  have h1 : x / 2 ^ (64 * j) / 2 ^ 64 < 2 ^ (64 * n - 64 * j - 64) := by
    rw [Nat.div_div_eq_div_mul, Nat.div_lt_iff_lt_mul (Nat.mul_pos hp (by decide))]
    rw [e] at hx
    rw [show 2 ^ (64 * n - 64 * j - 64) * (2 ^ (64 * j) * 2 ^ 64) = 2 ^ (64 * j) * (2 ^ 64 * 2 ^ (64 * n - 64 * j - 64)) by rw [Nat.mul_comm, Nat.mul_assoc]]
    exact hx
  rw [setL_parts, e]
  have h2 : v + 2 ^ 64 * (x / 2 ^ (64 * j) / 2 ^ 64) + 1 ≤ 2 ^ 64 * 2 ^ (64 * n - 64 * j - 64) := by
    have := Nat.mul_le_mul_left (2 ^ 64) h1
    rw [Nat.succ_eq_add_one, Nat.mul_add] at this
    omega
  have h3 := Nat.mul_le_mul_left (2 ^ (64 * j)) h2
  rw [Nat.mul_add, Nat.mul_one] at h3
  omega
theorem cellsM_set (n x j v : Nat) (hv : v < 2 ^ 64) : (cellsM n x).setIfInBounds j (.int .u64 (v : Int)) = cellsM n (setL x j v) := by
  apply Array.ext_getElem?
  intro i
  rw [Array.getElem?_setIfInBounds, size_cellsM]
  rcases Nat.lt_or_ge i n with hi | hi
  · rw [cellsM_at n _ i hi, cellsM_at n _ i hi, lmN_setL x j v i hv]
    by_cases h : j = i
    · subst h; rw [if_pos rfl, if_pos rfl, if_pos hi]
    · rw [if_neg h, if_neg h]
  · have e1 : (cellsM n x)[i]? = none := Array.getElem?_eq_none (by rw [size_cellsM]; exact hi)
    have e2 : (cellsM n (setL x j v))[i]? = none := Array.getElem?_eq_none (by rw [size_cellsM]; exact hi)
    rw [e1, e2]
    split
    · rw [if_neg (by omega)]
    · rfl
theorem ArrM.set {t : TypeId} {n : Nat} {w : World} {b x : Nat} (h : ArrM t n w b x) (j v : Nat) (hv : v < 2 ^ 64) : ArrM t n (w.setCell ⟨b, j, none⟩ (.int .u64 (v : Int))) b (setL x j v) := by
  unfold ArrM at *
  simp [World.setCell, Array.getElem?_modify, h, cellsM_set n x j v hv]
theorem setL_top (x j v : Nat) (hx : x < 2 ^ (64 * j)) : setL x j v = x + 2 ^ (64 * j) * v := by
  unfold setL lmN
  rw [Nat.div_eq_of_lt hx]; simp
/-- Add64 and Mul64 in numbers. -/
theorem add64_nat (x y c : Nat) (hx : x < 2 ^ 64) (hy : y < 2 ^ 64) (hc : c ≤ 1) : ∃ u v : Nat, u < 2 ^ 64 ∧ v ≤ 1 ∧ x + y + c = u + 2 ^ 64 * v ∧
    ∀ w, (callFunc 101 #[.int .u64 (x : Int), .int .u64 (y : Int), .int .u64 (c : Int)]).run Try.prog w = .ok (.value (.tuple #[.int .u64 (u : Int), .int .u64 (v : Int)])) w := by
  refine ⟨(x + y + c) % 2 ^ 64, (x + y + c) / 2 ^ 64, Nat.mod_lt _ (by decide), by omega, by omega, fun w => ?_⟩
  rw [add64_run (x : Int) (y : Int) (c : Int) (by omega) (by omega) (by omega) (by omega)]
  congr 5 <;> omega
theorem sub64_nat (x y c : Nat) (hx : x < 2 ^ 64) (hy : y < 2 ^ 64) (hc : c ≤ 1) : ∃ u v : Nat, u < 2 ^ 64 ∧ v ≤ 1 ∧ u + y + c = x + 2 ^ 64 * v ∧
    ∀ w, (callFunc 111 #[.int .u64 (x : Int), .int .u64 (y : Int), .int .u64 (c : Int)]).run Try.prog w = .ok (.value (.tuple #[.int .u64 (u : Int), .int .u64 (v : Int)])) w := by
  obtain ⟨u, hu⟩ : ∃ u : Nat, ((x : Int) - (y : Int) - (c : Int)) % 18446744073709551616 = (u : Int) := ⟨(((x : Int) - (y : Int) - (c : Int)) % 18446744073709551616).toNat, by omega⟩
  obtain ⟨v, hv⟩ : ∃ v : Nat, -(((x : Int) - (y : Int) - (c : Int)) / 18446744073709551616) = (v : Int) := ⟨(-(((x : Int) - (y : Int) - (c : Int)) / 18446744073709551616)).toNat, by omega⟩
  refine ⟨u, v, by omega, by omega, by omega, fun w => ?_⟩
  rw [sub64_run (x : Int) (y : Int) (c : Int) (by omega) (by omega) (by omega) (by omega) (by omega) (by omega), hu, hv]
theorem mul64_any (x y : Nat) (hx : x < 2 ^ 64) (hy : y < 2 ^ 64) (w : World) : Calls Try.prog 122 #[.int .u64 (x : Int), .int .u64 (y : Int)] w fun e w' => e = .returned (.tuple #[.int .u64 ((x * y / 2 ^ 64 : Nat) : Int), .int .u64 ((x * y % 2 ^ 64 : Nat) : Int)]) ∧ Below w.heap.size w w' :=
  (bits_Mul64 x y hx hy w).mono fun e w' ⟨h1, h2⟩ => ⟨h1, by subst h2; exact Below.refl _ _⟩
theorem mul_hi (x y : Nat) (hx : x < 2 ^ 64) (hy : y < 2 ^ 64) : x * y / 2 ^ 64 < 2 ^ 64 := by
  rw [Nat.div_lt_iff_lt_mul (by decide)]
  exact Nat.mul_lt_mul_of_lt_of_le hx (Nat.le_of_lt hy) (by decide)
end Go.Proofs.Ytfidbiabgmioaaa

/-! word: width, Zero, Of, Uint, upTo. -/
namespace Go.Proofs.Ytfidbiabgmioaaa
open Go.RowKit

/-- How many bits. -/
def bl (x : Nat) : Nat := if x = 0 then 0 else Nat.log2 x + 1
theorem bl_zero : bl 0 = 0 := rfl
theorem bl_spec (x : Nat) (h : x ≠ 0) : 1 ≤ bl x ∧ 2 ^ (bl x - 1) ≤ x ∧ x < 2 ^ bl x := by
  unfold bl
  rw [if_neg h]
  exact ⟨by omega, by rw [Nat.add_sub_cancel]; exact Nat.log2_self_le h, Nat.lt_log2_self⟩
theorem bl_unique (x k : Nat) (h1 : 1 ≤ k) (h2 : 2 ^ (k - 1) ≤ x) (h3 : x < 2 ^ k) : bl x = k := by
  have h0 : x ≠ 0 := by have : 0 < 2 ^ (k - 1) := Nat.pow_pos (by omega)
                        omega
  obtain ⟨g1, g2, g3⟩ := bl_spec x h0
  rcases Nat.lt_trichotomy (bl x) k with h | h | h
  · have : 2 ^ bl x ≤ 2 ^ (k - 1) := Nat.pow_le_pow_right (by omega) (by omega)
    omega
  · exact h
  · have : 2 ^ k ≤ 2 ^ (bl x - 1) := Nat.pow_le_pow_right (by omega) (by omega)
    omega
theorem bl_lt (x : Nat) : x < 2 ^ bl x := by
  by_cases h : x = 0
  · subst h; simp [bl]
  · exact (bl_spec x h).2.2
theorem bl_le (x k : Nat) (h : x < 2 ^ k) : bl x ≤ k := by
  by_cases h0 : x = 0
  · subst h0; simp [bl]
  · obtain ⟨g1, g2, g3⟩ := bl_spec x h0
    rcases Nat.lt_or_ge k (bl x) with h1 | h1
    · have : 2 ^ k ≤ 2 ^ (bl x - 1) := Nat.pow_le_pow_right (by omega) (by omega)
      omega
    · exact h1
theorem bl_lib (x : Nat) (h : x < 2 ^ 64) : Lib.bitLen x = bl x := by
  by_cases h0 : x = 0
  · subst h0; rfl
  · obtain ⟨g1, g2, g3⟩ := Lib.bitLenAux_bounds 64 x h h0
    exact (bl_unique x _ g1 g2 g3).symm
/-- The topmost limb that is not 0. -/
theorem bl_top (x i : Nat) (h : x < 2 ^ (64 * (i + 1))) (hn : lmN x i ≠ 0) : 64 * i + bl (lmN x i) = bl x := by
  have hp : 0 < 2 ^ (64 * i) := Nat.pow_pos (by omega)
  have he : lmN x i = x / 2 ^ (64 * i) := by
    unfold lmN
    rw [pow64_succ, Nat.mul_comm] at h
    exact Nat.mod_eq_of_lt (by rw [Nat.div_lt_iff_lt_mul hp]; exact h)
  obtain ⟨g1, g2, g3⟩ := bl_spec _ hn
  symm
  apply bl_unique x _ (by omega)
  · rw [show 64 * i + bl (lmN x i) - 1 = 64 * i + (bl (lmN x i) - 1) by omega, Nat.pow_add]
    rw [he] at g2 ⊢
    exact Nat.le_trans (Nat.mul_le_mul_left _ g2) (Nat.mul_div_le _ _)
  · rw [Nat.pow_add]
    rw [he] at g3 ⊢
    have h1 : 2 ^ (64 * i) * (x / 2 ^ (64 * i) + 1) ≤ 2 ^ (64 * i) * 2 ^ bl (x / 2 ^ (64 * i)) := Nat.mul_le_mul_left _ g3
    have h2 := Nat.div_add_mod x (2 ^ (64 * i))
    have h3 := Nat.mod_lt x hp
    rw [Nat.mul_add, Nat.mul_one] at h1
    omega
/-- The slice v has, in w, n limbs of x. -/
def RdM (w : World) (v : Value) (n x : Nat) : Prop :=
  ∃ a cap, v = .slice a n cap ∧ n ≤ cap ∧ (0 < n → ∃ b off, a = some ⟨b, off, none⟩ ∧ b < w.heap.size ∧ ∀ j, j < n → w.cell? ⟨b, off + j, none⟩ = some (.int .u64 ((lmN x j : Nat) : Int)))
theorem RdM.below {w w' : World} {v : Value} {n x : Nat} (h : RdM w v n x) (hb : Below w.heap.size w w') : RdM w' v n x := by
  obtain ⟨a, cap, e, hc, h⟩ := h
  refine ⟨a, cap, e, hc, fun hx => ?_⟩
  obtain ⟨b, off, e2, h2, h3⟩ := h hx
  exact ⟨b, off, e2, Nat.lt_of_lt_of_le h2 hb.size, fun j hj => by rw [hb.cell (p := ⟨b, off + j, none⟩) h2]; exact h3 j hj⟩
theorem ArrM.rd {t : TypeId} {n : Nat} {w : World} {b x : Nat} (h : ArrM t n w b x) (cap : Nat) (hc : n ≤ cap) : RdM w (.slice (some ⟨b, 0, none⟩) n cap) n x :=
  ⟨_, cap, rfl, hc, fun _ => ⟨b, 0, rfl, h.lt, fun j hj => by rw [Nat.zero_add]; exact h.cell j hj⟩⟩
theorem len64_same (x : Nat) (h : x < 2 ^ 64) (w : World) : Calls Try.prog 131 #[.int .u64 (x : Int)] w fun e w' => e = .returned (.int .i64 ((bl x : Nat) : Int)) ∧ w = w' :=
  (bits_Len64 (x : Int) w (by omega) (by omega)).mono fun e w' ⟨h1, h2⟩ => ⟨by rw [h1, Int.toNat_natCast, bl_lib x h], h2.symm⟩

set_option maxHeartbeats 1000000 in
theorem width_any (n x : Nat) (v : Value) (w : World) (hr : RdM w v n x) (hx : x < 2 ^ (64 * n)) (hn : n ≤ 1048576) : Calls Try.prog 114 #[v] w fun e w' => e = .returned (.int .i64 ((bl x : Nat) : Int)) ∧ w = w' := by
  obtain ⟨a, cap, rfl, hc, hr⟩ := hr
  have HX := hid hx
  have HR := hid hr
  clear hx hr
  go_enter Try.func114, Try.ntmps114
  go_wp2
  go_loop [3] (fun iv => ∃ i : Nat, i ≤ n ∧ iv = .int .i64 ((i : Int) - 1) ∧ Hid (x < 2 ^ (64 * i))) (fun iv => (intOf iv + 1).toNat)
  case atStart => exact ⟨n, Nat.le_refl _, rfl, HX⟩
  case round =>
    obtain ⟨i, hi, rfl, hxi⟩ := hrel
    by_cases h0 : i = 0
    · subst h0
      have hz : x = 0 := by have := hxi.out; simpa using this
      have HZ := hid (show bl x = 0 by rw [hz]; rfl)
      clear hz
      go_wp2
      go_ret
      exact ⟨by rw [HZ.out]; rfl, rfl⟩
    · obtain ⟨k, rfl⟩ : ∃ k, i = k + 1 := ⟨i - 1, by omega⟩
      obtain ⟨b, off, rfl, hbl, hcell⟩ := HR.out (by omega)
      have c1 := hcell k (by omega)
      have g1 := lmN_lt x k
      have e1 : (((k + 1 : Nat) : Int) - 1) = (k : Int) := by omega
      rw [e1]
      clear e1 h0 hcell
      by_cases hz : lmN x k = 0
      · have hxk : x < 2 ^ (64 * k) := by
          have h1 := hxi.out
          have hp : 0 < 2 ^ (64 * k) := Nat.pow_pos (by omega)
          rw [pow64_succ, Nat.mul_comm] at h1
          have h2 : x / 2 ^ (64 * k) < 2 ^ 64 := by rw [Nat.div_lt_iff_lt_mul hp]; exact h1
          unfold lmN at hz
          rw [Nat.mod_eq_of_lt h2] at hz
          exact (Nat.div_eq_zero_iff_lt hp).1 hz
        have HK := hid hxk
        rw [hz] at c1
        clear hz hxk
        go_wp2
        go_round
        case rel => exact ⟨k, by omega, rfl, HK⟩
        case measure => simp [intOf]
      · have HT := hid (bl_top x k hxi.out hz)
        have hb64 := bl_le (lmN x k) 64 g1
        have HL := hid (fun w => len64_same (lmN x k) g1 w)
        go_wp2_with (go_at_call 131; (with_reducible refine (HL.out _).mono ?_); rintro e w' ⟨rfl, rfl⟩)
        go_ret
        refine ⟨?_, rfl⟩
        rw [← HT.out]
        go_num

theorem eq_wd (x y : Nat) (hx : x < 2 ^ 256) (hy : y < 2 ^ 256) (w : World) : (Op.equalIn 10000 24 (.agg (cellsW x)) (.agg (cellsW y))).run Try.prog w = .ok (decide (x = y)) w := by
  have := run_equalIn_four (P := Try.prog) w (t := 24) (k := .u64) uWd (by kernel_rfl) (by kernel_rfl) (by kernel_rfl) (lm x 0) (lm x 1) (lm x 2) (lm x 3) (lm y 0) (lm y 1) (lm y 2) (lm y 3)
  have h2 : weq [lm x 0, lm x 1, lm x 2, lm x 3] [lm y 0, lm y 1, lm y 2, lm y 3] = decide (x = y) := by
    unfold weq
    congr 1
    apply propext
    constructor
    · intro h
      apply wd_inj hx hy
      simp only [List.cons.injEq, and_true] at h
      unfold cellsW
      rw [h.1, h.2.1, h.2.2.1, h.2.2.2]
    · intro h; rw [h]
  rw [← h2]; exact this
theorem cellsW_one (x : Nat) (h : x < 2 ^ 64) : cellsW x = #[.int .u64 (x : Int), .int .u64 0, .int .u64 0, .int .u64 0] := by
  have := cellsW_mk4 x 0 0 0 h (by decide) (by decide) (by decide)
  rw [show mk4 x 0 0 0 = x by unfold mk4; omega] at this
  exact this
theorem lmN_zero' (x : Nat) : lmN x 0 = x % 2 ^ 64 := by unfold lmN; simp

theorem wzero_any (x : Nat) (hx : x < 2 ^ 256) (w : World) : Calls Try.prog 47 #[wd x] w fun e w' => e = .returned (.bool (decide (x = 0))) ∧ Below w.heap.size w w' := by
  have he := eq_wd x 0 hx (by decide)
  unfold wd
  have iX := hid (iW x)
  have hA := hid (ArrW.new 24 w x)
  have hb : Below w.heap.size w (w.alloc (.cells (cellsW x) 24)) := (Below.refl _ _).alloc (Nat.le_refl _) _
  have he2 : ∀ w, (Op.equalIn 10000 24 (.agg (cellsW x)) (.agg #[.int .u64 0, .int .u64 0, .int .u64 0, .int .u64 0])).run Try.prog w = .ok (decide (x = 0)) w := he
  obtain ⟨r, hr⟩ : ∃ r, r = decide (x = 0) := ⟨_, rfl⟩
  rw [← hr] at he2 ⊢
  clear he hr hx
  go_enter Try.func47, Try.ntmps47
  go_wp2_with (refine wpList_load_row rfl 24 (.tmp 1) rfl w.heap.size rfl 24 _ (0, 0) _ hA.out uWd rfl iX.out ?_; simp only [Act.put, List.setIfInBounds_toArray, List.set_cons_zero, List.set_cons_succ])
  go_ret
  exact ⟨rfl, hb⟩

theorem wof_any (x : Nat) (hx : x < 2 ^ 64) (w : World) : Calls Try.prog 56 #[.int .u64 (x : Int)] w fun e w' => e = .returned (wd x) ∧ Below w.heap.size w w' := by
  have hc := hid (cellsW_one x hx)
  clear hx
  go_enter Try.func56, Try.ntmps56
  go_wp2
  refine bodyPost_ret (results_cell_row rfl _ _ w.heap.size 24 #[.int .u64 (x : Int), .int .u64 0, .int .u64 0, .int .u64 0] (0, 0) _ rfl (by show (w.heap.push _)[w.heap.size]? = _; simp) uWd rfl iWd) rfl ⟨?_, (Below.refl _ _).alloc (Nat.le_refl _) _⟩
  unfold wd
  rw [hc.out]

theorem wuint_any (x : Nat) (hx : x < 2 ^ 256) (w : World) : Calls Try.prog 50 #[wd x] w fun e w' => e = .returned (.tuple #[.int .u64 ((if x < 2 ^ 64 then x else 0 : Nat) : Int), .bool (decide (x < 2 ^ 64))]) ∧ Below w.heap.size w w' := by
  have h0 : lmN x 0 < 2 ^ 64 := lmN_lt x 0
  have he := eq_wd x (lmN x 0) hx (Nat.lt_of_lt_of_le h0 (by decide))
  rw [cellsW_one (lmN x 0) h0] at he
  have hd : decide (x = lmN x 0) = decide (x < 2 ^ 64) := by
    congr 1
    apply propext
    rw [lmN_zero']
    constructor
    · intro h; have := Nat.mod_lt x (by decide : 0 < 2 ^ 64); omega
    · intro h; exact (Nat.mod_eq_of_lt h).symm
  rw [hd] at he
  have hl : x < 2 ^ 64 → lmN x 0 = x := fun h => by rw [lmN_zero', Nat.mod_eq_of_lt h]
  unfold wd
  have iX := hid (iW x)
  have hA := ArrM.ofW (ArrW.new 24 w x)
  have c0 := hA.cell 0 (by omega)
  have HA := hid (ArrM.toW hA)
  have hb : Below w.heap.size w (w.alloc (.cells (cellsW x) 24)) := (Below.refl _ _).alloc (Nat.le_refl _) _
  clear hd hA
  by_cases hlt : x < 2 ^ 64
  · have hlx := hl hlt
    rw [hlx] at he c0
    rw [decide_eq_true hlt] at he ⊢
    rw [if_pos hlt]
    clear hl hlx hlt hx h0
    go_enter Try.func50, Try.ntmps50
    go_wp2_with (refine wpList_load_row rfl 24 (.tmp 1) rfl w.heap.size rfl 24 _ (0, 0) _ HA.out uWd rfl iX.out ?_; simp only [Act.put, List.setIfInBounds_toArray, List.set_cons_zero, List.set_cons_succ])
    go_ret2
    exact ⟨rfl, hb⟩
  · rw [decide_eq_false hlt] at he ⊢
    rw [if_neg hlt]
    clear hl hlt hx h0
    go_enter Try.func50, Try.ntmps50
    go_wp2_with (refine wpList_load_row rfl 24 (.tmp 1) rfl w.heap.size rfl 24 _ (0, 0) _ HA.out uWd rfl iX.out ?_; simp only [Act.put, List.setIfInBounds_toArray, List.set_cons_zero, List.set_cons_succ])
    go_ret2
    exact ⟨rfl, hb⟩

/-- A word as an int; most, if it is no less. -/
def upT (x m : Nat) : Nat := if x < m then x else m
theorem upto_any (x m : Nat) (hx : x < 2 ^ 256) (hm : m ≤ 65536) (w : World) : Calls Try.prog 102 #[wd x, .int .u64 (m : Int)] w fun e w' => e = .returned (.int .i64 ((upT x m : Nat) : Int)) ∧ Below w.heap.size w w' := by
  have hU := hid (fun w => wuint_any x hx w)
  unfold wd at *
  have iX := hid (iW x)
  have hA := hid (ArrW.new 24 w x)
  have hb : Below w.heap.size w (w.alloc (.cells (cellsW x) 24)) := (Below.refl _ _).alloc (Nat.le_refl _) _
  clear hx
  by_cases h1 : x < 2 ^ 64
  · rw [decide_eq_true h1, if_pos h1] at hU
    by_cases h2 : x ≤ m
    · have HU := hid (show upT x m = x by unfold upT; split <;> omega)
      have h3 : ¬ (m < x) := by omega
      clear h1
      go_enter Try.func102, Try.ntmps102
      go_wp2_with (refine wpList_load_row rfl 24 (.tmp 2) rfl w.heap.size rfl 24 _ (0, 0) _ hA.out uWd rfl iX.out ?_; simp only [Act.put, List.setIfInBounds_toArray, List.set_cons_zero, List.set_cons_succ])
      refine (hU.out _).mono ?_
      rintro e w1 ⟨rfl, hb1⟩
      go_wp2
      go_ret
      exact ⟨by rw [HU.out]; rfl, hb.trans (hb1.mono hb.size)⟩
    · have HU := hid (show upT x m = m by unfold upT; split <;> omega)
      have h3 : m < x := by omega
      clear h1 h2
      go_enter Try.func102, Try.ntmps102
      go_wp2_with (refine wpList_load_row rfl 24 (.tmp 2) rfl w.heap.size rfl 24 _ (0, 0) _ hA.out uWd rfl iX.out ?_; simp only [Act.put, List.setIfInBounds_toArray, List.set_cons_zero, List.set_cons_succ])
      refine (hU.out _).mono ?_
      rintro e w1 ⟨rfl, hb1⟩
      go_wp2
      go_ret
      exact ⟨by rw [HU.out]; rfl, hb.trans (hb1.mono hb.size)⟩
  · rw [decide_eq_false h1, if_neg h1] at hU
    have HU := hid (show upT x m = m by unfold upT; split <;> omega)
    clear h1
    go_enter Try.func102, Try.ntmps102
    go_wp2_with (refine wpList_load_row rfl 24 (.tmp 2) rfl w.heap.size rfl 24 _ (0, 0) _ hA.out uWd rfl iX.out ?_; simp only [Act.put, List.setIfInBounds_toArray, List.set_cons_zero, List.set_cons_succ])
    refine (hU.out _).mono ?_
    rintro e w1 ⟨rfl, hb1⟩
    go_wp2
    go_ret
    exact ⟨by rw [HU.out]; rfl, hb.trans (hb1.mono hb.size)⟩
end Go.Proofs.Ytfidbiabgmioaaa

/-! word: products. -/
namespace Go.Proofs.Ytfidbiabgmioaaa
open Go.RowKit

theorem uM8 : Try.prog.underlying 69 = some (.array 8 22) := by kernel_rfl
theorem iM8' : (Try.prog.info? 69).map (·.size) = some 8 := by kernel_rfl
theorem zM8 : (Try.prog.info? 69).bind (·.zero) = some (.agg (cellsM 8 0)) := by kernel_rfl
theorem iM8 (x : Nat) : (Try.prog.info? 69).map (·.size) = some (cellsM 8 x).size := by rw [size_cellsM]; exact iM8'
theorem mul64_nat (x y : Nat) (hx : x < 2 ^ 64) (hy : y < 2 ^ 64) : ∃ hi lo : Nat, hi < 2 ^ 64 ∧ lo < 2 ^ 64 ∧ x * y = lo + 2 ^ 64 * hi ∧
    ∀ w, Calls Try.prog 122 #[.int .u64 (x : Int), .int .u64 (y : Int)] w fun e w' => e = .returned (.tuple #[.int .u64 (hi : Int), .int .u64 (lo : Int)]) ∧ Below w.heap.size w w' :=
  ⟨x * y / 2 ^ 64, x * y % 2 ^ 64, mul_hi x y hx hy, Nat.mod_lt _ (by decide), (Nat.mod_add_div _ _).symm, fun w => mul64_any x y hx hy w⟩
theorem add64_nat0 (x y : Nat) (hx : x < 2 ^ 64) (hy : y < 2 ^ 64) : ∃ u v : Nat, u < 2 ^ 64 ∧ v ≤ 1 ∧ x + y = u + 2 ^ 64 * v ∧
    ∀ w, (callFunc 101 #[.int .u64 (x : Int), .int .u64 (y : Int), .int .u64 0]).run Try.prog w = .ok (.value (.tuple #[.int .u64 (u : Int), .int .u64 (v : Int)])) w := add64_nat x y 0 hx hy (by omega)
theorem mul64_le (x y : Nat) (hx : x < 2 ^ 64) (hy : y < 2 ^ 64) : x * y ≤ 340282366920938463426481119284349108225 := by
  have h := Nat.mul_le_mul (show x ≤ 2 ^ 64 - 1 by omega) (show y ≤ 2 ^ 64 - 1 by omega)
  exact Nat.le_trans h (by decide)
theorem full_step (a b P c i k hi lo u1 v1 u2 v2 : Nat) (hP : P < 2 ^ (64 * (i + 4))) (hk : k < 4) (hc : c < 2 ^ 64) (hu2 : u2 < 2 ^ 64)
    (hm : lmN a i * lmN b k = lo + 2 ^ 64 * hi) (h1 : lo + lmN P (i + k) = u1 + 2 ^ 64 * v1) (h2 : u1 + c = u2 + 2 ^ 64 * v2)
    (hinv : P + 2 ^ (64 * (i + k)) * c = a % 2 ^ (64 * i) * b + 2 ^ (64 * i) * (lmN a i * (b % 2 ^ (64 * k)))) :
    hi + v1 + v2 < 2 ^ 64 ∧ setL P (i + k) u2 < 2 ^ (64 * (i + 4)) ∧
    setL P (i + k) u2 + 2 ^ (64 * (i + (k + 1))) * (hi + v1 + v2) = a % 2 ^ (64 * i) * b + 2 ^ (64 * i) * (lmN a i * (b % 2 ^ (64 * (k + 1)))) := by
  have ga := lmN_lt a i
  have gb := lmN_lt b k
  have gp := lmN_lt P (i + k)
  have hle := mul64_le (lmN a i) (lmN b k) ga gb
  refine ⟨by clear hinv hP; omega, setL_lt _ _ _ _ hP hu2 (by omega), ?_⟩
  have h3 := setL_eq P (i + k) u2
  have e1 : 2 ^ (64 * (i + (k + 1))) = 2 ^ (64 * (i + k)) * 2 ^ 64 := pow64_succ (i + k)
  have e2 : 2 ^ (64 * (i + k)) = 2 ^ (64 * i) * 2 ^ (64 * k) := by rw [Nat.mul_add, Nat.pow_add]
  have e3 : u2 + 2 ^ 64 * (hi + v1 + v2) = lmN a i * lmN b k + lmN P (i + k) + c := by omega
  have e4 : 2 ^ (64 * (i + k)) * u2 + 2 ^ (64 * (i + k)) * 2 ^ 64 * (hi + v1 + v2) = 2 ^ (64 * (i + k)) * (lmN a i * lmN b k) + 2 ^ (64 * (i + k)) * lmN P (i + k) + 2 ^ (64 * (i + k)) * c := by
    rw [Nat.mul_assoc, ← Nat.mul_add, ← Nat.mul_add, ← Nat.mul_add, e3]
  have e5 : 2 ^ (64 * i) * (lmN a i * (b % 2 ^ (64 * (k + 1)))) = 2 ^ (64 * i) * (lmN a i * (b % 2 ^ (64 * k))) + 2 ^ (64 * (i + k)) * (lmN a i * lmN b k) := by
    rw [low_succ, e2, Nat.mul_add, Nat.mul_add, Nat.mul_assoc, Nat.mul_left_comm (lmN a i) (2 ^ (64 * k))]
  rw [e5, e1]
  omega
theorem full_end (a b P c i : Nat) (hb : b < 2 ^ 256) (hP : P < 2 ^ (64 * (i + 4)))
    (hinv : P + 2 ^ (64 * (i + 4)) * c = a % 2 ^ (64 * i) * b + 2 ^ (64 * i) * (lmN a i * (b % 2 ^ (64 * 4)))) :
    setL P (i + 4) c = a % 2 ^ (64 * (i + 1)) * b := by
  rw [setL_top _ _ _ hP, hinv, low_full b hb, low_succ, Nat.add_mul, Nat.mul_assoc]

set_option maxHeartbeats 2000000 in
set_option maxRecDepth 100000 in
theorem wfull_any (a b : Nat) (w : World) (ha : a < 2 ^ 256) (hb : b < 2 ^ 256) : Calls Try.prog 110 #[wd a, wd b] w fun e w' => e = .returned (.agg (cellsM 8 (a * b))) ∧ Below w.heap.size w w' := by
  have HA := hid ha
  have HB := hid hb
  clear ha hb
  unfold wd
  have hA0 := hid (show ArrW 24 (((w.alloc (.cells (cellsW a) 24)).alloc (.cells (cellsW b) 24)).alloc (.cells (cellsM 8 0) 69)) w.heap.size a from ((ArrW.new _ w a).alloc _).alloc _)
  have hB0 := hid (show ArrW 24 (((w.alloc (.cells (cellsW a) 24)).alloc (.cells (cellsW b) 24)).alloc (.cells (cellsM 8 0) 69)) (w.heap.size + 1) b by
    have := ArrW.new 24 (w.alloc (.cells (cellsW a) 24)) b
    rw [World.size_alloc] at this; exact this.alloc _)
  have hC0 := hid (show ArrM 69 8 (((w.alloc (.cells (cellsW a) 24)).alloc (.cells (cellsW b) 24)).alloc (.cells (cellsM 8 0) 69)) (w.heap.size + 1 + 1) 0 by
    have := ArrM.new 69 8 ((w.alloc (.cells (cellsW a) 24)).alloc (.cells (cellsW b) 24)) 0
    rw [World.size_alloc, World.size_alloc] at this; exact this)
  have hb0 : Below w.heap.size w (((w.alloc (.cells (cellsW a) 24)).alloc (.cells (cellsW b) 24)).alloc (.cells (cellsM 8 0) 69)) := (((Below.refl _ _).alloc (Nat.le_refl _) _).alloc (by simp) _).alloc (by simp; omega) _
  go_enter Try.func110, Try.ntmps110
  go_wp2_with (refine wpList_alloc_new rfl 69 rfl (cellsM 8 0) zM8 ?_; simp only [Act.put, List.setIfInBounds_toArray, List.set_cons_zero, List.set_cons_succ])
  simp only [World.size_alloc]
  generalize ((w.alloc (.cells (cellsW a) 24)).alloc (.cells (cellsW b) 24)).alloc (.cells (cellsM 8 0) 69) = w1 at hA0 hB0 hC0 hb0 ⊢
  go_loopw [11] (fun iv wr => ∃ i P : Nat, i ≤ 4 ∧ iv = .int .i64 i ∧ Hid (P < 2 ^ (64 * (i + 4)) ∧ P = a % 2 ^ (64 * i) * b) ∧ Hid (ArrW 24 wr w.heap.size a) ∧ Hid (ArrW 24 wr (w.heap.size + 1) b) ∧ Hid (ArrM 69 8 wr (w.heap.size + 1 + 1) P) ∧ Below w.heap.size w wr)
    (fun iv _ => 4 - (intOf iv).toNat)
  case atStart => exact ⟨0, 0, by omega, rfl, hid ⟨by exact Nat.pow_pos (by omega), by simp [Nat.mod_one]⟩, hA0, hB0, hC0, hb0⟩
  case round =>
    clear hA0 hB0 hC0 hb0
    obtain ⟨i, P0, hi, rfl, hX, hA0, hB0, hC0, hb0⟩ := hrel
    by_cases hlt : i < 4
    · go_wp2
      go_loopw [6, 14] (fun cv kv wr => ∃ k c P : Nat, k ≤ 4 ∧ c < 18446744073709551616 ∧ kv = .int .i64 k ∧ cv = .int .u64 c ∧ Hid (P < 2 ^ (64 * (i + 4)) ∧ P + 2 ^ (64 * (i + k)) * c = a % 2 ^ (64 * i) * b + 2 ^ (64 * i) * (lmN a i * (b % 2 ^ (64 * k)))) ∧ Hid (ArrW 24 wr w.heap.size a) ∧ Hid (ArrW 24 wr (w.heap.size + 1) b) ∧ Hid (ArrM 69 8 wr (w.heap.size + 1 + 1) P) ∧ Below w.heap.size w wr)
        (fun _ kv _ => 4 - (intOf kv).toNat)
      case atStart => exact ⟨0, 0, P0, by omega, by omega, rfl, rfl, hid ⟨hX.out.1, by rw [hX.out.2]; simp [Nat.mod_one]⟩, hA0, hB0, hC0, hb0⟩
      case round =>
        clear hA0 hB0 hC0 hb0 hX
        obtain ⟨k, c, P, hk, hc, rfl, rfl, hX, hA, hB, hC, hb⟩ := hrel
        by_cases hklt : k < 4
        · have c1 := hA.out.cell i hlt
          have c2 := hB.out.cell k hklt
          have l1 := hA.out.lt
          have l2 := hB.out.lt
          obtain ⟨mhi, mlo, m1, m2, m3, m4⟩ := mul64_nat (lmN a i) (lmN b k) (lmN_lt _ _) (lmN_lt _ _)
          obtain ⟨u1, v1, p1, p2, p3, p4⟩ := add64_nat0 mlo (lmN P (i + k)) m2 (lmN_lt _ _)
          obtain ⟨u2, v2, r1, r2, r3, r4⟩ := add64_nat0 u1 c p1 hc
          obtain ⟨s1, s2, s3⟩ := full_step a b P c i k mhi mlo u1 v1 u2 v2 hX.out.1 hklt hc r1 m3 p3 r3 hX.out.2
          have M4 := hid m4
          have S2 := hid s2
          have S3 := hid s3
          have lP := lmN_lt P (i + k)
          clear m3 p3 r3 s2 s3 m4
          unfold lm at c1 c2
          go_wp2_with fail
          (refine wp_region_ext (by kernel_rfl) (by kernel_rfl) ?_; (repeat (go_big_quiet_step (first | (go_at_call 122; with_reducible refine Calls.ext_of (M4.out _))))); refine wpQuiet_nil ?_; rintro _ ⟨xw, rfl⟩)
          have hA' := hid (hA.out.ext xw)
          have hB' := hid (hB.out.ext xw)
          have hC' := hid (hC.out.ext xw)
          have hb' := World.ext_below_of hb hb.size xw
          clear hA hB hC hb c1 c2 l1 l2
          generalize wr.ext xw = wr at *
          have c3 := hC'.out.cell (i + k) (by omega)
          have f3 := hC'.out.free (i + k)
          have l3 := hC'.out.lt
          go_wp2
          go_roundw
          case rel =>
            refine ⟨k + 1, mhi + v1 + v2, setL P (i + k) u2, by omega, s1, by go_num, ?_, hid ⟨S2.out, S3.out⟩, hid (hA'.out.other (by show w.heap.size ≠ w.heap.size + 1 + 1; omega) _), hid (hB'.out.other (by show w.heap.size + 1 ≠ w.heap.size + 1 + 1; omega) _), hid (hC'.out.set (i + k) u2 r1), hb'.setCell (p := ⟨w.heap.size + 1 + 1, i + k, none⟩) (by show w.heap.size ≤ w.heap.size + 1 + 1; omega) _⟩
            go_num
          case measure => simp [intOf]; omega
        · obtain rfl : k = 4 := by omega
          have c3 := hC.out.cell (i + 4) (by omega)
          have f3 := hC.out.free (i + 4)
          have l3 := hC.out.lt
          have HE := hid (full_end a b P c i HB.out hX.out.1 hX.out.2)
          have HL := hid (show setL P (i + 4) c < 2 ^ (64 * (i + 1 + 4)) by
            rw [setL_top _ _ _ hX.out.1, show i + 1 + 4 = (i + 4) + 1 by omega]
            exact set_lt P (i + 4) c hX.out.1 hc)
          go_wp2
          go_roundw
          case rel =>
            exact ⟨i + 1, setL P (i + 4) c, by omega, by go_num, hid ⟨HL.out, HE.out⟩, hid (hA.out.other (by show w.heap.size ≠ w.heap.size + 1 + 1; omega) _), hid (hB.out.other (by show w.heap.size + 1 ≠ w.heap.size + 1 + 1; omega) _), hid (hC.out.set (i + 4) c hc), hb.setCell (p := ⟨w.heap.size + 1 + 1, i + 4, none⟩) (by show w.heap.size ≤ w.heap.size + 1 + 1; omega) _⟩
          case measure => simp [intOf]; omega
    · obtain rfl : i = 4 := by omega
      have hP : P0 = a * b := by rw [hX.out.2, low_full a HA.out]
      subst hP
      have iX := hid (iM8 (a * b))
      have nX := hid (one_cellsM 8 (a * b))
      clear hX hA0 hB0 hlt hi
      go_wp2_with (first | (refine wpList_load_row rfl 69 (.tmp 4) rfl (w.heap.size + 1 + 1) rfl 69 _ (0, 0) _ hC0.out uM8 rfl iX.out ?_; simp only [Act.put, List.setIfInBounds_toArray, List.set_cons_zero, List.set_cons_succ]) | (refine wpList_store_row rfl 69 (.tmp 4) (.tmp 60) rfl (w.heap.size + 1 + 1) _ rfl rfl 69 _ hC0.out iX.out rfl nX.out ?_; simp only [Act.put]))
      refine bodyPost_ret (results_cell_row rfl _ _ (w.heap.size + 1 + 1) 69 (cellsM 8 (a * b)) (0, 0) _ rfl (heap_setRow' _ _ _ _ _ hC0.out) uM8 rfl iX.out) rfl ⟨rfl, below_setRow' hb0 _ (by omega) _⟩
end Go.Proofs.Ytfidbiabgmioaaa
