import Derived.Test.YtfidbiabgmioaaaWordD
import Derived.Test.YtfidbiabgmioaaaWordF
import Derived.Test.YtfidbiabgmioaaaWordI
import Derived.Test.YtfidbiabgmioaaaWant
/-! field: P, L, below, fold. -/
set_option maxRecDepth 4000
set_option linter.unusedVariables false
set_option linter.unusedSimpArgs false
namespace Go.Proofs.Ytfidbiabgmioaaa
open Go.RowKit

/-- The first prime, the second. -/
def pN : Nat := 57896044618658097711785492504343953926634992332820282019728792003956564819949
def lN : Nat := 7237005577332262213973186563042994240857116359379907606001950938285454250989
theorem pN_lt : pN < 2 ^ 256 := by decide +kernel
theorem lN_lt : lN < 2 ^ 256 := by decide +kernel
theorem pN_pos : 0 < pN := by decide +kernel
theorem lN_pos : 0 < lN := by decide +kernel
theorem pN_two : 2 ^ 256 = 2 * pN + 38 := by decide +kernel
theorem p_cells : cellsW pN = #[.int .u64 18446744073709551597, .int .u64 18446744073709551615, .int .u64 18446744073709551615, .int .u64 9223372036854775807] := by
  rw [show pN = mk4 18446744073709551597 18446744073709551615 18446744073709551615 9223372036854775807 from by decide +kernel, cellsW_mk4 _ _ _ _ (by decide) (by decide) (by decide) (by decide)]; rfl
theorem l_cells : cellsW lN = #[.int .u64 6346243789798364141, .int .u64 1503914060200516822, .int .u64 0, .int .u64 1152921504606846976] := by
  rw [show lN = mk4 6346243789798364141 1503914060200516822 0 1152921504606846976 from by decide +kernel, cellsW_mk4 _ _ _ _ (by decide) (by decide) (by decide) (by decide)]; rfl

theorem p_built : Try.prog.built 24 [(0, .int .u64 18446744073709551597), (1, .int .u64 18446744073709551615), (2, .int .u64 18446744073709551615), (3, .int .u64 9223372036854775807)] = some (cellsW pN) := by rw [p_cells]; kernel_rfl
theorem l_built : Try.prog.built 24 [(0, .int .u64 6346243789798364141), (1, .int .u64 1503914060200516822), (2, .int .u64 0), (3, .int .u64 1152921504606846976)] = some (cellsW lN) := by rw [l_cells]; kernel_rfl

set_option maxHeartbeats 1000000 in
theorem fP_any (w : World) : Calls Try.prog 88 #[] w fun e w' => e = .returned (wd pN) ∧ Below w.heap.size w w' := by
  have hB := hid p_built
  have iP := hid (iW pN)
  have nP := hid (one_cellsW pN)
  have hA0 := hid (ArrW.new 24 w 0)
  have hb0 : Below w.heap.size w (w.alloc (.cells (cellsW 0) 24)) := (Below.refl _ _).alloc (Nat.le_refl _) _
  unfold wd
  generalize pN = p at *
  go_enter Try.func88, Try.ntmps88
  go_wp2_with (first | (refine wpList_alloc_new rfl 24 rfl (cellsW 0) zWd ?_; simp only [Act.put, List.setIfInBounds_toArray, List.set_cons_zero, List.set_cons_succ, World.size_alloc]) | (refine wpList_buildStore 24 _ (.tmp 0) 1 (cellsW p) _ rfl rfl rfl rfl rfl rfl (by simp) (by first | exact hB.out | (simp only [List.map_toArray, List.map_cons, List.map_nil]; exact hB.out)) rfl 24 _ hA0.out iP.out rfl nP.out ?_; simp only [Act.put, List.setIfInBounds_toArray, List.set_cons_zero, List.set_cons_succ]))
  refine bodyPost_ret (results_cell_row rfl _ _ w.heap.size 24 (cellsW p) (0, 0) _ rfl (heap_setRow' _ _ _ _ _ hA0.out) uWd rfl iP.out) rfl ⟨rfl, below_setRow' hb0 _ (Nat.le_refl _) _⟩
set_option maxHeartbeats 1000000 in
theorem fL_any (w : World) : Calls Try.prog 98 #[] w fun e w' => e = .returned (wd lN) ∧ Below w.heap.size w w' := by
  have hB := hid l_built
  have iP := hid (iW lN)
  have nP := hid (one_cellsW lN)
  have hA0 := hid (ArrW.new 24 w 0)
  have hb0 : Below w.heap.size w (w.alloc (.cells (cellsW 0) 24)) := (Below.refl _ _).alloc (Nat.le_refl _) _
  unfold wd
  generalize lN = p at *
  go_enter Try.func98, Try.ntmps98
  go_wp2_with (first | (refine wpList_alloc_new rfl 24 rfl (cellsW 0) zWd ?_; simp only [Act.put, List.setIfInBounds_toArray, List.set_cons_zero, List.set_cons_succ, World.size_alloc]) | (refine wpList_buildStore 24 _ (.tmp 0) 1 (cellsW p) _ rfl rfl rfl rfl rfl rfl (by simp) (by first | exact hB.out | (simp only [List.map_toArray, List.map_cons, List.map_nil]; exact hB.out)) rfl 24 _ hA0.out iP.out rfl nP.out ?_; simp only [Act.put, List.setIfInBounds_toArray, List.set_cons_zero, List.set_cons_succ]))
  refine bodyPost_ret (results_cell_row rfl _ _ w.heap.size 24 (cellsW p) (0, 0) _ rfl (heap_setRow' _ _ _ _ _ hA0.out) uWd rfl iP.out) rfl ⟨rfl, below_setRow' hb0 _ (Nat.le_refl _) _⟩

set_option maxHeartbeats 2000000 in
theorem below_any (x : Nat) (w : World) (hx : x < 2 ^ 256) : Calls Try.prog 86 #[wd x] w fun e w' => e = .returned (wd (x % pN)) ∧ Below w.heap.size w w' := by
  have hP := hid fP_any
  have hC := hid (fun y w (hy : y < 2 ^ 256) => wcmp_any y pN w hy pN_lt)
  have hS := hid (fun y w (hy : y < 2 ^ 256) => wsub_any y pN w hy pN_lt)
  have hpos := hid pN_pos
  have hplt := hid pN_lt
  have HX := hid hx
  clear hx
  generalize pN = p at *
  unfold wd at *
  have hA0 := hid (show ArrW 24 ((w.alloc (.cells (cellsW x) 24)).alloc (.cells (cellsW 0) 24)) w.heap.size x from (ArrW.new _ w x).alloc _)
  have hC0 := hid (show ArrW 24 ((w.alloc (.cells (cellsW x) 24)).alloc (.cells (cellsW 0) 24)) (w.heap.size + 1) 0 by
    have := ArrW.new 24 (w.alloc (.cells (cellsW x) 24)) 0
    rw [World.size_alloc] at this; exact this)
  have hb0 : Below w.heap.size w ((w.alloc (.cells (cellsW x) 24)).alloc (.cells (cellsW 0) 24)) := ((Below.refl _ _).alloc (Nat.le_refl _) _).alloc (by simp) _
  go_enter Try.func86, Try.ntmps86
  go_wp2_with (refine wpList_alloc_new rfl 24 rfl (cellsW 0) zWd ?_; simp only [Act.put, List.setIfInBounds_toArray, List.set_cons_zero, List.set_cons_succ, World.size_alloc])
  generalize (w.alloc (.cells (cellsW x) 24)).alloc (.cells (cellsW 0) 24) = w1 at hA0 hC0 hb0 ⊢
  go_loopg [6] x (fun k _ wr => k < 2 ^ 256 ∧ Hid (k % p = x % p) ∧ Hid (ArrW 24 wr w.heap.size k) ∧ Hid (ArrW 24 wr (w.heap.size + 1) 0) ∧ Below w.heap.size w wr)
  case atStart => exact ⟨HX.out, hid rfl, hA0, hC0, hb0⟩
  case round =>
    clear hA0 hC0 hb0
    obtain ⟨hk, hm, hA, hC0, hb⟩ := hrel
    have iK := hid (iW gk)
    have hC1 := hid (fun w => hC.out gk w hk)
    have hS1 := hid (fun w => hS.out gk w hk)
    by_cases hle : p ≤ gk
    · have hge : 0 ≤ cmpI gk p := by unfold cmpI; split <;> (try split) <;> omega
      have HK := hid hk
      obtain ⟨c, hc⟩ : ∃ c, c = cmpI gk p := ⟨_, rfl⟩
      rw [← hc] at hC1 hge
      obtain ⟨d, hd⟩ : ∃ d, d = subW gk p := ⟨_, rfl⟩
      rw [← hd] at hS1
      have hd2 : d = gk - p := by
        rw [hd]; unfold subW
        have h1 := HK.out
        have h2 := hplt.out
        generalize 2 ^ 256 = T at *
        rw [show gk + (T - p) = (gk - p) + T by omega, Nat.add_mod_right, Nat.mod_eq_of_lt (by omega)]
      have HD := hid hd2
      have iD := hid (iW d)
      have nD := hid (one_cellsW d)
      have HLE := hid hle
      clear hc hd hd2 hk hle
      go_wp2_with fail
      ((try simp only [World.size_alloc]); refine wp_region_ext (by kernel_rfl) (by kernel_rfl) ?_; (try simp only [List.append_eq, List.cons_append, List.nil_append]); (repeat (first | (refine wpQuiet_load_want 24 (.tmp 1) rfl w.heap.size rfl 24 (cellsW _) _ hA.out uWd rfl iK.out rfl ?_; simp only [Act.put, List.setIfInBounds_toArray, List.set_cons_zero, List.set_cons_succ]) | go_big_quiet_step (first | (go_at_call 88; with_reducible refine Calls.ext_of (hP.out _)) | (go_at_call 42; with_reducible refine Calls.ext_of (hC1.out _))))); refine wpQuiet_nil ?_; rintro _ ⟨xw, rfl⟩)
      have hA1 := hid (hA.out.ext xw)
      have hC01 := hid (hC0.out.ext xw)
      have hb1 := World.ext_below_of hb hb.size xw
      generalize wr.ext xw = w2 at hA1 hC01 hb1 ⊢
      clear hA hC0 hb hC1
      go_wp2_with fail
      ((try simp only [World.size_alloc]); refine wp_region_ext_tail 3 (by kernel_rfl) (by kernel_rfl) ?_; simp only [List.take_succ_cons, List.take_zero, List.drop_succ_cons, List.drop_zero]; (repeat (first | (refine wpQuiet_load_want 24 (.tmp 1) rfl w.heap.size rfl 24 (cellsW _) _ hA1.out uWd rfl iK.out rfl ?_; simp only [Act.put, List.setIfInBounds_toArray, List.set_cons_zero, List.set_cons_succ]) | go_big_quiet_step (first | (go_at_call 88; with_reducible refine Calls.ext_of (hP.out _)) | (go_at_call 41; with_reducible refine Calls.ext_of (hS1.out _))))); refine wpQuiet_nil ?_; rintro _ ⟨xw, rfl⟩)
      have hA2 := hid (hA1.out.ext xw)
      have hC2 := hid (hC01.out.ext xw)
      have hb2 := World.ext_below_of hb1 hb1.size xw
      generalize w2.ext xw = w3 at hA2 hC2 hb2 ⊢
      clear hA1 hC01 hb1
      (refine wpList_store_row rfl 24 (.tmp 1) (.tmp 9) rfl w.heap.size _ rfl rfl 24 _ hA2.out iD.out rfl nD.out ?_; simp only [Act.put])
      have hA3 := hid (hA2.out.row d)
      have hC3 := hid (hC2.out.otherRow (show w.heap.size + 1 ≠ w.heap.size by omega) (cellsW d))
      have hb3 := below_setRow' hb2 w.heap.size (Nat.le_refl _) (cellsW d)
      generalize w3.setRow w.heap.size (cellsW d) = w4 at hA3 hC3 hb3 ⊢
      clear hA2 hC2 hb2
      go_wp2
      go_roundg d
      case measure => have := HD.out; have := hpos.out; have := HLE.out; omega
      case rel =>
        have e1 := HD.out
        have e2 := HLE.out
        refine ⟨by have := HK.out; omega, hid ?_, hA3, hC3, hb3⟩
        rw [e1, ← hm.out, Nat.mod_eq_sub_mod e2]
    · have hge : ¬ 0 ≤ cmpI gk p := by unfold cmpI; split <;> (try split) <;> omega
      have hfin := hid (show gk = x % p by rw [← hm.out, Nat.mod_eq_of_lt (by omega)])
      obtain ⟨c, hc⟩ : ∃ c, c = cmpI gk p := ⟨_, rfl⟩
      rw [← hc] at hC1 hge
      have nK := hid (one_cellsW gk)
      clear hc hle hk hm
      go_wp2_with fail
      ((try simp only [World.size_alloc]); refine wp_region_ext (by kernel_rfl) (by kernel_rfl) ?_; (try simp only [List.append_eq, List.cons_append, List.nil_append]); (repeat (first | (refine wpQuiet_load_want 24 (.tmp 1) rfl w.heap.size rfl 24 (cellsW _) _ hA.out uWd rfl iK.out rfl ?_; simp only [Act.put, List.setIfInBounds_toArray, List.set_cons_zero, List.set_cons_succ]) | go_big_quiet_step (first | (go_at_call 88; with_reducible refine Calls.ext_of (hP.out _)) | (go_at_call 42; with_reducible refine Calls.ext_of (hC1.out _))))); refine wpQuiet_nil ?_; rintro _ ⟨xw, rfl⟩)
      have hA1 := hid (hA.out.ext xw)
      have hC01 := hid (hC0.out.ext xw)
      have hb1 := World.ext_below_of hb hb.size xw
      generalize wr.ext xw = w2 at hA1 hC01 hb1 ⊢
      clear hA hC0 hb hC1
      go_wp2_with (first | (refine wpList_load_row rfl 24 (.tmp 1) rfl w.heap.size rfl 24 _ (0, 0) _ hA1.out uWd rfl iK.out ?_; simp only [Act.put, List.setIfInBounds_toArray, List.set_cons_zero, List.set_cons_succ]) | (refine wpList_store_row rfl 24 (.tmp 2) (.tmp 10) rfl (w.heap.size + 1) _ rfl rfl 24 _ hC01.out iK.out rfl nK.out ?_; simp only [Act.put]))
      refine bodyPost_ret (results_cell_row rfl _ _ (w.heap.size + 1) 24 (cellsW gk) (0, 0) _ rfl (heap_setRow' _ _ _ _ _ hC01.out) uWd rfl iK.out) rfl ⟨by rw [hfin.out], below_setRow' hb1 _ (by omega) _⟩
end Go.Proofs.Ytfidbiabgmioaaa
