import Derived.Test.YtmlaenfgfgloeaaKecP
/-! The walk of the reference's Permute. -/
set_option maxRecDepth 4000
set_option linter.unusedVariables false
set_option linter.unusedSimpArgs false
namespace Go.Proofs.Ytmlaenfgfgloeaa
open Go.RowKit

theorem off_bd : ∀ j, nn offL j < 64 := by
  intro j
  by_cases h : j < 25
  · exact (by decide +kernel : ∀ j, j < 25 → nn offL j < 64) j h
  · unfold nn; rw [List.getD_eq_getElem?_getD, List.getElem?_eq_none (by show 25 ≤ j; omega)]; decide
theorem rpermGo_len (s : List (BitVec 64)) (h : s.length = 25) (r : Nat) : rroundL (permGo s r) r = permGo s (r + 1) := round_same _ _ (by rw [permGo_len]; exact h)

set_option maxRecDepth 100000 in
set_option maxHeartbeats 4000000 in
theorem refPermute_any (s : List (BitVec 64)) (w : World) (hs : s.length = 25) :
    Calls Try.prog 11 #[.agg (cellsB s)] w fun e w' => e = .returned (.agg (cellsB (permL s))) ∧ Below w.heap.size w w' := by
  have iO := hid (show (Try.prog.info? 53).map (·.size) = some (cellsN offL).size from iOff)
  have iC := hid (show (Try.prog.info? 55).map (·.size) = some (cellsB constL).size from iCon)
  go_enter Try.func11, Try.ntmps11
  go_wp2_with fail
  refine (offsets_any _).mono ?_
  rintro e w1 ⟨rfl, hb1⟩
  have hz1 : w.heap.size + 1 < w1.heap.size := by have := hb1.size; simp at this; omega
  have hS1 := hid (((ArrB.new 23 w s).alloc (.cells (cellsB (List.replicate 25 0)) 23)).below hb1 (by simp; omega))
  have hR1 : Hid (ArrB 23 w1 (w.heap.size + 1) (List.replicate 25 0)) := hid (by
    have := (ArrB.new 23 (w.alloc (.cells (cellsB s) 23)) (List.replicate 25 0)).below hb1 (by simp)
    rw [show (w.alloc (.cells (cellsB s) 23)).heap.size = w.heap.size + 1 from by simp] at this
    exact this)
  have hbb1 : Below w.heap.size w w1 := (((Below.refl _ _).alloc (Nat.le_refl _) _).alloc (by simp) _).trans (hb1.mono (by simp; omega))
  clear hb1
  go_wp2_with (refine wpList_allocStore 53 14 3 (cellsN offL) (cellsN (List.replicate 25 0)) rfl rfl rfl rfl rfl rfl (by decide) (by simp) rfl (by kernel_rfl) rfl iO.out (one_cellsN offL) ?_; simp only [Act.put, List.setIfInBounds_toArray, List.set_cons_zero, List.set_cons_succ])
  refine (constants_any _).mono ?_
  rintro e w2 ⟨rfl, hb2⟩
  obtain ⟨bo, hbo⟩ : ∃ bo, bo = w1.heap.size := ⟨_, rfl⟩
  have hz2 : w1.heap.size < w2.heap.size := by have := hb2.size; simp at this; omega
  have hS2 := hid ((hS1.out.alloc (.cells (cellsN offL) 53)).below hb2 (by simp; omega))
  have hR2 := hid ((hR1.out.alloc (.cells (cellsN offL) 53)).below hb2 (by simp; omega))
  have hO2 := hid ((ArrN.new 53 w1 offL).below hb2 (by simp))
  have hbb2 : Below w.heap.size w w2 := (hbb1.alloc (by omega) _).trans (hb2.mono (by simp; omega))
  clear hb2 hS1 hR1 hbb1
  go_wp2_with (refine wpList_allocStore 55 15 4 (cellsB constL) (cellsB (List.replicate 24 0)) rfl rfl rfl rfl rfl rfl (by decide) (by simp) rfl (by kernel_rfl) rfl iC.out (one_cellsB constL) ?_; simp only [Act.put, List.setIfInBounds_toArray, List.set_cons_zero, List.set_cons_succ])
  have hS3 := hid (hS2.out.alloc (.cells (cellsB constL) 55))
  have hR3 := hid (hR2.out.alloc (.cells (cellsB constL) 55))
  have hO3 := hid (hO2.out.alloc (.cells (cellsB constL) 55))
  have hC3 := hid (ArrB.new 55 w2 constL)
  have hbb3 := hbb2.alloc (by omega) (.cells (cellsB constL) 55)
  clear hS2 hR2 hO2 hbb2 hbo
  go_loopw [5] (fun t wr => ∃ r : Nat, r ≤ 24 ∧ t = .int .i64 r ∧ Hid (ArrB 23 wr w.heap.size (permGo s r)) ∧ Hid (ArrB 23 wr (w.heap.size + 1) (List.replicate 25 0)) ∧ Hid (ArrN 53 wr w1.heap.size offL) ∧ Hid (ArrB 55 wr w2.heap.size constL) ∧ Below w.heap.size w wr)
    (fun t _ => 24 - (intOf t).toNat)
  case atStart => exact ⟨0, by omega, rfl, hS3, hR3, hO3, hC3, hbb3⟩
  case round =>
    clear hS3 hR3 hO3 hC3 hbb3
    obtain ⟨r, hr, rfl, hS, hR, hO, hC, hb⟩ := hrel
    have hlen : (permGo s r).length = 25 := by rw [permGo_len]; exact hs
    have hnx := rpermGo_len s hs r
    obtain ⟨s0, hs0⟩ : ∃ s0, s0 = permGo s r := ⟨_, rfl⟩
    rw [← hs0] at hS hlen hnx
    have HS0 := hid hs0
    have HNX := hid hnx
    clear hs0 hnx
    by_cases hlt : r < 24
    · have hdr : decide ((r : Int) < 24) = true := decide_eq_true (by omega)
      go_wp2_with fail
      have hzr := hC.out.lt
      have hm5 : Hid (ArrB 51 (wr.alloc (.cells (cellsB [0, 0, 0, 0, 0]) 51)) wr.heap.size [0, 0, 0, 0, 0]) := hid (ArrB.new _ _ _)
      obtain ⟨wo, hwo⟩ : ∃ wo : World, wo = wr := ⟨_, rfl⟩
      subst hwo
      have hS1 := hid (hS.out.alloc (.cells (cellsB [0, 0, 0, 0, 0]) 51))
      have hR1 := hid (hR.out.alloc (.cells (cellsB [0, 0, 0, 0, 0]) 51))
      have hO1 := hid (hO.out.alloc (.cells (cellsB [0, 0, 0, 0, 0]) 51))
      have hC1 := hid (hC.out.alloc (.cells (cellsB [0, 0, 0, 0, 0]) 51))
      have hb1 := hb.alloc hb.size (.cells (cellsB [0, 0, 0, 0, 0]) 51)
      clear hS hR hO hC
      go_loopw [7] (fun t wr => ∃ k : Nat, k ≤ 25 ∧ t = .int .i64 k ∧ Hid (ArrB 23 wr w.heap.size s0) ∧ Hid (ArrB 23 wr (w.heap.size + 1) (List.replicate 25 0)) ∧ Hid (ArrN 53 wr w1.heap.size offL) ∧ Hid (ArrB 55 wr w2.heap.size constL) ∧ Hid (ArrB 51 wr wo.heap.size (csum s0 k)) ∧ Below w.heap.size w wr)
        (fun t _ => 25 - (intOf t).toNat)
      case atStart => exact ⟨0, by omega, rfl, hS1, hR1, hO1, hC1, hm5, hb1⟩
      case round =>
        clear hS1 hR1 hO1 hC1 hm5 hb1
        obtain ⟨k, hk, rfl, hS, hR, hO, hC, hM, hb⟩ := hrel
        by_cases hlt2 : k < 25
        · have h5 : k % 5 < 5 := Nat.mod_lt _ (by omega)
          have c1 := hS.out.cell k (by omega)
          have c2 := hM.out.cell (k % 5) (by rw [csum_len]; exact h5)
          have f2 := hM.out.free (k % 5)
          have l1 := hS.out.lt
          have l2 := hM.out.lt
          go_wp2_with (refine wp_region_ext_tail 11 (by kernel_rfl) (by kernel_rfl) ?_; simp only [List.take_succ_cons, List.take_zero, List.drop_succ_cons, List.drop_zero]; (repeat (go_big_quiet_step (first | fail))); refine wpQuiet_nil ?_; rintro _ ⟨xw, rfl⟩)
          go_roundw
          case rel =>
            refine ⟨k + 1, by omega, by go_num, hid ((hS.out.ext _).other (by show w.heap.size ≠ wo.heap.size; omega) _), hid ((hR.out.ext _).other (by show w.heap.size + 1 ≠ wo.heap.size; omega) _), hid ((hO.out.ext _).other (by show w1.heap.size ≠ wo.heap.size; omega) _), hid ((hC.out.ext _).other (by show w2.heap.size ≠ wo.heap.size; omega) _), hid ?_, (by repeat (first | (with_reducible first | exact Below.refl _ _ | assumption | refine World.ext_below_of ?_ ?_ _ | refine Below.setCell ?_ ?_ _ | refine Below.alloc ?_ ?_ _ | refine Below.drew ?_ | refine World.size_le_ext _ _ _ ?_) | (solve | simp [go_sem] | (simp [go_sem]; omega) | omega)))⟩
            rw [iv_xor]
            exact (hM.out.ext _).set (k % 5) _
          case measure => simp [intOf]; omega
        · obtain rfl : k = 25 := by omega
          (try rw [show ((25 : Nat) : Int) = 25 from rfl])
          obtain ⟨c, hc⟩ : ∃ c, c = csum s0 25 := ⟨_, rfl⟩
          rw [← hc] at hM
          have hcl : c.length = 5 := by rw [hc]; exact csum_len _ _
          have HCC := hid hc
          clear hc hlt2 hk
          go_wp2_with fail
          obtain ⟨wp, hwp⟩ : ∃ wp : World, wp = wr := ⟨_, rfl⟩
          subst hwp
          have hzp := hM.out.lt
          have hS1 := hid (hS.out.alloc (.cells (cellsB (List.replicate 25 0)) 23))
          have hR1 := hid (hR.out.alloc (.cells (cellsB (List.replicate 25 0)) 23))
          have hO1 := hid (hO.out.alloc (.cells (cellsB (List.replicate 25 0)) 23))
          have hC1 := hid (hC.out.alloc (.cells (cellsB (List.replicate 25 0)) 23))
          have hM1 := hid (hM.out.alloc (.cells (cellsB (List.replicate 25 0)) 23))
          have hB1 := hid (ArrB.new 23 wp (List.replicate 25 0))
          have hb1 := hb.alloc hb.size (.cells (cellsB (List.replicate 25 0)) 23)
          clear hS hR hO hC hM hb
          go_loopw [9] (fun t wr => ∃ x : Nat, x ≤ 5 ∧ t = .int .i64 x ∧ Hid (ArrB 23 wr w.heap.size s0) ∧ Hid (ArrB 23 wr (w.heap.size + 1) (List.replicate 25 0)) ∧ Hid (ArrN 53 wr w1.heap.size offL) ∧ Hid (ArrB 55 wr w2.heap.size constL) ∧ Hid (ArrB 51 wr wo.heap.size c) ∧ Hid (ArrB 23 wr wp.heap.size (rbGo s0 c (5 * x))) ∧ Below w.heap.size w wr)
            (fun t _ => 5 - (intOf t).toNat)
          case atStart => exact ⟨0, by omega, rfl, hS1, hR1, hO1, hC1, hM1, hB1, hb1⟩
          case round =>
            clear hS1 hR1 hO1 hC1 hM1 hB1 hb1
            obtain ⟨x, hx, rfl, hS, hR, hO, hC, hM, hB, hb⟩ := hrel
            by_cases hlt3 : x < 5
            · have hdx : decide ((x : Int) < 5) = true := decide_eq_true (by omega)
              go_wp2_with fail
              go_loopw [10] (fun t wr => ∃ y : Nat, y ≤ 5 ∧ t = .int .i64 y ∧ Hid (ArrB 23 wr w.heap.size s0) ∧ Hid (ArrB 23 wr (w.heap.size + 1) (List.replicate 25 0)) ∧ Hid (ArrN 53 wr w1.heap.size offL) ∧ Hid (ArrB 55 wr w2.heap.size constL) ∧ Hid (ArrB 51 wr wo.heap.size c) ∧ Hid (ArrB 23 wr wp.heap.size (rbGo s0 c (5 * x + y))) ∧ Below w.heap.size w wr)
                (fun t _ => 5 - (intOf t).toNat)
              case atStart => exact ⟨0, by omega, rfl, hS, hR, hO, hC, hM, hB, hb⟩
              case round =>
                clear hS hR hO hC hM hB hb
                obtain ⟨y, hy, rfl, hS, hR, hO, hC, hM, hB, hb⟩ := hrel
                by_cases hlt4 : y < 5
                · have i1 : x + 5 * y < 25 := by omega
                  have i2 : (x + 4) % 5 < 5 := Nat.mod_lt _ (by omega)
                  have i3 : (x + 1) % 5 < 5 := Nat.mod_lt _ (by omega)
                  have i4 : (2 * x + 3 * y) % 5 < 5 := Nat.mod_lt _ (by omega)
                  have c1 := hS.out.cell (x + 5 * y) (by omega)
                  have c2 := hM.out.cell ((x + 4) % 5) (by omega)
                  have c3 := hM.out.cell ((x + 1) % 5) (by omega)
                  have c4 := hO.out.cell (x + 5 * y) i1
                  have c5 := hB.out.cell (y + 5 * ((2 * x + 3 * y) % 5)) (by rw [rbGo_len]; omega)
                  have f5 := hB.out.free (y + 5 * ((2 * x + 3 * y) % 5))
                  have l1 := hS.out.lt
                  have l2 := hM.out.lt
                  have l3 := hO.out.lt
                  have l4 := hB.out.lt
                  have ob := off_bd (x + 5 * y)
                  have hnx : rbGo s0 c (5 * x + y + 1) = (rbGo s0 c (5 * x + y)).set (y + 5 * ((2 * x + 3 * y) % 5)) (((nb s0 (x + 5 * y) ^^^ nb c ((x + 4) % 5)) ^^^ (nb c ((x + 1) % 5)).rotateLeft 1).rotateLeft (nn offL (x + 5 * y))) := by
                    rw [rbGo, show (5 * x + y) / 5 = x from by omega, show (5 * x + y) % 5 = y from by omega]
                  have HN2 := hid hnx
                  clear hnx
                  have t1 : Hid (∀ w, Calls Try.prog 34 #[.int .u64 (iv (nb c ((x + 1) % 5))), .int .i64 1] w fun e w' => e = .returned (.int .u64 (iv ((nb c ((x + 1) % 5)).rotateLeft 1))) ∧ Below w.heap.size w w') := hid fun w => turn_any _ 1 w (by omega)
                  have t2 : Hid (∀ w z, Calls Try.prog 34 #[.int .u64 (iv z), .int .i64 (nn offL (x + 5 * y) : Nat)] w fun e w' => e = .returned (.int .u64 (iv (z.rotateLeft (nn offL (x + 5 * y))))) ∧ Below w.heap.size w w') := hid fun w z => turn_any z _ w ob
                  have x1 := iv_xor (nb s0 (x + 5 * y)) (nb c ((x + 4) % 5))
                  have x2 := iv_xor (nb s0 (x + 5 * y) ^^^ nb c ((x + 4) % 5)) ((nb c ((x + 1) % 5)).rotateLeft 1)
                  go_wp2_with (first | (refine wp_region_ext (by kernel_rfl) (by kernel_rfl) ?_; (repeat (go_big_quiet_step (first | (go_at_call 34; with_reducible refine Calls.ext_of (t1.out _))))); refine wpQuiet_nil ?_; rintro _ ⟨xw, rfl⟩) | (go_at_call 34; (with_reducible refine (Calls.asExt (t2.out _ _)).mono ?_); rintro _ _ ⟨rfl, _, rfl⟩))
                  go_roundw
                  case rel =>
                    refine ⟨y + 1, by omega, by go_num, hid (((hS.out.ext _).ext _).other (by show w.heap.size ≠ wp.heap.size; omega) _), hid (((hR.out.ext _).ext _).other (by show w.heap.size + 1 ≠ wp.heap.size; omega) _), hid (((hO.out.ext _).ext _).other (by show w1.heap.size ≠ wp.heap.size; omega) _), hid (((hC.out.ext _).ext _).other (by show w2.heap.size ≠ wp.heap.size; omega) _), hid (((hM.out.ext _).ext _).other (by show wo.heap.size ≠ wp.heap.size; omega) _), hid ?_, (by repeat (first | (with_reducible first | exact Below.refl _ _ | assumption | refine World.ext_below_of ?_ ?_ _ | refine Below.setCell ?_ ?_ _ | refine Below.alloc ?_ ?_ _ | refine Below.drew ?_ | refine World.size_le_ext _ _ _ ?_) | (solve | simp [go_sem] | (simp [go_sem]; omega) | omega)))⟩
                    rw [show 5 * x + (y + 1) = 5 * x + y + 1 from rfl, HN2.out]
                    exact ((hB.out.ext _).ext _).set _ _
                  case measure => simp [intOf]; omega
                · obtain rfl : y = 5 := by omega
                  (try rw [show ((5 : Nat) : Int) = 5 from rfl])
                  go_wp2
                  go_roundw
                  case rel => exact ⟨x + 1, by omega, by go_num, hS, hR, hO, hC, hM, hB, hb⟩
                  case measure => simp [intOf]; omega
            · obtain rfl : x = 5 := by omega
              (try rw [show ((5 : Nat) : Int) = 5 from rfl])
              obtain ⟨b, hbb⟩ : ∃ b, b = rbGo s0 c 25 := ⟨_, rfl⟩
              rw [show 5 * 5 = 25 from rfl, ← hbb] at hB
              have hbl : b.length = 25 := by rw [hbb]; exact rbGo_len _ _ _
              have HBB := hid hbb
              clear hbb hlt3 hx
              go_wp2_with fail
              obtain ⟨wq, hwq⟩ : ∃ wq : World, wq = wr := ⟨_, rfl⟩
              subst hwq
              go_loopw [12] (fun t wr => ∃ x : Nat, x ≤ 5 ∧ t = .int .i64 x ∧ Hid (ArrB 23 wr w.heap.size (rcGo b s0 (5 * x))) ∧ Hid (ArrB 23 wr (w.heap.size + 1) (List.replicate 25 0)) ∧ Hid (ArrN 53 wr w1.heap.size offL) ∧ Hid (ArrB 55 wr w2.heap.size constL) ∧ Hid (ArrB 23 wr wp.heap.size b) ∧ Below w.heap.size w wr)
                (fun t _ => 5 - (intOf t).toNat)
              case atStart => exact ⟨0, by omega, rfl, hS, hR, hO, hC, hB, hb⟩
              case round =>
                clear hS hR hO hC hM hB hb
                obtain ⟨x, hx, rfl, hS, hR, hO, hC, hB, hb⟩ := hrel
                by_cases hlt3 : x < 5
                · have hdx : decide ((x : Int) < 5) = true := decide_eq_true (by omega)
                  go_wp2_with fail
                  obtain ⟨wz, hwz⟩ : ∃ wz : World, wz = wr := ⟨_, rfl⟩
                  subst hwz
                  go_loopw [13] (fun t wr => ∃ y : Nat, y ≤ 5 ∧ t = .int .i64 y ∧ Hid (ArrB 23 wr w.heap.size (rcGo b s0 (5 * x + y))) ∧ Hid (ArrB 23 wr (w.heap.size + 1) (List.replicate 25 0)) ∧ Hid (ArrN 53 wr w1.heap.size offL) ∧ Hid (ArrB 55 wr w2.heap.size constL) ∧ Hid (ArrB 23 wr wp.heap.size b) ∧ Below w.heap.size w wr)
                    (fun t _ => 5 - (intOf t).toNat)
                  case atStart => exact ⟨0, by omega, rfl, hS, hR, hO, hC, hB, hb⟩
                  case round =>
                    clear hS hR hO hC hB hb
                    obtain ⟨y, hy, rfl, hS, hR, hO, hC, hB, hb⟩ := hrel
                    by_cases hlt4 : y < 5
                    · have i1 : x + 5 * y < 25 := by omega
                      have i2 : (x + 1) % 5 < 5 := Nat.mod_lt _ (by omega)
                      have i3 : (x + 2) % 5 < 5 := Nat.mod_lt _ (by omega)
                      have c1 := hB.out.cell (x + 5 * y) (by omega)
                      have c2 := hB.out.cell ((x + 1) % 5 + 5 * y) (by omega)
                      have c3 := hB.out.cell ((x + 2) % 5 + 5 * y) (by omega)
                      have c5 := hS.out.cell (x + 5 * y) (by rw [rcGo_len]; omega)
                      have f5 := hS.out.free (x + 5 * y)
                      have l1 := hS.out.lt
                      have l4 := hB.out.lt
                      have hnx : rcGo b s0 (5 * x + y + 1) = (rcGo b s0 (5 * x + y)).set (x + 5 * y) (nb b (x + 5 * y) ^^^ (~~~ nb b ((x + 1) % 5 + 5 * y) &&& nb b ((x + 2) % 5 + 5 * y))) := by
                        rw [rcGo, show (5 * x + y) / 5 = x from by omega, show (5 * x + y) % 5 = y from by omega]
                      have HN2 := hid hnx
                      clear hnx
                      go_wp2_with (refine wp_region_ext_tail 30 (by kernel_rfl) (by kernel_rfl) ?_; simp only [List.take_succ_cons, List.take_zero, List.drop_succ_cons, List.drop_zero]; (repeat (go_big_quiet_step (first | fail))); refine wpQuiet_nil ?_; rintro _ ⟨xw, rfl⟩)
                      go_roundw
                      case rel =>
                        rw [iv_compl, iv_and, iv_xor]
                        refine ⟨y + 1, by omega, by go_num, hid ?_, hid ((hR.out.ext _).other (by show w.heap.size + 1 ≠ w.heap.size; omega) _), hid ((hO.out.ext _).other (by show w1.heap.size ≠ w.heap.size; omega) _), hid ((hC.out.ext _).other (by show w2.heap.size ≠ w.heap.size; omega) _), hid ((hB.out.ext _).other (by show wp.heap.size ≠ w.heap.size; omega) _), (by repeat (first | (with_reducible first | exact Below.refl _ _ | assumption | refine World.ext_below_of ?_ ?_ _ | refine Below.setCell ?_ ?_ _ | refine Below.alloc ?_ ?_ _ | refine Below.drew ?_ | refine World.size_le_ext _ _ _ ?_) | (solve | simp [go_sem] | (simp [go_sem]; omega) | omega)))⟩
                        rw [show 5 * x + (y + 1) = 5 * x + y + 1 from rfl, HN2.out]
                        exact (hS.out.ext _).set _ _
                      case measure => simp [intOf]; omega
                    · obtain rfl : y = 5 := by omega
                      (try rw [show ((5 : Nat) : Int) = 5 from rfl])
                      go_wp2
                      go_roundw
                      case rel => exact ⟨x + 1, by omega, by go_num, hS, hR, hO, hC, hB, hb⟩
                      case measure => simp [intOf]; omega
                · obtain rfl : x = 5 := by omega
                  (try rw [show ((5 : Nat) : Int) = 5 from rfl])
                  rw [show 5 * 5 = 25 from rfl] at hS
                  obtain ⟨s2, hs2⟩ : ∃ s2, s2 = rcGo b s0 25 := ⟨_, rfl⟩
                  rw [← hs2] at hS
                  have hl2 : s2.length = 25 := by rw [hs2, rcGo_len]; exact hlen
                  have HS2 := hid hs2
                  clear hs2 hlt3 hx
                  have c0 := hS.out.cell 0 (by omega)
                  have f0 := hS.out.free 0
                  have c1 := hC.out.cell r hlt
                  have l1 := hS.out.lt
                  have l2 := hC.out.lt
                  go_wp2_with (refine wp_region_ext_tail 7 (by kernel_rfl) (by kernel_rfl) ?_; simp only [List.take_succ_cons, List.take_zero, List.drop_succ_cons, List.drop_zero]; (repeat (go_big_quiet_step (first | fail))); refine wpQuiet_nil ?_; rintro _ ⟨xw, rfl⟩)
                  go_roundw
                  case rel =>
                    rw [iv_xor]
                    refine ⟨r + 1, by omega, by go_num, hid ?_, hid ((hR.out.ext _).other (by show w.heap.size + 1 ≠ w.heap.size; omega) _), hid ((hO.out.ext _).other (by show w1.heap.size ≠ w.heap.size; omega) _), hid ((hC.out.ext _).other (by show w2.heap.size ≠ w.heap.size; omega) _), (by repeat (first | (with_reducible first | exact Below.refl _ _ | assumption | refine World.ext_below_of ?_ ?_ _ | refine Below.setCell ?_ ?_ _ | refine Below.alloc ?_ ?_ _ | refine Below.drew ?_ | refine World.size_le_ext _ _ _ ?_) | (solve | simp [go_sem] | (simp [go_sem]; omega) | omega)))⟩
                    have e2 : permGo s (r + 1) = s2.set 0 (nb s2 0 ^^^ nb constL r) := by
                      rw [← HNX.out]
                      show iotaL (rcGo (rbGo s0 (csum s0 25) 25) s0 25) r = _
                      rw [← HCC.out, ← HBB.out, ← HS2.out]; rfl
                    rw [e2]
                    exact (hS.out.ext _).set 0 _
                  case measure => simp [intOf]; omega
    · obtain rfl : r = 24 := by omega
      (try rw [show ((24 : Nat) : Int) = 24 from rfl])
      have e1 : s0 = permL s := by rw [HS0.out]; rfl
      rw [e1] at hS hlen
      clear e1 HS0 hlt hr HNX
      have iS := hid (show (Try.prog.info? 23).map (·.size) = some (cellsB (permL s)).size by rw [size_cellsB, hlen]; exact iArr25)
      have oS := hid (show (cellsB (List.replicate 25 0)).size = (cellsB (permL s)).size by rw [size_cellsB, size_cellsB, hlen]; rfl)
      have nS := hid (one_cellsB (permL s))
      obtain ⟨z, hz⟩ : ∃ z : List (BitVec 64), z = List.replicate 25 0 := ⟨_, rfl⟩
      rw [← hz] at hR oS
      clear hz
      go_wp2_with (first | (refine wpList_load_row rfl 23 (.tmp 1) rfl w.heap.size rfl 23 _ (0, 0) _ hS.out uArr25 rfl iS.out ?_; simp only [Act.put, List.setIfInBounds_toArray, List.set_cons_zero, List.set_cons_succ]) | (refine wpList_store_row rfl 23 (.tmp 2) (.tmp 125) rfl (w.heap.size + 1) _ rfl rfl 23 _ hR.out iS.out oS.out nS.out ?_; simp only [Act.put]))
      refine bodyPost_ret (results_cell_row rfl _ _ (w.heap.size + 1) 23 (cellsB (permL s)) (0, 0) _ rfl (heap_setRow _ _ _ _ _ hR.out) uArr25 rfl iS.out) rfl ⟨rfl, below_setRow hb _ (by omega) _⟩
end Go.Proofs.Ytmlaenfgfgloeaa
