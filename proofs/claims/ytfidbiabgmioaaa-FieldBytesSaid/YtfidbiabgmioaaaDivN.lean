import Derived.Test.YtfidbiabgmioaaaDivM
import Derived.Test.YtfidbiabgmioaaaWordI
import Derived.Test.YtfidbiabgmioaaaLoose
import Derived.Test.YtfidbiabgmioaaaRefM
/-! word.divide by one limb. -/
set_option maxRecDepth 4000
set_option linter.unusedVariables false
set_option linter.unusedSimpArgs false
namespace Go.Proofs.Ytfidbiabgmioaaa
open Go.RowKit

theorem infoU : (Try.prog.info? 22).map (fun i => (i.zero, i.size, i.bytes)) = some (some (.int .u64 0), 1, 8) := by kernel_rfl
theorem uUs : Try.prog.underlying 71 = some (.slice 22) := by kernel_rfl
theorem mkM (N : Nat) (hN : N ≤ 1048576) (w : World) : (Instr.makeSlice 71 (.int .i64 (N : Int)) (.int .i64 (N : Int))).run Try.prog w = .ok (.slice (some ⟨w.heap.size, 0, none⟩) N N) (w.alloc (.cells (cellsM N 0) 22)) := by
  obtain ⟨i0, hi0, hz0, hz1, hz2⟩ := info_parts infoU
  have h := run_make (P := Try.prog) w 71 22 i0 (.int .u64 0) uUs hi0 hz0 .i64 .i64 (N : Int) (N : Int) (by omega) (Int.le_refl _) (by rw [hz2]; omega) (by omega)
  rw [h, Int.toNat_natCast, hz1, Nat.mul_one]
  congr 3
  apply Array.ext
  · simp [madeCells, cellsM]
  · intro j h1 h2
    simp [madeCells, Value.cells, Nat.mod_one, cellsM, lmN]
/-- One limb more of a quotient by one limb. -/
theorem div1_step (U d j : Nat) (hd : 0 < d) :
    (U / 2 ^ (64 * (j + 1)) % d * 2 ^ 64 + lmN U j) / d < 2 ^ 64 ∧ (U / 2 ^ (64 * (j + 1)) % d * 2 ^ 64 + lmN U j) % d = U / 2 ^ (64 * j) % d ∧
    setL (U / 2 ^ (64 * (j + 1)) / d * 2 ^ (64 * (j + 1))) j ((U / 2 ^ (64 * (j + 1)) % d * 2 ^ 64 + lmN U j) / d) = U / 2 ^ (64 * j) / d * 2 ^ (64 * j) := by
  have hs := div_succ U j
  have hl := lmN_lt U j
  rw [hs]
  generalize U / 2 ^ (64 * (j + 1)) = A
  generalize lmN U j = u at hl ⊢
  have hdm := Nat.div_add_mod A d
  have hml := Nat.mod_lt A hd
  generalize A / d = q at hdm ⊢
  generalize A % d = r at hdm hml ⊢
  have hB : (2 : Nat) ^ 64 = 18446744073709551616 := by decide
  have e : A * 2 ^ 64 + u = r * 2 ^ 64 + u + d * (q * 2 ^ 64) := by
    rw [← hdm, Nat.add_mul, Nat.mul_assoc]; omega
  have hq : (r * 2 ^ 64 + u) / d < 2 ^ 64 := by
    rw [Nat.div_lt_iff_lt_mul hd]
    have : (r + 1) * 2 ^ 64 ≤ d * 2 ^ 64 := Nat.mul_le_mul_right _ hml
    rw [Nat.mul_comm (2 ^ 64)]
    omega
  refine ⟨hq, by rw [e, Nat.add_mul_mod_self_left], ?_⟩
  rw [e, Nat.add_mul_div_left _ _ hd]
  have h1 := setL_eq (q * 2 ^ (64 * (j + 1))) j ((r * 2 ^ 64 + u) / d)
  have h0 : lmN (q * 2 ^ (64 * (j + 1))) j = 0 := by
    unfold lmN
    rw [pow64_succ, ← Nat.mul_assoc, Nat.mul_right_comm, Nat.mul_div_cancel _ (Nat.pow_pos (by omega)), Nat.mul_mod_left]
  rw [h0, Nat.mul_zero, Nat.add_zero] at h1
  rw [h1, pow64_succ, Nat.add_mul, Nat.mul_comm ((r * 2 ^ 64 + u) / d), Nat.mul_assoc q, Nat.mul_comm (2 ^ 64) (2 ^ (64 * j))]
  omega

set_option maxRecDepth 100000 in
set_option maxHeartbeats 4000000 in
theorem divide1_any (n U d : Nat) (v : Value) (w : World) (hr : RdM w v n U) (hU : U < 2 ^ (64 * n)) (hn : n ≤ 9) (hd : 0 < d) (hd2 : d < 2 ^ 64) :
    Calls Try.prog 120 #[v, wd d] w fun e w' => ∃ gq, e = .returned (.tuple #[.slice (some ⟨gq, 0, none⟩) n n, wd (U % d)]) ∧ ArrM 22 n w' gq (U / d) ∧ w.heap.size ≤ gq ∧ Below w.heap.size w w' := by
  have hd256 : d < 2 ^ 256 := Nat.lt_of_lt_of_le hd2 (by decide)
  have hW := hid (fun v w hr => width_any 4 d v w hr hd256 (by omega))
  have hb1 := (bl_spec d (by omega)).1
  have hb2 := bl_le d 64 hd2
  have hO := hid (fun w => wof_any (U % d) (Nat.lt_trans (Nat.mod_lt _ hd) hd2) w)
  have hmk := mkM n (by omega)
  have hl0 : lm d 0 = (d : Int) := by unfold lm; rw [lmN_zero', Nat.mod_eq_of_lt hd2]
  have H0 := hid (show U / 2 ^ (64 * n) = 0 from Nat.div_eq_of_lt hU)
  obtain ⟨a, cap, rfl, hc, hr⟩ := hr
  have HR := hid hr
  obtain ⟨bd, hbd⟩ : ∃ b, b = bl d := ⟨_, rfl⟩
  rw [← hbd] at hW hb1 hb2
  have HD := hid hd
  clear hr hbd hU
  unfold wd at *
  have hA0 := hid (show ArrW 24 (((w.alloc (.cells (cellsW d) 24)).alloc (.cells (cellsW 0) 24)).alloc (.cells (cellsM n 0) 22)) w.heap.size d from ((ArrW.new _ w d).alloc _).alloc _)
  have hrd := hid (show RdM ((w.alloc (.cells (cellsW d) 24)).alloc (.cells (cellsW 0) 24)) (.slice (some ⟨w.heap.size, 0, none⟩) 4 4) 4 d from ((ArrW.new _ w d).alloc _).toM.rd 4 (by omega))
  have hB0 := hid (show ArrW 24 (((w.alloc (.cells (cellsW d) 24)).alloc (.cells (cellsW 0) 24)).alloc (.cells (cellsM n 0) 22)) (w.heap.size + 1) 0 by
    have := ArrW.new 24 (w.alloc (.cells (cellsW d) 24)) 0
    rw [World.size_alloc] at this; exact this.alloc _)
  have hC0 := hid (show ArrM 22 n (((w.alloc (.cells (cellsW d) 24)).alloc (.cells (cellsW 0) 24)).alloc (.cells (cellsM n 0) 22)) (w.heap.size + 2) 0 by
    have := ArrM.new 22 n ((w.alloc (.cells (cellsW d) 24)).alloc (.cells (cellsW 0) 24)) 0
    rw [World.size_alloc, World.size_alloc] at this; exact this)
  have hb0 : Below w.heap.size w (((w.alloc (.cells (cellsW d) 24)).alloc (.cells (cellsW 0) 24)).alloc (.cells (cellsM n 0) 22)) := (((Below.refl _ _).alloc (Nat.le_refl _) _).alloc (by simp) _).alloc (by simp; omega) _
  go_enter Try.func120, Try.ntmps120
  go_wp2_with (refine wpList_alloc_new rfl 24 rfl (cellsW 0) zWd ?_; simp only [Act.put, List.setIfInBounds_toArray, List.set_cons_zero, List.set_cons_succ, World.size_alloc])
  refine (hW.out _ _ hrd.out).mono ?_
  rintro e w1 ⟨rfl, rfl⟩
  have hne : (((bd : Int) + 63) / 64) = 1 := by omega
  go_wp2_with fail
  (try simp only [World.size_alloc])
  generalize ((w.alloc (.cells (cellsW d) 24)).alloc (.cells (cellsW 0) 24)).alloc (.cells (cellsM n 0) 22) = w1 at hA0 hB0 hC0 hb0 ⊢
  (try simp only [hne])
  clear hW hrd
  go_loopw [8, 9] (fun rv iv wr => ∃ i : Nat, i ≤ n ∧ rv = .int .u64 ((U / 2 ^ (64 * i) % d : Nat) : Int) ∧ iv = .int .i64 ((i : Int) - 1) ∧ Hid (ArrW 24 wr w.heap.size d) ∧ Hid (ArrW 24 wr (w.heap.size + 1) 0) ∧ Hid (ArrM 22 n wr (w.heap.size + 2) (U / 2 ^ (64 * i) / d * 2 ^ (64 * i))) ∧ Below w.heap.size w wr)
    (fun _ iv _ => (intOf iv + 1).toNat)
  case atStart => exact ⟨n, by omega, by rw [H0.out, Nat.zero_mod]; rfl, by go_num, hA0, hB0, by rw [H0.out, Nat.zero_div, Nat.zero_mul]; exact hC0, hb0⟩
  case round =>
    clear hA0 hB0 hC0 hb0
    obtain ⟨i, hi, rfl, rfl, hA, hB, hC, hb⟩ := hrel
    by_cases h0 : i = 0
    · subst h0
      have hQ := hC.out
      have hr0 := hid (show U / 2 ^ (64 * 0) % d = U % d by rw [Nat.mul_zero, Nat.pow_zero, Nat.div_one])
      rw [show U / 2 ^ (64 * 0) / d * 2 ^ (64 * 0) = U / d by rw [Nat.mul_zero, Nat.pow_zero, Nat.div_one, Nat.mul_one]] at hQ
      rw [hr0.out]
      obtain ⟨r, hrr⟩ : ∃ r, r = U % d := ⟨_, rfl⟩
      rw [← hrr] at hO ⊢
      have HRR := hid hrr
      have HQ := hid hQ
      have iR := hid (iW r)
      have nR := hid (one_cellsW r)
      clear hrr hC hr0 hQ
      go_wp2_with fail
      refine (hO.out _).mono ?_
      rintro e w2 ⟨rfl, hb2⟩
      have hB2 := hid (hB.out.below hb2 hB.out.lt)
      have hQ2 := hid (HQ.out.below hb2 HQ.out.lt)
      have hb3 := hb.trans (hb2.mono hb.size)
      clear hB HQ hb hb2
      go_wp2_with (refine wpList_store_row rfl 24 (.tmp 5) (.tmp 50) rfl (w.heap.size + 1) _ rfl rfl 24 _ hB2.out iR.out rfl nR.out ?_; simp only [Act.put])
      refine bodyPost_ret (results_tmp_row rfl _ _ (w.heap.size + 1) 24 (cellsW r) (0, 0) _ rfl (heap_setRow' _ _ _ _ _ hB2.out) uWd rfl iR.out) rfl ⟨w.heap.size + 2, by rw [HRR.out]; rfl, ?_, by omega, below_setRow' hb3 _ (by omega) _⟩
      have := hQ2.out
      unfold ArrM at *
      simp only [World.setRow, Array.getElem?_modify]
      rw [if_neg (by omega)]; exact this
    · obtain ⟨j, rfl⟩ : ∃ j, i = j + 1 := ⟨i - 1, by omega⟩
      have e1 : (((j + 1 : Nat) : Int) - 1) = (j : Int) := by omega
      rw [e1]
      obtain ⟨s1, s2, s3⟩ := div1_step U d j HD.out
      obtain ⟨b, off, rfl, hbl, hcell⟩ := HR.out (by omega)
      have cx := (hb.cell (p := ⟨b, off + j, none⟩) hbl).trans (hcell j (by omega))
      have lb : b < wr.heap.size := Nat.lt_of_lt_of_le hbl hb.size
      have cd := hA.out.cell 0 (by omega)
      rw [hl0] at cd
      have ld := hA.out.lt
      have cq := hC.out.cell j (by omega)
      have fq := hC.out.free j
      have lq := hC.out.lt
      have hrl := Nat.mod_lt (U / 2 ^ (64 * (j + 1))) HD.out
      have hDv := hid (fun w => div64_any (U / 2 ^ (64 * (j + 1)) % d) (lmN U j) d hrl (lmN_lt _ _) hd2 w)
      obtain ⟨r, hr⟩ : ∃ r, r = U / 2 ^ (64 * (j + 1)) % d := ⟨_, rfl⟩
      rw [← hr] at s1 s2 s3 hDv hrl ⊢
      obtain ⟨q, hq⟩ : ∃ q, q = (r * 2 ^ 64 + lmN U j) / d := ⟨_, rfl⟩
      rw [← hq] at s1 s3 hDv
      obtain ⟨r2, hr2⟩ : ∃ r2, r2 = (r * 2 ^ 64 + lmN U j) % d := ⟨_, rfl⟩
      rw [← hr2] at s2 hDv
      have S2 := hid s2
      have S3 := hid s3
      clear e1 h0 hcell s2 s3 hr hq hr2
      go_wp2_with fail
      (refine wp_region_ext_float 14 12 [0, 1, 2, 3, 4, 5, 6, 7, 8, 9, 10, 11, 13] [_, _, _, _, _, _, _, _, _, _, _, _, _] _ _ _ rfl rfl rfl rfl (by kernel_rfl) (by kernel_rfl) ?_; (repeat (go_big_quiet_step (first | (go_at_call 132; with_reducible refine Calls.ext_of (hDv.out _))))); refine wpQuiet_nil ?_; refine ⟨?_, ?_⟩; rotate_left; rintro _ ⟨xw, rfl⟩; rotate_left; (repeat (go_big_quiet_step (first | (go_at_call 132; with_reducible refine Calls.ext_of (hDv.out _))))); refine wpQuiet_nil ?_; rintro _ ⟨xw, rfl⟩)
      all_goals
        go_wp2_with fail
        go_roundw
        case rel =>
          refine ⟨j, by omega, by rw [← S2.out], by go_num, hid ((hA.out.ext xw).other (by show w.heap.size ≠ w.heap.size + 2; omega) _), hid ((hB.out.ext xw).other (by show w.heap.size + 1 ≠ w.heap.size + 2; omega) _), hid ?_, (World.ext_below_of hb hb.size xw).setCell (p := ⟨w.heap.size + 2, j, none⟩) (by show w.heap.size ≤ w.heap.size + 2; omega) _⟩
          rw [← S3.out]
          exact (hC.out.ext xw).set j q s1
        case measure => simp [intOf]
end Go.Proofs.Ytfidbiabgmioaaa

/-! word.Mulmod by one limb; alive. -/
namespace Go.Proofs.Ytfidbiabgmioaaa
open Go.RowKit

set_option maxHeartbeats 2000000 in
theorem wmulmod1_any (a b d : Nat) (w : World) (ha : a < 2 ^ 256) (hb : b < 2 ^ 256) (hd : 0 < d) (hd2 : d < 2 ^ 64) : Calls Try.prog 72 #[wd a, wd b, wd d] w fun e w' => e = .returned (wd (a * b % d)) ∧ Below w.heap.size w w' := by
  have hd256 : d < 2 ^ 256 := Nat.lt_of_lt_of_le hd2 (by decide)
  have hZ := hid (fun w => wzero_any d hd256 w)
  rw [decide_eq_false (by omega)] at hZ
  have hF := hid (fun w => wfull_any a b w ha hb)
  have hab : a * b < 2 ^ (64 * 8) := by
    have := Nat.mul_lt_mul'' ha hb
    rw [← Nat.pow_add, show 256 + 256 = 64 * 8 from rfl] at this; exact this
  have hDv := hid (fun v w hr => divide1_any 8 (a * b) d v w hr hab (by omega) hd hd2)
  obtain ⟨s, hs⟩ : ∃ s, s = a * b := ⟨_, rfl⟩
  obtain ⟨r, hr⟩ : ∃ r, r = s % d := ⟨_, rfl⟩
  rw [← hs] at hF hDv ⊢
  rw [← hr] at hDv ⊢
  clear ha hb hd hd2 hd256 hab hs hr
  unfold wd at *
  have iA := hid (iW a)
  have iB := hid (iW b)
  have iD := hid (iW d)
  have iR := hid (iW r)
  have nR := hid (one_cellsW r)
  have iP := hid (iM8 s)
  have nP := hid (one_cellsM 8 s)
  have hA0 := hid (show ArrW 24 ((((w.alloc (.cells (cellsW a) 24)).alloc (.cells (cellsW b) 24)).alloc (.cells (cellsW d) 24)).alloc (.cells (cellsW 0) 24)) w.heap.size a from (((ArrW.new _ w a).alloc _).alloc _).alloc _)
  have hB0 := hid (show ArrW 24 ((((w.alloc (.cells (cellsW a) 24)).alloc (.cells (cellsW b) 24)).alloc (.cells (cellsW d) 24)).alloc (.cells (cellsW 0) 24)) (w.heap.size + 1) b by
    have := ArrW.new 24 (w.alloc (.cells (cellsW a) 24)) b
    rw [World.size_alloc] at this; exact (this.alloc _).alloc _)
  have hC0 := hid (show ArrW 24 ((((w.alloc (.cells (cellsW a) 24)).alloc (.cells (cellsW b) 24)).alloc (.cells (cellsW d) 24)).alloc (.cells (cellsW 0) 24)) (w.heap.size + 2) d by
    have := ArrW.new 24 ((w.alloc (.cells (cellsW a) 24)).alloc (.cells (cellsW b) 24)) d
    rw [World.size_alloc, World.size_alloc] at this; exact this.alloc _)
  have hD0 := hid (show ArrW 24 ((((w.alloc (.cells (cellsW a) 24)).alloc (.cells (cellsW b) 24)).alloc (.cells (cellsW d) 24)).alloc (.cells (cellsW 0) 24)) (w.heap.size + 3) 0 by
    have := ArrW.new 24 (((w.alloc (.cells (cellsW a) 24)).alloc (.cells (cellsW b) 24)).alloc (.cells (cellsW d) 24)) 0
    rw [World.size_alloc, World.size_alloc, World.size_alloc] at this; exact this)
  have hb0 : Below w.heap.size w ((((w.alloc (.cells (cellsW a) 24)).alloc (.cells (cellsW b) 24)).alloc (.cells (cellsW d) 24)).alloc (.cells (cellsW 0) 24)) := ((((Below.refl _ _).alloc (Nat.le_refl _) _).alloc (by simp) _).alloc (by simp; omega) _).alloc (by simp; omega) _
  go_enter Try.func72, Try.ntmps72
  go_wp2_with (first | (refine wpList_alloc_new rfl 24 rfl (cellsW 0) zWd ?_; simp only [Act.put, List.setIfInBounds_toArray, List.set_cons_zero, List.set_cons_succ, World.size_alloc]) | (refine wpList_load_row rfl 24 (.tmp 5) rfl (w.heap.size + 2) rfl 24 _ (0, 0) _ hC0.out uWd rfl iD.out ?_; simp only [Act.put, List.setIfInBounds_toArray, List.set_cons_zero, List.set_cons_succ]))
  refine (hZ.out _).mono ?_
  rintro e w1 ⟨rfl, hb1⟩
  have hA1 := hid (hA0.out.below hb1 hA0.out.lt)
  have hB1 := hid (hB0.out.below hb1 hB0.out.lt)
  have hC1 := hid (hC0.out.below hb1 hC0.out.lt)
  have hD1 := hid (hD0.out.below hb1 hD0.out.lt)
  have hb2 := hb0.trans (hb1.mono hb0.size)
  clear hA0 hB0 hC0 hD0 hb0 hb1
  go_wp2_with (first | (refine wpList_load_row rfl 24 (.tmp 3) rfl w.heap.size rfl 24 _ (0, 0) _ hA1.out uWd rfl iA.out ?_; simp only [Act.put, List.setIfInBounds_toArray, List.set_cons_zero, List.set_cons_succ]) | (refine wpList_load_row rfl 24 (.tmp 4) rfl (w.heap.size + 1) rfl 24 _ (0, 0) _ hB1.out uWd rfl iB.out ?_; simp only [Act.put, List.setIfInBounds_toArray, List.set_cons_zero, List.set_cons_succ]))
  refine (hF.out _).mono ?_
  rintro e w2 ⟨rfl, hb3⟩
  have hC2 := hid ((hC1.out.below hb3 hC1.out.lt).alloc (.cells (cellsM 8 s) 69))
  have hD2 := hid ((hD1.out.below hb3 hD1.out.lt).alloc (.cells (cellsM 8 s) 69))
  have hP2 := hid (ArrM.new 69 8 w2 s)
  have hb4 := hb2.trans (hb3.mono hb2.size)
  have hb5 := hb4.alloc hb4.size (.cells (cellsM 8 s) 69)
  have hsz : w.heap.size + 4 ≤ w2.heap.size := by have h1 := (hD1.out.below hb3 hD1.out.lt).lt; omega
  clear hA1 hB1 hC1 hD1 hb2 hb3
  go_wp2_with (first | (refine wpList_allocStore 69 15 7 (cellsM 8 s) (cellsM 8 0) rfl rfl rfl rfl rfl rfl (by decide) (by simp) rfl (by kernel_rfl) (by rw [size_cellsM, size_cellsM]) iP.out nP.out ?_; simp only [Act.put, List.setIfInBounds_toArray, List.set_cons_zero, List.set_cons_succ]))
  have hrd := hid (hP2.out.rd 8 (by omega))
  generalize hw3 : w2.alloc (.cells (cellsM 8 s) 69) = w3 at hC2 hD2 hP2 hb5 hrd ⊢
  have hsz3 : w2.heap.size ≤ w3.heap.size := by rw [← hw3]; simp
  refine wp_region_loose_tail 8 [.kn (.slice (some ⟨w2.heap.size, 0, none⟩) 8 8), .kn (.agg (cellsW (d))), .lo (fun v _ => ∃ q, v = .tuple #[q, .agg (cellsW r)]), .lo (fun v _ => ∃ q, v = .tuple #[q, .agg (cellsW r)]), .lo (fun _ _ => True), .kn (.agg (cellsW (r))), .lo (fun v w => ∃ b, v = .pointer (some ⟨b, 0, none⟩) ∧ ArrW 24 w b 0 ∧ w2.heap.size ≤ b), .lo (fun _ _ => True)] (by kernel_rfl) (by kernel_rfl) (by kernel_rfl) ?_ ?_
  · refine keepsAll_kn (keepsAll_kn (keepsAll_lo (fun _ _ _ h _ => h) (keepsAll_lo (fun _ _ _ h _ => h) (keepsAll_lo (fun _ _ _ h _ => h) (keepsAll_kn (keepsAll_lo ?_ (keepsAll_lo (fun _ _ _ h _ => h) trivial)))))))
    rintro v w w' ⟨b, h1, h2, h3⟩ hb
    exact ⟨b, h1, h2.below hb h2.lt, h3⟩
  simp only [List.take_succ_cons, List.take_zero, List.drop_succ_cons, List.drop_zero]
  (refine loose_step_on rfl (fun W' hB' hd K hK => ?_) ?_; (focus (clear hd; go_simp; exact hK _ _ (Below.refl _ _) rfl)); rintro _ rfl; simp only [Act.put, List.setIfInBounds_toArray, List.set_cons_zero, List.set_cons_succ])
  (refine loose_step_on rfl (fun W' hB' hd K hK => wp_load_block 24 (.tmp 5) rfl (w.heap.size + 2) rfl 24 _ _ (ArrW.below hC2.out hB' (ArrW.lt hC2.out)) uWd rfl iD.out (hK _ _ (Below.refl _ _) rfl)) ?_; rintro _ rfl; simp only [Act.put, List.setIfInBounds_toArray, List.set_cons_zero, List.set_cons_succ])
  (refine loose_step rfl (fun W' hB' hd K hK => ?_) ?_; (focus (clear hd; go_simp; refine (hDv.out _ _ (hrd.out.below hB')).mono ?_; rintro _ _ ⟨gq, rfl, h1, h2, h3⟩; exact hK _ _ h3 ⟨_, rfl⟩)); intro v19 _; simp only [Act.put, List.setIfInBounds_toArray, List.set_cons_zero, List.set_cons_succ])
  (refine loose_step_on rfl (fun W' hB' hd K hK => ?_) ?_; (focus (have g19 : ∃ q, v19 = .tuple #[q, .agg (cellsW r)] := hd ⟨2, Ground.data⟩ (by simp) rfl _ 19 rfl rfl (by simp); clear hd; go_simp; exact hK _ _ (Below.refl _ _) g19)); intro v16 _; simp only [Act.put, List.setIfInBounds_toArray, List.set_cons_zero, List.set_cons_succ])
  (refine loose_step rfl (fun W' hB' hd K hK => ?_) ?_; (focus (have g16 : ∃ q, v16 = .tuple #[q, .agg (cellsW r)] := hd ⟨3, Ground.data⟩ (by simp) rfl _ 16 rfl rfl (by simp); clear hd; obtain ⟨x1, rfl⟩ := g16; go_simp; exact hK _ _ (Below.refl _ _) trivial)); intro v20 _; simp only [Act.put, List.setIfInBounds_toArray, List.set_cons_zero, List.set_cons_succ])
  (refine loose_step rfl (fun W' hB' hd K hK => ?_) ?_; (focus (have g16 : ∃ q, v16 = .tuple #[q, .agg (cellsW r)] := hd ⟨3, Ground.data⟩ (by simp) rfl _ 16 rfl rfl (by simp); clear hd; obtain ⟨x1, rfl⟩ := g16; go_simp; exact hK _ _ (Below.refl _ _) rfl)); rintro _ rfl; simp only [Act.put, List.setIfInBounds_toArray, List.set_cons_zero, List.set_cons_succ])
  (refine loose_step rfl (fun W' hB' hd K hK => wp_alloc_new 24 rfl (cellsW 0) zWd (hK _ _ ((Below.refl _ _).alloc (Nat.le_refl _) _) ⟨_, rfl, ArrW.new _ _ _, Nat.le_trans hsz3 hB'.size⟩)) ?_; intro v9 _; simp only [Act.put, List.setIfInBounds_toArray, List.set_cons_zero, List.set_cons_succ])
  (refine loose_step rfl (fun W' hB' hd K hK => ?_) ?_; (focus (clear hd; go_simp; exact hK _ _ (Below.refl _ _) trivial)); intro v8 _; simp only [Act.put, List.setIfInBounds_toArray, List.set_cons_zero, List.set_cons_succ])
  intro w6 hb6 hf
  have g9 : ∃ b, v9 = .pointer (some ⟨b, 0, none⟩) ∧ ArrW 24 w6 b 0 ∧ w2.heap.size ≤ b := hf 6 _ 9 (by first | omega | simp) rfl rfl (by simp)
  clear hf
  obtain ⟨bb, rfl, hR6, hle⟩ := g9
  have hD6 := hid ((hD2.out.below hb6 hD2.out.lt).otherRow (show w.heap.size + 3 ≠ bb by omega) (cellsW r))
  have HR := hid hR6
  have HR2 := hid (hR6.row r)
  have hb7 := below_setRow' (hb5.trans (hb6.mono hb5.size)) bb (by omega) (cellsW r)
  clear hb6 hC2 hD2 hP2 hrd hR6
  go_wp2_with (first | (refine wpList_store_row rfl 24 (.tmp 9) (.tmp 21) rfl bb _ rfl rfl 24 _ HR.out iR.out rfl nR.out ?_; simp only [Act.put]) | (refine wpList_load_row rfl 24 (.tmp 9) rfl bb rfl 24 _ (0, 0) _ HR2.out uWd rfl iR.out ?_; simp only [Act.put, List.setIfInBounds_toArray, List.set_cons_zero, List.set_cons_succ]) | (refine wpList_store_row rfl 24 (.tmp 6) (.tmp 22) rfl (w.heap.size + 3) _ rfl rfl 24 _ hD6.out iR.out rfl nR.out ?_; simp only [Act.put]))
  refine bodyPost_ret (results_cell_row rfl _ _ (w.heap.size + 3) 24 (cellsW r) (0, 0) _ rfl (heap_setRow' _ _ _ _ _ hD6.out) uWd rfl iR.out) rfl ⟨rfl, below_setRow' hb7 _ (by omega) _⟩
end Go.Proofs.Ytfidbiabgmioaaa

/-! word.divide by more limbs. -/
namespace Go.Proofs.Ytfidbiabgmioaaa
open Go.RowKit

/-- A limb of a number shifted up by less than a limb. -/
theorem shl_limb0 (x s : Nat) : lmN (x * 2 ^ s) 0 = lmN x 0 * 2 ^ s % 2 ^ 64 := by
  unfold lmN
  rw [Nat.mul_zero, Nat.pow_zero, Nat.div_one, Nat.div_one, Nat.mod_mul_mod]
theorem shl_limb (x s i : Nat) (hs : s < 64) : lmN (x * 2 ^ s) (i + 1) = lmN x (i + 1) * 2 ^ s % 2 ^ 64 ||| lmN x i / 2 ^ (64 - s) := by
  have h := (lmN_shl x s (i + 1)).2.2 (by omega)
  rw [show s / 64 = 0 by omega, show s % 64 = s by omega, Nat.sub_zero, Nat.add_sub_cancel] at h
  by_cases h0 : s = 0
  · subst h0
    rw [h, if_pos rfl, Nat.pow_zero, Nat.mul_one, Nat.mod_eq_of_lt (lmN_lt _ _), Nat.div_eq_of_lt (lmN_lt _ _), Nat.or_zero]
  · rw [h, if_neg h0]
/-- A limb of a number shifted down by less than a limb. -/
theorem shr_limb (x s i : Nat) (hs : s < 64) : lmN (x / 2 ^ s) i = lmN x i / 2 ^ s ||| lmN x (i + 1) * 2 ^ (64 - s) % 2 ^ 64 := by
  by_cases h0 : s = 0
  · subst h0
    rw [Nat.pow_zero, Nat.div_one, Nat.div_one, Nat.sub_zero, Nat.mul_mod_left, Nat.or_zero]
  · have h := lmN_shr x s i (by omega)
    rw [show s / 64 = 0 by omega, show s % 64 = s by omega, Nat.add_zero] at h
    exact h
theorem or_shl (c u s : Nat) (hs : s < 64) (hc : c < 2 ^ s) : c ||| u * 2 ^ s % 2 ^ 64 = c + u * 2 ^ s % 2 ^ 64 := by
  have e : u * 2 ^ s % 2 ^ 64 = u % 2 ^ (64 - s) * 2 ^ s := by
    have h := shl_mod u (64 - s) (by omega)
    rw [show 64 - (64 - s) = s by omega] at h
    rw [h, Nat.mul_comm]
  rw [e, or_add _ _ _ hc]
/-- One limb more of what is shifted up. -/
theorem lift_step (U s i : Nat) (hs : s < 64) :
    lmN (U % 2 ^ (64 * i) * 2 ^ s) i < 2 ^ s ∧ lmN (U % 2 ^ (64 * i) * 2 ^ s) i + lmN U i * 2 ^ s % 2 ^ 64 < 2 ^ 64 ∧
    setL (setL (U % 2 ^ (64 * i) * 2 ^ s) i (lmN (U % 2 ^ (64 * i) * 2 ^ s) i + lmN U i * 2 ^ s % 2 ^ 64)) (i + 1) (lmN U i / 2 ^ (64 - s)) = U % 2 ^ (64 * (i + 1)) * 2 ^ s := by
  have hl := low_lt U i
  have hp : 0 < 2 ^ (64 * i) := Nat.pow_pos (by omega)
  have hps : 0 < 2 ^ s := Nat.pow_pos (by omega)
  have hs2 : 2 ^ s ≤ 2 ^ 63 := Nat.pow_le_pow_right (by omega) (by omega)
  have hX : U % 2 ^ (64 * i) * 2 ^ s < 2 ^ (64 * i) * 2 ^ s := Nat.mul_lt_mul_of_pos_right hl hps
  have hq : U % 2 ^ (64 * i) * 2 ^ s / 2 ^ (64 * i) < 2 ^ s := by rw [Nat.div_lt_iff_lt_mul hp, Nat.mul_comm (2 ^ s)]; exact hX
  have hc : lmN (U % 2 ^ (64 * i) * 2 ^ s) i < 2 ^ s := Nat.lt_of_le_of_lt (Nat.mod_le _ _) hq
  have hsum := or_shl (lmN (U % 2 ^ (64 * i) * 2 ^ s) i) (lmN U i) s hs hc
  have hlt : lmN (U % 2 ^ (64 * i) * 2 ^ s) i + lmN U i * 2 ^ s % 2 ^ 64 < 2 ^ 64 := by
    rw [← hsum]
    exact Nat.or_lt_two_pow (Nat.lt_trans hc (Nat.lt_of_le_of_lt hs2 (by decide))) (Nat.mod_lt _ (by decide))
  refine ⟨hc, hlt, ?_⟩
  have h1 := setL_eq (U % 2 ^ (64 * i) * 2 ^ s) i (lmN (U % 2 ^ (64 * i) * 2 ^ s) i + lmN U i * 2 ^ s % 2 ^ 64)
  have h2 := setL_eq (setL (U % 2 ^ (64 * i) * 2 ^ s) i (lmN (U % 2 ^ (64 * i) * 2 ^ s) i + lmN U i * 2 ^ s % 2 ^ 64)) (i + 1) (lmN U i / 2 ^ (64 - s))
  have h3 : lmN (setL (U % 2 ^ (64 * i) * 2 ^ s) i (lmN (U % 2 ^ (64 * i) * 2 ^ s) i + lmN U i * 2 ^ s % 2 ^ 64)) (i + 1) = 0 := by
    rw [lmN_setL _ _ _ _ hlt, if_neg (by omega)]
    apply lmN_hi
    rw [pow64_succ]
    exact Nat.lt_of_lt_of_le hX (Nat.mul_le_mul_left _ (Nat.le_trans hs2 (by decide)))
  rw [h3, Nat.mul_zero, Nat.add_zero] at h2
  rw [h2, low_succ, Nat.add_mul, Nat.mul_assoc]
  have e1 : lmN U i * 2 ^ s / 2 ^ 64 = lmN U i / 2 ^ (64 - s) := by
    rw [show (2 : Nat) ^ 64 = 2 ^ (64 - s) * 2 ^ s by rw [← Nat.pow_add]; congr 1; omega, Nat.mul_div_mul_right _ _ hps]
  have e2 := Nat.div_add_mod (lmN U i * 2 ^ s) (2 ^ 64)
  rw [e1] at e2
  have e3 : 2 ^ (64 * i) * (lmN U i * 2 ^ s) = 2 ^ (64 * i) * (2 ^ 64 * (lmN U i / 2 ^ (64 - s))) + 2 ^ (64 * i) * (lmN U i * 2 ^ s % 2 ^ 64) := by rw [← Nat.mul_add, e2]
  rw [e3, pow64_succ]
  rw [Nat.mul_add] at h1
  rw [Nat.mul_assoc (2 ^ (64 * i)) (2 ^ 64)]
  omega
/-- One limb more of the quotient. -/
theorem long_step (Z Z' V k q n : Nat) (hV : 0 < V) (hVn : V < 2 ^ (64 * n)) (hZ : Z < V * 2 ^ (64 * (k + 1))) (hw : win Z k (n + 1) = Z / 2 ^ (64 * k)) (hq : q = Z / 2 ^ (64 * k) / V) (he : Z' + 2 ^ (64 * k) * (q * V) = Z) : Z' < V * 2 ^ (64 * k) := by
  have hp : 0 < 2 ^ (64 * k) := Nat.pow_pos (by omega)
  have h1 := Nat.div_add_mod (Z / 2 ^ (64 * k)) V
  have h2 := Nat.mod_lt (Z / 2 ^ (64 * k)) hV
  have h3 := Nat.div_add_mod Z (2 ^ (64 * k))
  have h4 := Nat.mod_lt Z hp
  rw [← hq] at h1
  have h5 : Z / 2 ^ (64 * k) + 1 ≤ V * q + V := by omega
  have h6 := Nat.mul_le_mul_left (2 ^ (64 * k)) h5
  rw [Nat.mul_add, Nat.mul_add, Nat.mul_one, Nat.mul_comm V q] at h6
  rw [Nat.mul_comm V]
  omega
theorem long_win (Z V k n : Nat) (hVn : V < 2 ^ (64 * n)) (hZ : Z < V * 2 ^ (64 * (k + 1))) : win Z k (n + 1) = Z / 2 ^ (64 * k) ∧ win Z k (n + 1) < V * 2 ^ 64 := by
  have hp : 0 < 2 ^ (64 * k) := Nat.pow_pos (by omega)
  have h1 : Z / 2 ^ (64 * k) < V * 2 ^ 64 := by
    rw [Nat.div_lt_iff_lt_mul hp, Nat.mul_assoc, Nat.mul_comm (2 ^ 64), ← pow64_succ]; exact hZ
  have h2 : V * 2 ^ 64 ≤ 2 ^ (64 * (n + 1)) := by rw [pow64_succ]; exact Nat.mul_le_mul_right _ (Nat.le_of_lt hVn)
  have h3 : win Z k (n + 1) = Z / 2 ^ (64 * k) := Nat.mod_eq_of_lt (Nat.lt_of_lt_of_le h1 h2)
  exact ⟨h3, by rw [h3]; exact h1⟩
/-- A limb put below. -/
theorem setL_below (Q k v : Nat) (h : Q % 2 ^ (64 * (k + 1)) = 0) : setL Q k v = Q + 2 ^ (64 * k) * v ∧ (Q + 2 ^ (64 * k) * v) % 2 ^ (64 * k) = 0 := by
  have h0 : lmN Q k = 0 := by
    have := low_succ Q k
    rw [h] at this
    have hp : 0 < 2 ^ (64 * k) := Nat.pow_pos (by omega)
    rcases Nat.eq_zero_or_pos (lmN Q k) with h1 | h1
    · exact h1
    · have : 0 < 2 ^ (64 * k) * lmN Q k := Nat.mul_pos hp h1
      omega
  have h1 := setL_eq Q k v
  rw [h0, Nat.mul_zero, Nat.add_zero] at h1
  refine ⟨h1, ?_⟩
  rw [Nat.add_mul_mod_self_left]
  have h2 := low_succ Q k
  rw [h, h0, Nat.mul_zero, Nat.add_zero] at h2
  exact h2.symm
theorem top_limb (d : Nat) (h : 2 ^ 64 ≤ d) (h2 : d < 2 ^ 256) : ∃ m, m ≤ 2 ∧ (bl d + 63) / 64 = m + 2 ∧ d < 2 ^ (64 * (m + 2)) ∧ 0 < lmN d (m + 1) ∧ 64 * (m + 1) + bl (lmN d (m + 1)) = bl d := by
  have hs := bl_spec d (by have : 0 < 2 ^ 64 := by decide
                           omega)
  have hb := bl_le d 256 h2
  have h65 : 65 ≤ bl d := by
    rcases Nat.lt_or_ge (bl d) 65 with h3 | h3
    · have : 2 ^ bl d ≤ 2 ^ 64 := Nat.pow_le_pow_right (by omega) (by omega)
      omega
    · exact h3
  obtain ⟨m, hm⟩ : ∃ m, (bl d + 63) / 64 = m + 2 := ⟨(bl d + 63) / 64 - 2, by omega⟩
  have hd : d < 2 ^ (64 * (m + 2)) := Nat.lt_of_lt_of_le hs.2.2 (Nat.pow_le_pow_right (by omega) (by omega))
  have hn : lmN d (m + 1) ≠ 0 := by
    unfold lmN
    have hp : 0 < 2 ^ (64 * (m + 1)) := Nat.pow_pos (by omega)
    rw [show m + 2 = (m + 1) + 1 from rfl, pow64_succ, Nat.mul_comm] at hd
    rw [Nat.mod_eq_of_lt ((Nat.div_lt_iff_lt_mul hp).2 hd)]
    have : 2 ^ (64 * (m + 1)) ≤ d := Nat.le_trans (Nat.pow_le_pow_right (by omega) (by omega)) hs.2.1
    have := Nat.div_pos this hp
    omega
  exact ⟨m, by omega, hm, hd, Nat.pos_of_ne_zero hn, bl_top d (m + 1) hd hn⟩
end Go.Proofs.Ytfidbiabgmioaaa

/-! word.divide by more limbs: the walk. -/
namespace Go.Proofs.Ytfidbiabgmioaaa
open Go.RowKit

/-- What the rows hold while the divisor is shifted. -/
structure DvA (N L m d : Nat) (w wr : World) (Vv : Nat) : Prop where
  box : ArrW 24 wr N d
  res : ArrW 24 wr (N + 1) 0
  quo : ArrM 22 L wr (N + 2) 0
  dv : ArrM 22 (m + 2) wr (N + 3) Vv
  below : Below N w wr
theorem DvA.put {N L m d : Nat} {w wr : World} {Vv : Nat} (h : DvA N L m d w wr Vv) (j v : Nat) (hv : v < 2 ^ 64) : DvA N L m d w (wr.setCell ⟨N + 3, j, none⟩ (.int .u64 (v : Int))) (setL Vv j v) :=
  ⟨h.box.other (by show N ≠ N + 3; omega) _, h.res.other (by show N + 1 ≠ N + 3; omega) _, h.quo.other (by show N + 2 ≠ N + 3; omega) _, h.dv.set j v hv, h.below.setCell (p := ⟨N + 3, j, none⟩) (by show N ≤ N + 3; omega) _⟩
theorem DvA.ext {N L m d : Nat} {w wr : World} {Vv : Nat} (h : DvA N L m d w wr Vv) (hN : N ≤ w.heap.size) (y : World) : DvA N L m d w (wr.ext y) Vv :=
  ⟨h.box.ext y, h.res.ext y, h.quo.ext y, h.dv.ext y, World.ext_below_of h.below (Nat.le_trans hN h.below.size) y⟩

/-- What the rows hold from then on. -/
structure DvC (N L m d X V : Nat) (w wr : World) (Q Z : Nat) : Prop where
  box : ArrW 24 wr N d
  res : ArrW 24 wr (N + 1) 0
  quo : ArrM 22 L wr (N + 2) Q
  dv : ArrM 22 (m + 2) wr (N + 3) V
  xs : ArrM 22 (L + 1) wr X Z
  below : Below N w wr
theorem DvC.put {N L m d X V : Nat} {w wr : World} {Q Z : Nat} (h : DvC N L m d X V w wr Q Z) (hX : N + 3 < X) (j v : Nat) (hv : v < 2 ^ 64) : DvC N L m d X V w (wr.setCell ⟨X, j, none⟩ (.int .u64 (v : Int))) Q (setL Z j v) :=
  ⟨h.box.other (by show N ≠ X; omega) _, h.res.other (by show N + 1 ≠ X; omega) _, h.quo.other (by show N + 2 ≠ X; omega) _, h.dv.other (by show N + 3 ≠ X; omega) _, h.xs.set j v hv, h.below.setCell (p := ⟨X, j, none⟩) (by show N ≤ X; omega) _⟩
theorem DvC.putq {N L m d X V : Nat} {w wr : World} {Q Z : Nat} (h : DvC N L m d X V w wr Q Z) (hX : N + 3 < X) (j v : Nat) (hv : v < 2 ^ 64) : DvC N L m d X V w (wr.setCell ⟨N + 2, j, none⟩ (.int .u64 (v : Int))) (setL Q j v) Z :=
  ⟨h.box.other (by show N ≠ N + 2; omega) _, h.res.other (by show N + 1 ≠ N + 2; omega) _, h.quo.set j v hv, h.dv.other (by show N + 3 ≠ N + 2; omega) _, h.xs.other (by show X ≠ N + 2; omega) _, h.below.setCell (p := ⟨N + 2, j, none⟩) (by show N ≤ N + 2; omega) _⟩
theorem DvC.ext {N L m d X V : Nat} {w wr : World} {Q Z : Nat} (h : DvC N L m d X V w wr Q Z) (hN : N ≤ w.heap.size) (y : World) : DvC N L m d X V w (wr.ext y) Q Z :=
  ⟨h.box.ext y, h.res.ext y, h.quo.ext y, h.dv.ext y, h.xs.ext y, World.ext_below_of h.below (Nat.le_trans hN h.below.size) y⟩
/-- A step turned the row. -/
theorem DvC.turn {N L m d X V : Nat} {w wr wn : World} {Q Z Z' : Nat} (h : DvC N L m d X V w wr Q Z) (hX : N + 3 < X) (hb : Below X wr wn) (hx : ArrM 22 (L + 1) wn X Z') : DvC N L m d X V w wn Q Z' :=
  ⟨h.box.below hb (by omega), h.res.below hb (by omega), h.quo.below hb (by omega), h.dv.below hb (by omega), hx, h.below.trans (hb.mono (by omega))⟩
theorem DvC.alloc {N L m d X V : Nat} {w wr : World} {Q Z : Nat} (h : DvC N L m d X V w wr Q Z) (hN : N ≤ w.heap.size) (o : Obj) : DvC N L m d X V w (wr.alloc o) Q Z :=
  ⟨h.box.alloc _, h.res.alloc _, h.quo.alloc _, h.dv.alloc _, h.xs.alloc _, h.below.alloc (Nat.le_trans hN h.below.size) _⟩

set_option maxRecDepth 100000 in
set_option maxHeartbeats 8000000 in
theorem divideN_any (L U d : Nat) (v : Value) (w : World) (hr : RdM w v L U) (hU : U < 2 ^ (64 * L)) (hL4 : 4 ≤ L) (hL9 : L ≤ 9) (hd : 2 ^ 64 ≤ d) (hd256 : d < 2 ^ 256) :
    Calls Try.prog 120 #[v, wd d] w fun e w' => ∃ gq, e = .returned (.tuple #[.slice (some ⟨gq, 0, none⟩) L L, wd (U % d)]) ∧ ArrM 22 L w' gq (U / d) ∧ w.heap.size ≤ gq ∧ Below w.heap.size w w' := by
  have hW := hid (fun v w hr => width_any 4 d v w hr hd256 (by omega))
  obtain ⟨m, hm2, hbn, hdn, htop, hbt⟩ := top_limb d hd hd256
  have hb2 := bl_le d 256 hd256
  have htl := bl_le (lmN d (m + 1)) 64 (lmN_lt _ _)
  have hLZ := hid (fun w => lz64_same (lmN d (m + 1)) (lmN_lt _ _) w)
  have hds := bl_spec d (by omega)
  obtain ⟨s, hs⟩ : ∃ s, s = 64 - bl (lmN d (m + 1)) := ⟨_, rfl⟩
  rw [← hs] at hLZ
  have htb := (bl_spec (lmN d (m + 1)) (by omega)).1
  have hs63 : s ≤ 63 := by omega
  obtain ⟨V, hV⟩ : ∃ V, V = d * 2 ^ s := ⟨_, rfl⟩
  have hps : 0 < 2 ^ s := Nat.pow_pos (by omega)
  have hV1 : V < 2 ^ (64 * (m + 2)) := by
    rw [hV, show 64 * (m + 2) = bl d + s by omega, Nat.pow_add]
    exact Nat.mul_lt_mul_of_pos_right hds.2.2 hps
  have hV0 : 2 ^ (64 * (m + 1) + 63) ≤ V := by
    rw [hV, show 64 * (m + 1) + 63 = bl d - 1 + s by omega, Nat.pow_add]
    exact Nat.mul_le_mul_right _ hds.2.1
  have hV2 : 0 < lmN V (m + 1) := by
    unfold lmN
    have hp : 0 < 2 ^ (64 * (m + 1)) := Nat.pow_pos (by omega)
    have h1 := hV1
    rw [show m + 2 = (m + 1) + 1 from rfl, pow64_succ, Nat.mul_comm] at h1
    rw [Nat.mod_eq_of_lt ((Nat.div_lt_iff_lt_mul hp).2 h1)]
    exact Nat.div_pos (Nat.le_trans (Nat.pow_le_pow_right (by omega) (by omega)) hV0) hp
  have hVpos : 0 < V := by rw [hV]; exact Nat.mul_pos (by omega) hps
  have hZ0 : U * 2 ^ s < V * 2 ^ (64 * (L - (m + 2) + 1)) := by
    have h1 : U * 2 ^ s < 2 ^ (64 * L) * 2 ^ s := Nat.mul_lt_mul_of_pos_right hU hps
    have h2 : 2 ^ (64 * L) * 2 ^ s ≤ 2 ^ (64 * L) * 2 ^ 63 := Nat.mul_le_mul_left _ (Nat.pow_le_pow_right (by omega) hs63)
    have h3 : 2 ^ (64 * (m + 1) + 63) * 2 ^ (64 * (L - (m + 2) + 1)) ≤ V * 2 ^ (64 * (L - (m + 2) + 1)) := Nat.mul_le_mul_right _ hV0
    rw [← Nat.pow_add] at h2 h3
    rw [← Nat.pow_add] at h2
    rw [show 64 * (m + 1) + 63 + 64 * (L - (m + 2) + 1) = 64 * L + 63 by omega] at h3
    rw [← Nat.pow_add] at h1
    omega
  have HU := hid (show U % 2 ^ (64 * L) = U from Nat.mod_eq_of_lt hU)
  obtain ⟨bd, hbd⟩ : ∃ b, b = bl d := ⟨_, rfl⟩
  rw [← hbd] at hW
  have hne : (((bd : Int) + 63) / 64) = (m : Int) + 2 := by omega
  have HV := hid hV
  have HV1 := hid hV1
  have HV2 := hid hV2
  have HVp := hid hVpos
  have HZ0 := hid hZ0
  have hVd : V / 2 ^ s = d := by rw [hV, Nat.mul_div_cancel _ hps]
  have HVd := hid hVd
  have hmk := mkM L (by omega)
  have hmk2 : ∀ w : World, (Instr.makeSlice 71 (.int .i64 ((m : Int) + 2)) (.int .i64 ((m : Int) + 2))).run Try.prog w = .ok (.slice (some ⟨w.heap.size, 0, none⟩) (m + 2) (m + 2)) (w.alloc (.cells (cellsM (m + 2) 0) 22)) := fun w => mkM (m + 2) (by omega) w
  have hmk3 : ∀ w : World, (Instr.makeSlice 71 (.int .i64 ((L : Int) + 1)) (.int .i64 ((L : Int) + 1))).run Try.prog w = .ok (.slice (some ⟨w.heap.size, 0, none⟩) (L + 1) (L + 1)) (w.alloc (.cells (cellsM (L + 1) 0) 22)) := fun w => mkM (L + 1) (by omega) w
  obtain ⟨a, cap, rfl, hc, hr⟩ := hr
  have HR := hid hr
  have hmne : ¬ (m : Int) + 2 = 1 := by omega
  have hml : m + 2 ≤ 4 := by omega
  clear hr hU hd hd256 hbn hdn htop hbt hb2 htl hds hs htb hV hV1 hV0 hV2 hVpos hZ0 hVd hbd hps
  unfold wd at *
  have hA0 := hid (show ArrW 24 (((w.alloc (.cells (cellsW d) 24)).alloc (.cells (cellsW 0) 24)).alloc (.cells (cellsM L 0) 22)) w.heap.size d from ((ArrW.new _ w d).alloc _).alloc _)
  have hrd := hid (show RdM ((w.alloc (.cells (cellsW d) 24)).alloc (.cells (cellsW 0) 24)) (.slice (some ⟨w.heap.size, 0, none⟩) 4 4) 4 d from ((ArrW.new _ w d).alloc _).toM.rd 4 (by omega))
  have hB0 := hid (show ArrW 24 (((w.alloc (.cells (cellsW d) 24)).alloc (.cells (cellsW 0) 24)).alloc (.cells (cellsM L 0) 22)) (w.heap.size + 1) 0 by
    have := ArrW.new 24 (w.alloc (.cells (cellsW d) 24)) 0
    rw [World.size_alloc] at this; exact this.alloc _)
  have hC0 := hid (show ArrM 22 L (((w.alloc (.cells (cellsW d) 24)).alloc (.cells (cellsW 0) 24)).alloc (.cells (cellsM L 0) 22)) (w.heap.size + 2) 0 by
    have := ArrM.new 22 L ((w.alloc (.cells (cellsW d) 24)).alloc (.cells (cellsW 0) 24)) 0
    rw [World.size_alloc, World.size_alloc] at this; exact this)
  have hb0 : Below w.heap.size w (((w.alloc (.cells (cellsW d) 24)).alloc (.cells (cellsW 0) 24)).alloc (.cells (cellsM L 0) 22)) := (((Below.refl _ _).alloc (Nat.le_refl _) _).alloc (by simp) _).alloc (by simp; omega) _
  have cd := hA0.out.cell (m + 1) (by omega)
  have ld := hA0.out.lt
  go_enter Try.func120, Try.ntmps120
  go_wp2_with (refine wpList_alloc_new rfl 24 rfl (cellsW 0) zWd ?_; simp only [Act.put, List.setIfInBounds_toArray, List.set_cons_zero, List.set_cons_succ, World.size_alloc])
  refine (hW.out _ _ hrd.out).mono ?_
  rintro e w1 ⟨rfl, rfl⟩
  go_wp2_with fail
  refine (hLZ.out _).mono ?_
  rintro e w1 ⟨rfl, rfl⟩
  have hbf : (((m : Int) + 2) == 1) = false := beq_eq_false_iff_ne.2 (by omega)
  simp only [hne, hbf]
  have hI0 : Hid (DvA w.heap.size L m d w ((((w.alloc (.cells (cellsW d) 24)).alloc (.cells (cellsW 0) 24)).alloc (.cells (cellsM L 0) 22)).alloc (.cells (cellsM (m + 2) 0) 22)) (V % 2 ^ (64 * 0))) := hid ⟨hA0.out.alloc _, hB0.out.alloc _, hC0.out.alloc _, by
    rw [Nat.mul_zero, Nat.pow_zero, Nat.mod_one]
    have := ArrM.new 22 (m + 2) (((w.alloc (.cells (cellsW d) 24)).alloc (.cells (cellsW 0) 24)).alloc (.cells (cellsM L 0) 22)) 0
    rw [World.size_alloc, World.size_alloc, World.size_alloc] at this; exact this, hb0.alloc hb0.size _⟩
  clear hA0 hB0 hC0 hb0 hrd cd ld hW hLZ hbf
  go_wp2_with fail
  (try simp only [World.size_alloc, show m + 2 - 1 = m + 1 from rfl])
  generalize (((w.alloc (.cells (cellsW d) 24)).alloc (.cells (cellsW 0) 24)).alloc (.cells (cellsM L 0) 22)).alloc (.cells (cellsM (m + 2) 0) 22) = w1 at hI0 ⊢
  have h64 : (64 - (s : Int)).toNat = 64 - s := by omega
  go_loopw [59] (fun iv wr => ∃ i : Nat, i ≤ m + 2 ∧ iv = .int .i64 (i : Int) ∧ Hid (DvA w.heap.size L m d w wr (V % 2 ^ (64 * i))))
    (fun iv _ => m + 2 - (intOf iv).toNat)
  case atStart => exact ⟨0, by omega, rfl, hI0⟩
  case round =>
    clear hI0
    obtain ⟨i, hi, rfl, hI⟩ := hrel
    by_cases hlt : i < m + 2
    · have cd := hI.out.box.cell i (by omega)
      have ld := hI.out.box.lt
      have cv := hI.out.dv.cell i hlt
      have fv := hI.out.dv.free i
      have lv := hI.out.dv.lt
      have gd := lmN_lt d i
      obtain ⟨u1, hu1⟩ : ∃ u, u = lmN d i * 2 ^ s % 2 ^ 64 := ⟨_, rfl⟩
      have bu1 : u1 < 2 ^ 64 := by rw [hu1]; exact Nat.mod_lt _ (by decide)
      have E1 : IntKind.u64.wrap (lm d i * 2 ^ s) = (u1 : Int) := by
        unfold lm
        rw [hu1, show ((lmN d i : Nat) : Int) * 2 ^ s = ((lmN d i * 2 ^ s : Nat) : Int) by rw [Int.natCast_mul, Int.natCast_pow]; rfl, u64w_nat]
      rcases Nat.eq_zero_or_pos i with h0 | h0
      · subst h0
        have HS := hid (show V % 2 ^ (64 * (0 + 1)) = setL (V % 2 ^ (64 * 0)) 0 u1 by
          rw [low_succ, setL_top _ _ _ (low_lt V 0), HV.out, shl_limb0, hu1])
        clear hu1
        go_wp2_with fail
        go_roundw
        case rel => exact ⟨1, by omega, by go_num, hid (by rw [show (1 : Nat) = 0 + 1 from rfl, HS.out]; exact hI.out.put 0 u1 bu1)⟩
        case measure => simp [intOf]
      · obtain ⟨j, rfl⟩ : ∃ j, i = j + 1 := ⟨i - 1, by omega⟩
        have cd2 := hI.out.box.cell j (by omega)
        have hv2 : lmN V (j + 1) = u1 ||| lmN d j / 2 ^ (64 - s) := by rw [HV.out, shl_limb d s j (by omega), hu1]
        have HVal := hid (show bits .or .u64 (u1 : Int) (lm d j / 2 ^ (64 - s)) = ((lmN V (j + 1) : Nat) : Int) by
          rw [hv2, ← u64_or_nat _ _ bu1 (Nat.lt_of_le_of_lt (Nat.div_le_self _ _) (lmN_lt d j)), Int.natCast_ediv, Int.natCast_pow]; rfl)
        have HS := hid (show V % 2 ^ (64 * (j + 1 + 1)) = setL (setL (V % 2 ^ (64 * (j + 1))) (j + 1) u1) (j + 1) (lmN V (j + 1)) by
          rw [low_succ, setL_twice _ _ _ _ (low_lt V (j + 1)) bu1])
        have hI1 := hid (hI.out.put (j + 1) u1 bu1)
        clear hu1 hv2
        go_wp2_with fail
        clear cd cd2 ld cv fv lv hI
        generalize wr.setCell ⟨w.heap.size + 3, j + 1, none⟩ (.int .u64 (u1 : Int)) = wr at hI1 ⊢
        have cd2 := hI1.out.box.cell j (by omega)
        have ld := hI1.out.box.lt
        have cv := hI1.out.dv.cell (j + 1) hlt
        rw [lmN_setL _ _ _ _ bu1, if_pos rfl] at cv
        have fv := hI1.out.dv.free (j + 1)
        have lv := hI1.out.dv.lt
        (refine wp_region_ext_tail 13 (by kernel_rfl) (by kernel_rfl) ?_; simp only [List.take_succ_cons, List.take_zero, List.drop_succ_cons, List.drop_zero]; (repeat (go_big_quiet_step (first | fail))); refine wpQuiet_nil ?_; rintro _ ⟨xw, rfl⟩)
        go_wp2_with fail
        go_roundw
        case rel =>
          rw [HVal.out]
          exact ⟨j + 1 + 1, by omega, by go_num, hid (by rw [HS.out]; exact (hI1.out.ext (Nat.le_refl _) xw).put (j + 1) _ (lmN_lt _ _))⟩
        case measure => simp [intOf]; omega
    · obtain rfl : i = m + 2 := by omega
      rw [Nat.mod_eq_of_lt HV1.out] at hI
      have hXn := hI.out.dv.lt
      obtain ⟨X, hX⟩ : ∃ X, X = wr.heap.size := ⟨_, rfl⟩
      have hXA : Hid (ArrM 22 (L + 1) (wr.alloc (.cells (cellsM (L + 1) 0) 22)) X (U % 2 ^ (64 * 0) * 2 ^ s)) := hid (by
        rw [Nat.mul_zero, Nat.pow_zero, Nat.mod_one, Nat.zero_mul, hX]; exact ArrM.new _ _ _ _)
      have hI2 : Hid (DvA w.heap.size L m d w (wr.alloc (.cells (cellsM (L + 1) 0) 22)) V) := hid ⟨hI.out.box.alloc _, hI.out.res.alloc _, hI.out.quo.alloc _, hI.out.dv.alloc _, hI.out.below.alloc hI.out.below.size _⟩
      clear hI hlt hi
      go_wp2_with fail
      (try simp only [← hX])
      generalize wr.alloc (.cells (cellsM (L + 1) 0) 22) = w2 at hXA hI2 ⊢
      rw [← hX] at hXn
      clear hX
      have hJ : Hid (DvC w.heap.size L m d X V w w2 0 (U % 2 ^ (64 * 0) * 2 ^ s)) := hid ⟨hI2.out.box, hI2.out.res, hI2.out.quo, hI2.out.dv, hXA.out, hI2.out.below⟩
      clear hXA hI2
      go_loopw [92] (fun iv wr => ∃ i : Nat, i ≤ L ∧ iv = .int .i64 (i : Int) ∧ Hid (DvC w.heap.size L m d X V w wr 0 (U % 2 ^ (64 * i) * 2 ^ s)))
        (fun iv _ => L - (intOf iv).toNat)
      case atStart => exact ⟨0, by omega, rfl, hJ⟩
      case round =>
        clear hJ
        obtain ⟨i, hi, rfl, hJ⟩ := hrel
        by_cases hlt : i < L
        · obtain ⟨b, off, rfl, hbl, hcell⟩ := HR.out (by omega)
          obtain ⟨t1, t2, t3⟩ := lift_step U s i (by omega)
          have cx := hJ.out.xs.cell i (by omega)
          have fx := hJ.out.xs.free i
          have lx := hJ.out.xs.lt
          have cu := (hJ.out.below.cell (p := ⟨b, off + i, none⟩) hbl).trans (hcell i hlt)
          have lu : b < wr.heap.size := Nat.lt_of_lt_of_le hbl hJ.out.below.size
          have gu := lmN_lt U i
          obtain ⟨c, hc2⟩ : ∃ c, c = lmN (U % 2 ^ (64 * i) * 2 ^ s) i := ⟨_, rfl⟩
          rw [← hc2] at t1 t2 t3 cx
          have hcs : c < 2 ^ 64 := Nat.lt_trans t1 (Nat.lt_of_le_of_lt (Nat.pow_le_pow_right (by omega) hs63) (by decide))
          obtain ⟨y, hy⟩ : ∃ y, y = c + lmN U i * 2 ^ s % 2 ^ 64 := ⟨_, rfl⟩
          have HVal := hid (show bits .or .u64 (c : Int) (IntKind.u64.wrap (((lmN U i : Nat) : Int) * 2 ^ s)) = (y : Int) by
            rw [show ((lmN U i : Nat) : Int) * 2 ^ s = ((lmN U i * 2 ^ s : Nat) : Int) by rw [Int.natCast_mul, Int.natCast_pow]; rfl, u64w_nat, show (18446744073709551616 : Nat) = 2 ^ 64 from by decide]
            rw [u64_or_nat _ _ hcs (Nat.mod_lt _ (by decide)), or_shl c _ s (by omega) t1, hy])
          rw [← hy] at t2 t3
          have HT3 := hid t3
          obtain ⟨z, hz⟩ : ∃ z, z = lmN U i / 2 ^ (64 - s) := ⟨_, rfl⟩
          have hz2 : z < 2 ^ 64 := by rw [hz]; exact Nat.lt_of_le_of_lt (Nat.div_le_self _ _) gu
          have HZv := hid (show (((lmN U i : Nat) : Int)) / 2 ^ (64 - s) = (z : Int) by rw [hz, Int.natCast_ediv, Int.natCast_pow]; rfl)
          rw [← hz] at HT3
          clear hc2 hy hz t3 hcell t1
          go_wp2_with fail
          (refine wp_region_ext_tail 12 (by kernel_rfl) (by kernel_rfl) ?_; simp only [List.take_succ_cons, List.take_zero, List.drop_succ_cons, List.drop_zero]; (repeat (go_big_quiet_step (first | fail))); refine wpQuiet_nil ?_; rintro _ ⟨xw, rfl⟩)
          have hJ1 := hid ((hJ.out.ext (Nat.le_refl _) xw).put hXn i y t2)
          have cx1 := hJ.out.xs.cell (i + 1) (by omega)
          have fx1 := hJ.out.xs.free (i + 1)
          have hbX : ¬ b = X := by omega
          have hbX' : ¬ X = b := by omega
          go_wp2_with fail
          rw [HVal.out]
          rw [HZv.out]
          go_roundw
          case rel => exact ⟨i + 1, by omega, by go_num, hid (by rw [← HT3.out]; exact hJ1.out.put hXn (i + 1) z hz2)⟩
          case measure => simp [intOf]; omega
        · obtain rfl : L = i := by omega
          rw [HU.out] at hJ
          clear hlt hi
          have hge : ¬ ((L : Int) - ((m : Int) + 2) < 0) := by omega
          go_wp2_with fail
          go_loopw [15] (fun kv wr => ∃ k Q Z : Nat, k ≤ L - (m + 2) + 1 ∧ kv = .int .i64 ((k : Int) - 1) ∧ Hid (Z < V * 2 ^ (64 * k) ∧ Z + V * Q = U * 2 ^ s ∧ Q % 2 ^ (64 * k) = 0) ∧ Hid (DvC w.heap.size L m d X V w wr Q Z))
            (fun kv _ => (intOf kv + 1).toNat)
          case atStart => exact ⟨L - (m + 2) + 1, 0, U * 2 ^ s, Nat.le_refl _, by go_num, hid ⟨HZ0.out, by rw [Nat.mul_zero, Nat.add_zero], Nat.zero_mod _⟩, hJ⟩
          case round =>
            clear hJ
            obtain ⟨k, Q, Z, hk, rfl, hQ, hJ⟩ := hrel
            by_cases h0 : k = 0
            · subst h0
              have hZV : Z < V := by have := hQ.out.1; rw [Nat.mul_zero, Nat.pow_zero, Nat.mul_one] at this; exact this
              have hdiv : U * 2 ^ s / V = Q := by
                rw [← hQ.out.2.1, Nat.add_mul_div_left _ _ HVp.out, Nat.div_eq_of_lt hZV, Nat.zero_add]
              have hmod : U * 2 ^ s % V = Z := by
                rw [← hQ.out.2.1, Nat.add_mul_mod_self_left, Nat.mod_eq_of_lt hZV]
              have hsh := div_shift U d s
              rw [← HV.out, hdiv, hmod] at hsh
              have HQd := hid hsh.1.symm
              have HRd := hid hsh.2.symm
              have HZl := hid (show Z / 2 ^ s % 2 ^ (64 * (m + 2)) = Z / 2 ^ s from Nat.mod_eq_of_lt (Nat.lt_of_le_of_lt (Nat.div_le_self _ _) (Nat.lt_trans hZV HV1.out)))
              have hRs := hid hJ.out.below.size
              have hJ1 := hid (hJ.out.alloc (Nat.le_refl _) (.cells (cellsW 0) 24))
              have hR1 := hid (ArrW.new 24 wr 0)
              have hXR := hJ.out.xs.lt
              have hqR := hJ.out.quo.lt
              clear hQ hZV hdiv hmod hsh hJ hk
              go_wp2_with (refine wpList_alloc_new rfl 24 rfl (cellsW 0) zWd ?_; simp only [Act.put, List.setIfInBounds_toArray, List.set_cons_zero, List.set_cons_succ, World.size_alloc])
              generalize ((0 : Nat) : Int) - 1 = mone
              obtain ⟨R, hR⟩ : ∃ R, R = wr.heap.size := ⟨_, rfl⟩
              have hK : Hid (DvC w.heap.size L m d X V w (wr.alloc (.cells (cellsW 0) 24)) Q Z ∧ ArrM 24 4 (wr.alloc (.cells (cellsW 0) 24)) R (Z / 2 ^ s % 2 ^ (64 * 0))) := hid ⟨hJ1.out, by
                rw [Nat.mul_zero, Nat.pow_zero, Nat.mod_one, hR]; exact hR1.out.toM⟩
              rw [← hR] at hXR ⊢
              generalize wr.alloc (.cells (cellsW 0) 24) = w6 at hK ⊢
              clear hJ1 hR1 hR hRs hqR
              go_loopw [140] (fun iv wr => ∃ i : Nat, i ≤ m + 2 ∧ iv = .int .i64 (i : Int) ∧ Hid (DvC w.heap.size L m d X V w wr Q Z ∧ ArrM 24 4 wr R (Z / 2 ^ s % 2 ^ (64 * i))))
                (fun iv _ => m + 2 - (intOf iv).toNat)
              case atStart => exact ⟨0, by omega, rfl, hK⟩
              case round =>
                clear hK
                obtain ⟨i, hi, rfl, hK⟩ := hrel
                by_cases hlt : i < m + 2
                · have cx := hK.out.1.xs.cell i (by omega)
                  have cx1 := hK.out.1.xs.cell (i + 1) (by omega)
                  have lx := hK.out.1.xs.lt
                  have cr := hK.out.2.cell i (by omega)
                  have fr := hK.out.2.free i
                  have lr := hK.out.2.lt
                  have gx := lmN_lt Z i
                  have gx1 := lmN_lt Z (i + 1)
                  have HVal := hid (show bits .or .u64 (((lmN Z i : Nat) : Int) / 2 ^ s) (IntKind.u64.wrap (((lmN Z (i + 1) : Nat) : Int) * 2 ^ (64 - s))) = ((lmN (Z / 2 ^ s) i : Nat) : Int) by
                    rw [shr_limb Z s i (by omega), show ((lmN Z i : Nat) : Int) / 2 ^ s = ((lmN Z i / 2 ^ s : Nat) : Int) by rw [Int.natCast_ediv, Int.natCast_pow]; rfl]
                    rw [show ((lmN Z (i + 1) : Nat) : Int) * 2 ^ (64 - s) = ((lmN Z (i + 1) * 2 ^ (64 - s) : Nat) : Int) by rw [Int.natCast_mul, Int.natCast_pow]; rfl, u64w_nat, show (18446744073709551616 : Nat) = 2 ^ 64 from by decide]
                    rw [u64_or_nat _ _ (Nat.lt_of_le_of_lt (Nat.div_le_self _ _) gx) (Nat.mod_lt _ (by decide))])
                  have HS := hid (show Z / 2 ^ s % 2 ^ (64 * (i + 1)) = setL (Z / 2 ^ s % 2 ^ (64 * i)) i (lmN (Z / 2 ^ s) i) by
                    rw [low_succ, setL_top _ _ _ (low_lt _ i)])
                  go_wp2_with fail
                  (refine wp_region_ext_tail 17 (by kernel_rfl) (by kernel_rfl) ?_; simp only [List.take_succ_cons, List.take_zero, List.drop_succ_cons, List.drop_zero]; (repeat (go_big_quiet_step (first | fail))); refine wpQuiet_nil ?_; rintro _ ⟨xw, rfl⟩)
                  go_wp2_with fail
                  go_roundw
                  case rel =>
                    rw [HVal.out]
                    refine ⟨i + 1, by omega, by go_num, hid ⟨?_, by rw [HS.out]; exact (hK.out.2.ext xw).set i _ (lmN_lt _ _)⟩⟩
                    have hE := hK.out.1.ext (Nat.le_refl _) xw
                    exact ⟨hE.box.other (by show w.heap.size ≠ R; omega) _, hE.res.other (by show w.heap.size + 1 ≠ R; omega) _, hE.quo.other (by show w.heap.size + 2 ≠ R; omega) _, hE.dv.other (by show w.heap.size + 3 ≠ R; omega) _, hE.xs.other (by show X ≠ R; omega) _, hE.below.setCell (p := ⟨R, i, none⟩) (by show w.heap.size ≤ R; omega) _⟩
                  case measure => simp [intOf]; omega
                · obtain rfl : i = m + 2 := by omega
                  rw [HZl.out, ← HRd.out, ← HQd.out] at hK
                  obtain ⟨r, hr⟩ : ∃ r, r = U % d := ⟨_, rfl⟩
                  rw [← hr] at hK
                  have HRR := hid hr
                  have hRw := hid hK.out.2.toW
                  have hres := hid hK.out.1.res
                  have hquo := hid hK.out.1.quo
                  have hbel := hK.out.1.below
                  have iR := hid (iW r)
                  have nR := hid (one_cellsW r)
                  clear hr hK hlt hi
                  go_wp2_with fail
                  ((try simp only [World.size_alloc]); refine wp_region_ext_tail 3 (by kernel_rfl) (by kernel_rfl) ?_; simp only [List.take_succ_cons, List.take_zero, List.drop_succ_cons, List.drop_zero]; (repeat (first | (refine wpQuiet_load_part rfl 24 (.tmp 16) rfl R 0 rfl 24 _ (cellsW _) (0, 0) _ hRw.out (fun j v h => by rw [Nat.zero_add]; exact h) uWd rfl iR.out ?_; simp only [Act.put, List.setIfInBounds_toArray, List.set_cons_zero, List.set_cons_succ]) | go_big_quiet_step (first | fail))); refine wpQuiet_nil ?_; rintro _ ⟨xw, rfl⟩)
                  have hres2 := hid (hres.out.ext xw)
                  have hquo2 := hid (hquo.out.ext xw)
                  have hbel2 := World.ext_below_of hbel hbel.size xw
                  clear hres hquo hbel
                  go_wp2_with (refine wpList_store_row rfl 24 (.tmp 5) (.tmp 162) rfl (w.heap.size + 1) _ rfl rfl 24 _ hres2.out iR.out rfl nR.out ?_; simp only [Act.put])
                  refine bodyPost_ret (results_tmp_row rfl _ _ (w.heap.size + 1) 24 (cellsW r) (0, 0) _ rfl (heap_setRow' _ _ _ _ _ hres2.out) uWd rfl iR.out) rfl ⟨w.heap.size + 2, by rw [HRR.out]; rfl, ?_, by omega, below_setRow' hbel2 _ (by omega) _⟩
                  have h9 := hquo2.out
                  unfold ArrM at *
                  simp only [World.setRow, Array.getElem?_modify]
                  rw [if_neg (by omega)]; exact h9
            · obtain ⟨j, rfl⟩ : ∃ j, k = j + 1 := ⟨k - 1, by omega⟩
              have e1 : (((j + 1 : Nat) : Int) - 1) = (j : Int) := by omega
              rw [e1]
              obtain ⟨w1', w2'⟩ := long_win Z V j (m + 2) HV1.out hQ.out.1
              have hSt := hid (step_any X j (L + 1) Z (w.heap.size + 3) m V (L + 1 - j) wr hJ.out.xs hJ.out.dv hXn (by omega) (by omega) (by omega) (by omega) HV1.out HV2.out w2')
              obtain ⟨q, hq⟩ : ∃ q, q = win Z j (m + 3) / V := ⟨_, rfl⟩
              rw [← hq] at hSt
              have hq64 : q < 2 ^ 64 := by rw [hq, Nat.div_lt_iff_lt_mul HVp.out, Nat.mul_comm]; exact w2'
              have hqe := hid (show q = Z / 2 ^ (64 * j) / V by rw [hq, ← w1'])
              have hW1 := hid w1'
              have cq := hJ.out.quo.cell j (by omega)
              clear e1 h0 hq w1' w2'
              go_wp2_with fail
              rw [show j + (m + 2) + 1 - j = m + 3 by omega]
              refine hSt.out.mono ?_
              rintro e w5 ⟨Z', rfl, hx5, he5, hb5⟩
              have hJ5 := hid (hJ.out.turn hXn hb5 hx5)
              have cq5 := hJ5.out.quo.cell j (by omega)
              have fq5 := hJ5.out.quo.free j
              have lq5 := hJ5.out.quo.lt
              have hnew := setL_below Q j q hQ.out.2.2
              have HN1 := hid hnew.1
              have HN2 := hid (And.intro (long_step Z Z' V j q (m + 2) HVp.out HV1.out hQ.out.1 hW1.out hqe.out he5) (And.intro (show Z' + V * (Q + 2 ^ (64 * j) * q) = U * 2 ^ s by
                have h1 := hQ.out.2.1
                rw [← he5] at h1
                rw [Nat.mul_add, Nat.mul_left_comm V, Nat.mul_comm V q]
                omega) hnew.2))
              clear hJ hb5 hx5 he5 hSt hnew cq
              go_wp2_with fail
              go_roundw
              case rel => exact ⟨j, Q + 2 ^ (64 * j) * q, Z', by omega, by go_num, HN2, hid (by rw [← HN1.out]; exact hJ5.out.putq hXn j q hq64)⟩
              case measure => simp [intOf]
end Go.Proofs.Ytfidbiabgmioaaa

/-! word: parts, Div, Mod, Mulmod, Addmod, Sdiv, Smod. -/
namespace Go.Proofs.Ytfidbiabgmioaaa
open Go.RowKit

theorem divide_any (n U d : Nat) (v : Value) (w : World) (hr : RdM w v n U) (hU : U < 2 ^ (64 * n)) (hn4 : 4 ≤ n) (hn : n ≤ 9) (hd : 0 < d) (hd2 : d < 2 ^ 256) :
    Calls Try.prog 120 #[v, wd d] w fun e w' => ∃ gq, e = .returned (.tuple #[.slice (some ⟨gq, 0, none⟩) n n, wd (U % d)]) ∧ ArrM 22 n w' gq (U / d) ∧ w.heap.size ≤ gq ∧ Below w.heap.size w w' := by
  by_cases h : d < 2 ^ 64
  · exact divide1_any n U d v w hr hU hn hd h
  · exact divideN_any n U d v w hr hU hn4 hn (by omega) hd2

set_option maxHeartbeats 2000000 in
theorem wmulmod_any (a b d : Nat) (w : World) (ha : a < 2 ^ 256) (hb : b < 2 ^ 256) (hd256 : d < 2 ^ 256) : Calls Try.prog 72 #[wd a, wd b, wd d] w fun e w' => e = .returned (wd (modW (a * b) d)) ∧ Below w.heap.size w w' := by
  have hZ := hid (fun w => wzero_any d hd256 w)
  have iA := hid (iW a)
  have iB := hid (iW b)
  have iD := hid (iW d)
  have nD := hid (one_cellsW d)
  by_cases h0 : d = 0
  · have HY := hid (show modW (a * b) d = d by unfold modW; rw [if_pos h0, h0])
    rw [decide_eq_true h0] at hZ
    rw [HY.out]
    clear h0 HY ha hb hd256
    unfold wd at *
    have hA0 := hid (show ArrW 24 ((((w.alloc (.cells (cellsW a) 24)).alloc (.cells (cellsW b) 24)).alloc (.cells (cellsW d) 24)).alloc (.cells (cellsW 0) 24)) w.heap.size a from (((ArrW.new _ w a).alloc _).alloc _).alloc _)
    have hB0 := hid (show ArrW 24 ((((w.alloc (.cells (cellsW a) 24)).alloc (.cells (cellsW b) 24)).alloc (.cells (cellsW d) 24)).alloc (.cells (cellsW 0) 24)) (w.heap.size + 1) b by
      have := ArrW.new 24 (w.alloc (.cells (cellsW a) 24)) b
      rw [World.size_alloc] at this; exact (this.alloc _).alloc _)
    have hC0 := hid (show ArrW 24 ((((w.alloc (.cells (cellsW a) 24)).alloc (.cells (cellsW b) 24)).alloc (.cells (cellsW d) 24)).alloc (.cells (cellsW 0) 24)) (w.heap.size + 2) d by
      have := ArrW.new 24 ((w.alloc (.cells (cellsW a) 24)).alloc (.cells (cellsW b) 24)) d
      rw [World.size_alloc, World.size_alloc] at this; exact this.alloc _)
    have hD0 := hid (show ArrW 24 ((((w.alloc (.cells (cellsW a) 24)).alloc (.cells (cellsW b) 24)).alloc (.cells (cellsW d) 24)).alloc (.cells (cellsW 0) 24)) (w.heap.size + 3) 0 by
      have := ArrW.new 24 (((w.alloc (.cells (cellsW a) 24)).alloc (.cells (cellsW b) 24)).alloc (.cells (cellsW d) 24)) 0
      rw [World.size_alloc, World.size_alloc, World.size_alloc] at this; exact this)
    have hb0 : Below w.heap.size w ((((w.alloc (.cells (cellsW a) 24)).alloc (.cells (cellsW b) 24)).alloc (.cells (cellsW d) 24)).alloc (.cells (cellsW 0) 24)) := ((((Below.refl _ _).alloc (Nat.le_refl _) _).alloc (by simp) _).alloc (by simp; omega) _).alloc (by simp; omega) _
    go_enter Try.func72, Try.ntmps72
    go_wp2_with (first | (refine wpList_alloc_new rfl 24 rfl (cellsW 0) zWd ?_; simp only [Act.put, List.setIfInBounds_toArray, List.set_cons_zero, List.set_cons_succ, World.size_alloc]) | (refine wpList_load_row rfl 24 (.tmp 5) rfl (w.heap.size + 2) rfl 24 _ (0, 0) _ hC0.out uWd rfl iD.out ?_; simp only [Act.put, List.setIfInBounds_toArray, List.set_cons_zero, List.set_cons_succ]))
    refine (hZ.out _).mono ?_
    rintro e w1 ⟨rfl, hb1⟩
    have hC1 := hid (hC0.out.below hb1 hC0.out.lt)
    have hD1 := hid (hD0.out.below hb1 hD0.out.lt)
    have hb2 := hb0.trans (hb1.mono hb0.size)
    clear hA0 hB0 hC0 hD0 hb0 hb1
    go_wp2_with (first | (refine wpList_load_row rfl 24 (.tmp 5) rfl (w.heap.size + 2) rfl 24 _ (0, 0) _ hC1.out uWd rfl iD.out ?_; simp only [Act.put, List.setIfInBounds_toArray, List.set_cons_zero, List.set_cons_succ]) | (refine wpList_store_row rfl 24 (.tmp 6) (.tmp 12) rfl (w.heap.size + 3) _ rfl rfl 24 _ hD1.out iD.out rfl nD.out ?_; simp only [Act.put]))
    refine bodyPost_ret (results_cell_row rfl _ _ (w.heap.size + 3) 24 (cellsW d) (0, 0) _ rfl (heap_setRow' _ _ _ _ _ hD1.out) uWd rfl iD.out) rfl ⟨rfl, below_setRow' hb2 _ (by omega) _⟩
  · have HY := hid (show modW (a * b) d = a * b % d by unfold modW; rw [if_neg h0])
    rw [decide_eq_false h0] at hZ
    rw [HY.out]
    have hF := hid (fun w => wfull_any a b w ha hb)
    have hab : a * b < 2 ^ (64 * 8) := by
      have := Nat.mul_lt_mul'' ha hb
      rw [← Nat.pow_add, show 256 + 256 = 64 * 8 from rfl] at this; exact this
    have hDv := hid (fun v w hr => divide_any 8 (a * b) d v w hr hab (by omega) (by omega) (Nat.pos_of_ne_zero h0) hd256)
    obtain ⟨s, hs⟩ : ∃ s, s = a * b := ⟨_, rfl⟩
    obtain ⟨r, hr⟩ : ∃ r, r = s % d := ⟨_, rfl⟩
    rw [← hs] at hF hDv ⊢
    rw [← hr] at hDv ⊢
    clear ha hb h0 HY hd256 hab hs hr
    unfold wd at *
    have iR := hid (iW r)
    have nR := hid (one_cellsW r)
    have iP := hid (iM8 s)
    have nP := hid (one_cellsM 8 s)
    have hA0 := hid (show ArrW 24 ((((w.alloc (.cells (cellsW a) 24)).alloc (.cells (cellsW b) 24)).alloc (.cells (cellsW d) 24)).alloc (.cells (cellsW 0) 24)) w.heap.size a from (((ArrW.new _ w a).alloc _).alloc _).alloc _)
    have hB0 := hid (show ArrW 24 ((((w.alloc (.cells (cellsW a) 24)).alloc (.cells (cellsW b) 24)).alloc (.cells (cellsW d) 24)).alloc (.cells (cellsW 0) 24)) (w.heap.size + 1) b by
      have := ArrW.new 24 (w.alloc (.cells (cellsW a) 24)) b
      rw [World.size_alloc] at this; exact (this.alloc _).alloc _)
    have hC0 := hid (show ArrW 24 ((((w.alloc (.cells (cellsW a) 24)).alloc (.cells (cellsW b) 24)).alloc (.cells (cellsW d) 24)).alloc (.cells (cellsW 0) 24)) (w.heap.size + 2) d by
      have := ArrW.new 24 ((w.alloc (.cells (cellsW a) 24)).alloc (.cells (cellsW b) 24)) d
      rw [World.size_alloc, World.size_alloc] at this; exact this.alloc _)
    have hD0 := hid (show ArrW 24 ((((w.alloc (.cells (cellsW a) 24)).alloc (.cells (cellsW b) 24)).alloc (.cells (cellsW d) 24)).alloc (.cells (cellsW 0) 24)) (w.heap.size + 3) 0 by
      have := ArrW.new 24 (((w.alloc (.cells (cellsW a) 24)).alloc (.cells (cellsW b) 24)).alloc (.cells (cellsW d) 24)) 0
      rw [World.size_alloc, World.size_alloc, World.size_alloc] at this; exact this)
    have hb0 : Below w.heap.size w ((((w.alloc (.cells (cellsW a) 24)).alloc (.cells (cellsW b) 24)).alloc (.cells (cellsW d) 24)).alloc (.cells (cellsW 0) 24)) := ((((Below.refl _ _).alloc (Nat.le_refl _) _).alloc (by simp) _).alloc (by simp; omega) _).alloc (by simp; omega) _
    go_enter Try.func72, Try.ntmps72
    go_wp2_with (first | (refine wpList_alloc_new rfl 24 rfl (cellsW 0) zWd ?_; simp only [Act.put, List.setIfInBounds_toArray, List.set_cons_zero, List.set_cons_succ, World.size_alloc]) | (refine wpList_load_row rfl 24 (.tmp 5) rfl (w.heap.size + 2) rfl 24 _ (0, 0) _ hC0.out uWd rfl iD.out ?_; simp only [Act.put, List.setIfInBounds_toArray, List.set_cons_zero, List.set_cons_succ]))
    refine (hZ.out _).mono ?_
    rintro e w1 ⟨rfl, hb1⟩
    have hA1 := hid (hA0.out.below hb1 hA0.out.lt)
    have hB1 := hid (hB0.out.below hb1 hB0.out.lt)
    have hC1 := hid (hC0.out.below hb1 hC0.out.lt)
    have hD1 := hid (hD0.out.below hb1 hD0.out.lt)
    have hb2 := hb0.trans (hb1.mono hb0.size)
    clear hA0 hB0 hC0 hD0 hb0 hb1
    go_wp2_with (first | (refine wpList_load_row rfl 24 (.tmp 3) rfl w.heap.size rfl 24 _ (0, 0) _ hA1.out uWd rfl iA.out ?_; simp only [Act.put, List.setIfInBounds_toArray, List.set_cons_zero, List.set_cons_succ]) | (refine wpList_load_row rfl 24 (.tmp 4) rfl (w.heap.size + 1) rfl 24 _ (0, 0) _ hB1.out uWd rfl iB.out ?_; simp only [Act.put, List.setIfInBounds_toArray, List.set_cons_zero, List.set_cons_succ]))
    refine (hF.out _).mono ?_
    rintro e w2 ⟨rfl, hb3⟩
    have hC2 := hid ((hC1.out.below hb3 hC1.out.lt).alloc (.cells (cellsM 8 s) 69))
    have hD2 := hid ((hD1.out.below hb3 hD1.out.lt).alloc (.cells (cellsM 8 s) 69))
    have hP2 := hid (ArrM.new 69 8 w2 s)
    have hb4 := hb2.trans (hb3.mono hb2.size)
    have hb5 := hb4.alloc hb4.size (.cells (cellsM 8 s) 69)
    have hsz : w.heap.size + 4 ≤ w2.heap.size := by have h1 := (hD1.out.below hb3 hD1.out.lt).lt; omega
    clear hA1 hB1 hC1 hD1 hb2 hb3
    go_wp2_with (first | (refine wpList_allocStore 69 15 7 (cellsM 8 s) (cellsM 8 0) rfl rfl rfl rfl rfl rfl (by decide) (by simp) rfl (by kernel_rfl) (by rw [size_cellsM, size_cellsM]) iP.out nP.out ?_; simp only [Act.put, List.setIfInBounds_toArray, List.set_cons_zero, List.set_cons_succ]))
    have hrd := hid (hP2.out.rd 8 (by omega))
    generalize hw3 : w2.alloc (.cells (cellsM 8 s) 69) = w3 at hC2 hD2 hP2 hb5 hrd ⊢
    have hsz3 : w2.heap.size ≤ w3.heap.size := by rw [← hw3]; simp
    refine wp_region_loose_tail 8 [.kn (.slice (some ⟨w2.heap.size, 0, none⟩) 8 8), .kn (.agg (cellsW (d))), .lo (fun v _ => ∃ q, v = .tuple #[q, .agg (cellsW r)]), .lo (fun v _ => ∃ q, v = .tuple #[q, .agg (cellsW r)]), .lo (fun _ _ => True), .kn (.agg (cellsW (r))), .lo (fun v w => ∃ b, v = .pointer (some ⟨b, 0, none⟩) ∧ ArrW 24 w b 0 ∧ w2.heap.size ≤ b), .lo (fun _ _ => True)] (by kernel_rfl) (by kernel_rfl) (by kernel_rfl) ?_ ?_
    · refine keepsAll_kn (keepsAll_kn (keepsAll_lo (fun _ _ _ h _ => h) (keepsAll_lo (fun _ _ _ h _ => h) (keepsAll_lo (fun _ _ _ h _ => h) (keepsAll_kn (keepsAll_lo ?_ (keepsAll_lo (fun _ _ _ h _ => h) trivial)))))))
      rintro v w w' ⟨b, h1, h2, h3⟩ hb
      exact ⟨b, h1, h2.below hb h2.lt, h3⟩
    simp only [List.take_succ_cons, List.take_zero, List.drop_succ_cons, List.drop_zero]
    (refine loose_step_on rfl (fun W' hB' hd K hK => ?_) ?_; (focus (clear hd; go_simp; exact hK _ _ (Below.refl _ _) rfl)); rintro _ rfl; simp only [Act.put, List.setIfInBounds_toArray, List.set_cons_zero, List.set_cons_succ])
    (refine loose_step_on rfl (fun W' hB' hd K hK => wp_load_block 24 (.tmp 5) rfl (w.heap.size + 2) rfl 24 _ _ (ArrW.below hC2.out hB' (ArrW.lt hC2.out)) uWd rfl iD.out (hK _ _ (Below.refl _ _) rfl)) ?_; rintro _ rfl; simp only [Act.put, List.setIfInBounds_toArray, List.set_cons_zero, List.set_cons_succ])
    (refine loose_step_on rfl (fun W' hB' hd K hK => ?_) ?_; (focus (clear hd; go_simp; refine (hDv.out _ _ (hrd.out.below hB')).mono ?_; rintro _ _ ⟨gq, rfl, h1, h2, h3⟩; exact hK _ _ h3 ⟨_, rfl⟩)); intro v19 _; simp only [Act.put, List.setIfInBounds_toArray, List.set_cons_zero, List.set_cons_succ])
    (refine loose_step_on rfl (fun W' hB' hd K hK => ?_) ?_; (focus (have g19 : ∃ q, v19 = .tuple #[q, .agg (cellsW r)] := hd ⟨2, Ground.data⟩ (by simp) rfl _ 19 rfl rfl (by simp); clear hd; go_simp; exact hK _ _ (Below.refl _ _) g19)); intro v16 _; simp only [Act.put, List.setIfInBounds_toArray, List.set_cons_zero, List.set_cons_succ])
    (refine loose_step_on rfl (fun W' hB' hd K hK => ?_) ?_; (focus (have g16 : ∃ q, v16 = .tuple #[q, .agg (cellsW r)] := hd ⟨3, Ground.data⟩ (by simp) rfl _ 16 rfl rfl (by simp); clear hd; obtain ⟨x1, rfl⟩ := g16; go_simp; exact hK _ _ (Below.refl _ _) trivial)); intro v20 _; simp only [Act.put, List.setIfInBounds_toArray, List.set_cons_zero, List.set_cons_succ])
    (refine loose_step_on rfl (fun W' hB' hd K hK => ?_) ?_; (focus (have g16 : ∃ q, v16 = .tuple #[q, .agg (cellsW r)] := hd ⟨3, Ground.data⟩ (by simp) rfl _ 16 rfl rfl (by simp); clear hd; obtain ⟨x1, rfl⟩ := g16; go_simp; exact hK _ _ (Below.refl _ _) rfl)); rintro _ rfl; simp only [Act.put, List.setIfInBounds_toArray, List.set_cons_zero, List.set_cons_succ])
    (refine loose_step_on rfl (fun W' hB' hd K hK => wp_alloc_new 24 rfl (cellsW 0) zWd (hK _ _ ((Below.refl _ _).alloc (Nat.le_refl _) _) ⟨_, rfl, ArrW.new _ _ _, Nat.le_trans hsz3 hB'.size⟩)) ?_; intro v9 _; simp only [Act.put, List.setIfInBounds_toArray, List.set_cons_zero, List.set_cons_succ])
    (refine loose_step_on rfl (fun W' hB' hd K hK => ?_) ?_; (focus (clear hd; go_simp; exact hK _ _ (Below.refl _ _) trivial)); intro v8 _; simp only [Act.put, List.setIfInBounds_toArray, List.set_cons_zero, List.set_cons_succ])
    intro w6 hb6 hf
    have g9 : ∃ b, v9 = .pointer (some ⟨b, 0, none⟩) ∧ ArrW 24 w6 b 0 ∧ w2.heap.size ≤ b := hf 6 _ 9 (by first | omega | simp) rfl rfl (by simp)
    clear hf
    obtain ⟨bb, rfl, hR6, hle⟩ := g9
    have hD6 := hid ((hD2.out.below hb6 hD2.out.lt).otherRow (show w.heap.size + 3 ≠ bb by omega) (cellsW r))
    have HR := hid hR6
    have HR2 := hid (hR6.row r)
    have hb7 := below_setRow' (hb5.trans (hb6.mono hb5.size)) bb (by omega) (cellsW r)
    clear hb6 hC2 hD2 hP2 hrd hR6
    go_wp2_with (first | (refine wpList_store_row rfl 24 (.tmp 9) (.tmp 21) rfl bb _ rfl rfl 24 _ HR.out iR.out rfl nR.out ?_; simp only [Act.put]) | (refine wpList_load_row rfl 24 (.tmp 9) rfl bb rfl 24 _ (0, 0) _ HR2.out uWd rfl iR.out ?_; simp only [Act.put, List.setIfInBounds_toArray, List.set_cons_zero, List.set_cons_succ]) | (refine wpList_store_row rfl 24 (.tmp 6) (.tmp 22) rfl (w.heap.size + 3) _ rfl rfl 24 _ hD6.out iR.out rfl nR.out ?_; simp only [Act.put]))
    refine bodyPost_ret (results_cell_row rfl _ _ (w.heap.size + 3) 24 (cellsW r) (0, 0) _ rfl (heap_setRow' _ _ _ _ _ hD6.out) uWd rfl iR.out) rfl ⟨rfl, below_setRow' hb7 _ (by omega) _⟩

set_option maxHeartbeats 4000000 in
theorem wparts_any (a b : Nat) (w : World) (ha : a < 2 ^ 256) (hb256 : b < 2 ^ 256) : Calls Try.prog 115 #[wd a, wd b] w fun e w' => e = .returned (.tuple #[wd (a / b), wd (modW a b)]) ∧ Below w.heap.size w w' := by
  have hZ := hid (fun w => wzero_any b hb256 w)
  have iA := hid (iW a)
  have iB := hid (iW b)
  have nB := hid (one_cellsW b)
  by_cases h0 : b = 0
  · have HY := hid (show modW a b = b by unfold modW; rw [if_pos h0, h0])
    have HQ := hid (show a / b = b by rw [h0, Nat.div_zero])
    rw [decide_eq_true h0] at hZ
    rw [HY.out, HQ.out]
    clear h0 HY HQ ha hb256
    unfold wd at *
    have hA0 := hid (show ArrW 24 ((((w.alloc (.cells (cellsW a) 24)).alloc (.cells (cellsW b) 24)).alloc (.cells (cellsW 0) 24)).alloc (.cells (cellsW 0) 24)) w.heap.size a from (((ArrW.new _ w a).alloc _).alloc _).alloc _)
    have hB0 := hid (show ArrW 24 ((((w.alloc (.cells (cellsW a) 24)).alloc (.cells (cellsW b) 24)).alloc (.cells (cellsW 0) 24)).alloc (.cells (cellsW 0) 24)) (w.heap.size + 1) b by
      have := ArrW.new 24 (w.alloc (.cells (cellsW a) 24)) b
      rw [World.size_alloc] at this; exact (this.alloc _).alloc _)
    have hC0 := hid (show ArrW 24 ((((w.alloc (.cells (cellsW a) 24)).alloc (.cells (cellsW b) 24)).alloc (.cells (cellsW 0) 24)).alloc (.cells (cellsW 0) 24)) (w.heap.size + 2) 0 by
      have := ArrW.new 24 ((w.alloc (.cells (cellsW a) 24)).alloc (.cells (cellsW b) 24)) 0
      rw [World.size_alloc, World.size_alloc] at this; exact this.alloc _)
    have hD0 := hid (show ArrW 24 ((((w.alloc (.cells (cellsW a) 24)).alloc (.cells (cellsW b) 24)).alloc (.cells (cellsW 0) 24)).alloc (.cells (cellsW 0) 24)) (w.heap.size + 3) 0 by
      have := ArrW.new 24 (((w.alloc (.cells (cellsW a) 24)).alloc (.cells (cellsW b) 24)).alloc (.cells (cellsW 0) 24)) 0
      rw [World.size_alloc, World.size_alloc, World.size_alloc] at this; exact this)
    have hb0 : Below w.heap.size w ((((w.alloc (.cells (cellsW a) 24)).alloc (.cells (cellsW b) 24)).alloc (.cells (cellsW 0) 24)).alloc (.cells (cellsW 0) 24)) := ((((Below.refl _ _).alloc (Nat.le_refl _) _).alloc (by simp) _).alloc (by simp; omega) _).alloc (by simp; omega) _
    go_enter Try.func115, Try.ntmps115
    go_wp2_with (first | (refine wpList_alloc_new rfl 24 rfl (cellsW 0) zWd ?_; simp only [Act.put, List.setIfInBounds_toArray, List.set_cons_zero, List.set_cons_succ, World.size_alloc]) | (refine wpList_load_row rfl 24 (.tmp 3) rfl (w.heap.size + 1) rfl 24 _ (0, 0) _ hB0.out uWd rfl iB.out ?_; simp only [Act.put, List.setIfInBounds_toArray, List.set_cons_zero, List.set_cons_succ]))
    refine (hZ.out _).mono ?_
    rintro e w1 ⟨rfl, hb1⟩
    have hB1 := hid (hB0.out.below hb1 hB0.out.lt)
    have hC1 := hid (hC0.out.below hb1 hC0.out.lt)
    have hD1 := hid (hD0.out.below hb1 hD0.out.lt)
    have hb2 := hb0.trans (hb1.mono hb0.size)
    clear hA0 hB0 hC0 hD0 hb0 hb1
    go_wp2_with fail
    (try simp only [World.size_alloc])
    (refine wp_region_ext_float 2 1 [0] [_] _ _ _ rfl rfl rfl rfl (by kernel_rfl) (by kernel_rfl) ?_; (repeat (first | (refine wpQuiet_load_part rfl 24 (.tmp 3) rfl (w.heap.size + 1) 0 rfl 24 _ (cellsW _) (0, 0) _ hB1.out (fun j v h => by rw [Nat.zero_add]; exact h) uWd rfl iB.out ?_; simp only [Act.put, List.setIfInBounds_toArray, List.set_cons_zero, List.set_cons_succ]) | go_big_quiet_step (first | fail))); refine wpQuiet_nil ?_; refine ⟨?_, ?_⟩; rotate_left; rintro _ ⟨xw, rfl⟩; rotate_left; (repeat (first | (refine wpQuiet_load_part rfl 24 (.tmp 3) rfl (w.heap.size + 1) 0 rfl 24 _ (cellsW _) (0, 0) _ hB1.out (fun j v h => by rw [Nat.zero_add]; exact h) uWd rfl iB.out ?_; simp only [Act.put, List.setIfInBounds_toArray, List.set_cons_zero, List.set_cons_succ]) | go_big_quiet_step (first | fail))); refine wpQuiet_nil ?_; rintro _ ⟨xw, rfl⟩)
    all_goals
      have hC2 := hid (hC1.out.ext xw)
      have hD2 := hid (hD1.out.ext xw)
      have hD3 := hid (hD2.out.otherRow (show w.heap.size + 3 ≠ w.heap.size + 2 by omega) (cellsW b))
      have hB2 := hid ((hB1.out.ext xw).otherRow (show w.heap.size + 1 ≠ w.heap.size + 2 by omega) (cellsW b))
      have hb3 := World.ext_below_of hb2 hb2.size xw
      go_wp2_with (first | (refine wpList_store_row rfl 24 (.tmp 4) (.tmp 10) rfl (w.heap.size + 2) _ rfl rfl 24 _ hC2.out iB.out rfl nB.out ?_; simp only [Act.put]) | (refine wpList_load_row rfl 24 (.tmp 3) rfl (w.heap.size + 1) rfl 24 _ (0, 0) _ hB2.out uWd rfl iB.out ?_; simp only [Act.put, List.setIfInBounds_toArray, List.set_cons_zero, List.set_cons_succ]) | (refine wpList_store_row rfl 24 (.tmp 5) (.tmp 11) rfl (w.heap.size + 3) _ rfl rfl 24 _ hD3.out iB.out rfl nB.out ?_; simp only [Act.put]))
      refine bodyPost_ret (results_row_row rfl _ _ (w.heap.size + 2) (w.heap.size + 3) 24 24 (cellsW b) (cellsW b) (0, 0) (0, 0) _ _ rfl ((hC2.out.row b).otherRow (show w.heap.size + 2 ≠ w.heap.size + 3 by omega) _) rfl (hD3.out.row b) uWd rfl iB.out uWd rfl iB.out) rfl ⟨rfl, below_setRow' (below_setRow' hb3 _ (by omega) _) _ (by omega) _⟩
  · have HY := hid (show modW a b = a % b by unfold modW; rw [if_neg h0])
    rw [decide_eq_false h0] at hZ
    rw [HY.out]
    have hDv := hid (fun v w hr => divide_any 4 a b v w hr ha (by omega) (by omega) (Nat.pos_of_ne_zero h0) hb256)
    obtain ⟨q, hq⟩ : ∃ q, q = a / b := ⟨_, rfl⟩
    obtain ⟨r, hr⟩ : ∃ r, r = a % b := ⟨_, rfl⟩
    rw [← hr, ← hq] at hDv ⊢
    clear ha h0 HY hb256 hq hr
    unfold wd at *
    have iR := hid (iW r)
    have nR := hid (one_cellsW r)
    have iQ := hid (iW q)
    have nQ := hid (one_cellsW q)
    have hA0 := hid (show ArrW 24 ((((w.alloc (.cells (cellsW a) 24)).alloc (.cells (cellsW b) 24)).alloc (.cells (cellsW 0) 24)).alloc (.cells (cellsW 0) 24)) w.heap.size a from (((ArrW.new _ w a).alloc _).alloc _).alloc _)
    have hB0 := hid (show ArrW 24 ((((w.alloc (.cells (cellsW a) 24)).alloc (.cells (cellsW b) 24)).alloc (.cells (cellsW 0) 24)).alloc (.cells (cellsW 0) 24)) (w.heap.size + 1) b by
      have := ArrW.new 24 (w.alloc (.cells (cellsW a) 24)) b
      rw [World.size_alloc] at this; exact (this.alloc _).alloc _)
    have hC0 := hid (show ArrW 24 ((((w.alloc (.cells (cellsW a) 24)).alloc (.cells (cellsW b) 24)).alloc (.cells (cellsW 0) 24)).alloc (.cells (cellsW 0) 24)) (w.heap.size + 2) 0 by
      have := ArrW.new 24 ((w.alloc (.cells (cellsW a) 24)).alloc (.cells (cellsW b) 24)) 0
      rw [World.size_alloc, World.size_alloc] at this; exact this.alloc _)
    have hD0 := hid (show ArrW 24 ((((w.alloc (.cells (cellsW a) 24)).alloc (.cells (cellsW b) 24)).alloc (.cells (cellsW 0) 24)).alloc (.cells (cellsW 0) 24)) (w.heap.size + 3) 0 by
      have := ArrW.new 24 (((w.alloc (.cells (cellsW a) 24)).alloc (.cells (cellsW b) 24)).alloc (.cells (cellsW 0) 24)) 0
      rw [World.size_alloc, World.size_alloc, World.size_alloc] at this; exact this)
    have hb0 : Below w.heap.size w ((((w.alloc (.cells (cellsW a) 24)).alloc (.cells (cellsW b) 24)).alloc (.cells (cellsW 0) 24)).alloc (.cells (cellsW 0) 24)) := ((((Below.refl _ _).alloc (Nat.le_refl _) _).alloc (by simp) _).alloc (by simp; omega) _).alloc (by simp; omega) _
    go_enter Try.func115, Try.ntmps115
    go_wp2_with (first | (refine wpList_alloc_new rfl 24 rfl (cellsW 0) zWd ?_; simp only [Act.put, List.setIfInBounds_toArray, List.set_cons_zero, List.set_cons_succ, World.size_alloc]) | (refine wpList_load_row rfl 24 (.tmp 3) rfl (w.heap.size + 1) rfl 24 _ (0, 0) _ hB0.out uWd rfl iB.out ?_; simp only [Act.put, List.setIfInBounds_toArray, List.set_cons_zero, List.set_cons_succ]))
    refine (hZ.out _).mono ?_
    rintro e w1 ⟨rfl, hb1⟩
    have hA1 := hid (hA0.out.below hb1 hA0.out.lt)
    have hB1 := hid (hB0.out.below hb1 hB0.out.lt)
    have hC1 := hid (hC0.out.below hb1 hC0.out.lt)
    have hD1 := hid (hD0.out.below hb1 hD0.out.lt)
    have hb2 := hb0.trans (hb1.mono hb0.size)
    have hsz : w.heap.size + 4 ≤ w1.heap.size := by have h1 := hD1.out.lt; omega
    have hrd := hid (hA1.out.toM.rd 4 (by omega))
    clear hA0 hB0 hC0 hD0 hb0 hb1
    go_wp2_with fail
    (try simp only [World.size_alloc])
    refine wp_region_loose_tail 8 [.kn (.slice (some ⟨w.heap.size, 0, none⟩) 4 4), .kn (.agg (cellsW (b))), .lo (fun v w => ∃ g, v = .tuple #[.slice (some ⟨g, 0, none⟩) 4 4, .agg (cellsW r)] ∧ ArrM 22 4 w g q ∧ w1.heap.size ≤ g), .lo (fun v w => ∃ g, v = .tuple #[.slice (some ⟨g, 0, none⟩) 4 4, .agg (cellsW r)] ∧ ArrM 22 4 w g q ∧ w1.heap.size ≤ g), .lo (fun v w => ∃ g, v = .slice (some ⟨g, 0, none⟩) 4 4 ∧ ArrM 22 4 w g q ∧ w1.heap.size ≤ g), .kn (.agg (cellsW (r))), .lo (fun v w => ∃ b, v = .pointer (some ⟨b, 0, none⟩) ∧ ArrW 24 w b 0 ∧ w1.heap.size ≤ b), .lo (fun v w => ∃ g, v = .slice (some ⟨g, 0, none⟩) 4 4 ∧ ArrM 22 4 w g q ∧ w1.heap.size ≤ g)] (by kernel_rfl) (by kernel_rfl) (by kernel_rfl) ?_ ?_
    · have hk : ∀ (f : Nat → Value) (v : Value) (w w' : World), (∃ g, v = f g ∧ ArrM 22 4 w g q ∧ w1.heap.size ≤ g) → Below w.heap.size w w' → ∃ g, v = f g ∧ ArrM 22 4 w' g q ∧ w1.heap.size ≤ g := by
        rintro f v w w' ⟨g, h1, h2, h3⟩ hb
        exact ⟨g, h1, h2.below hb h2.lt, h3⟩
      refine keepsAll_kn (keepsAll_kn (keepsAll_lo (hk _) (keepsAll_lo (hk _) (keepsAll_lo (hk _) (keepsAll_kn (keepsAll_lo ?_ (keepsAll_lo (hk _) trivial)))))))
      rintro v w w' ⟨b, h1, h2, h3⟩ hb
      exact ⟨b, h1, h2.below hb h2.lt, h3⟩
    simp only [List.take_succ_cons, List.take_zero, List.drop_succ_cons, List.drop_zero]
    (refine loose_step_on rfl (fun W' hB' hd K hK => ?_) ?_; (focus (clear hd; go_simp; exact hK _ _ (Below.refl _ _) rfl)); rintro _ rfl; simp only [Act.put, List.setIfInBounds_toArray, List.set_cons_zero, List.set_cons_succ])
    (refine loose_step_on rfl (fun W' hB' hd K hK => wp_load_block 24 (.tmp 3) rfl (w.heap.size + 1) rfl 24 _ _ (ArrW.below hB1.out hB' (ArrW.lt hB1.out)) uWd rfl iB.out (hK _ _ (Below.refl _ _) rfl)) ?_; rintro _ rfl; simp only [Act.put, List.setIfInBounds_toArray, List.set_cons_zero, List.set_cons_succ])
    (refine loose_step_on rfl (fun W' hB' hd K hK => ?_) ?_; (focus (clear hd; go_simp; refine (hDv.out _ _ (hrd.out.below hB')).mono ?_; rintro _ _ ⟨gq, rfl, h1, h2, h3⟩; exact hK _ _ h3 ⟨_, rfl, h1, Nat.le_trans hB'.size h2⟩)); intro v15 _; simp only [Act.put, List.setIfInBounds_toArray, List.set_cons_zero, List.set_cons_succ])
    (refine loose_step_on rfl (fun W' hB' hd K hK => ?_) ?_; (focus (have g15 : ∃ g, v15 = .tuple #[.slice (some ⟨g, 0, none⟩) 4 4, .agg (cellsW r)] ∧ ArrM 22 4 W' g q ∧ w1.heap.size ≤ g := hd ⟨2, Ground.data⟩ (by simp) rfl _ 15 rfl rfl (by simp); clear hd; go_simp; exact hK _ _ (Below.refl _ _) g15)); intro v12 _; simp only [Act.put, List.setIfInBounds_toArray, List.set_cons_zero, List.set_cons_succ])
    (refine loose_step_on rfl (fun W' hB' hd K hK => ?_) ?_; (focus (have g12 : ∃ g, v12 = .tuple #[.slice (some ⟨g, 0, none⟩) 4 4, .agg (cellsW r)] ∧ ArrM 22 4 W' g q ∧ w1.heap.size ≤ g := hd ⟨3, Ground.data⟩ (by simp) rfl _ 12 rfl rfl (by simp); clear hd; obtain ⟨x1, rfl, x2, x3⟩ := g12; go_simp; exact hK _ _ (Below.refl _ _) ⟨_, rfl, x2, x3⟩)); intro v16 _; simp only [Act.put, List.setIfInBounds_toArray, List.set_cons_zero, List.set_cons_succ])
    (refine loose_step_on rfl (fun W' hB' hd K hK => ?_) ?_; (focus (have g12 : ∃ g, v12 = .tuple #[.slice (some ⟨g, 0, none⟩) 4 4, .agg (cellsW r)] ∧ ArrM 22 4 W' g q ∧ w1.heap.size ≤ g := hd ⟨3, Ground.data⟩ (by simp) rfl _ 12 rfl rfl (by simp); clear hd; obtain ⟨x1, rfl, x2, x3⟩ := g12; go_simp; exact hK _ _ (Below.refl _ _) rfl)); rintro _ rfl; simp only [Act.put, List.setIfInBounds_toArray, List.set_cons_zero, List.set_cons_succ])
    (refine loose_step_on rfl (fun W' hB' hd K hK => wp_alloc_new 24 rfl (cellsW 0) zWd (hK _ _ ((Below.refl _ _).alloc (Nat.le_refl _) _) ⟨_, rfl, ArrW.new _ _ _, hB'.size⟩)) ?_; intro v7 _; simp only [Act.put, List.setIfInBounds_toArray, List.set_cons_zero, List.set_cons_succ])
    (refine loose_step_on rfl (fun W' hB' hd K hK => ?_) ?_; (focus (have g16 : ∃ g, v16 = .slice (some ⟨g, 0, none⟩) 4 4 ∧ ArrM 22 4 W' g q ∧ w1.heap.size ≤ g := hd ⟨4, Ground.data⟩ (by simp) rfl _ 16 rfl rfl (by simp); clear hd; go_simp; exact hK _ _ (Below.refl _ _) g16)); intro v6 _; simp only [Act.put, List.setIfInBounds_toArray, List.set_cons_zero, List.set_cons_succ])
    intro w6 hb6 hf
    have g7 : ∃ b, v7 = .pointer (some ⟨b, 0, none⟩) ∧ ArrW 24 w6 b 0 ∧ w1.heap.size ≤ b := hf 6 _ 7 (by first | omega | simp) rfl rfl (by simp)
    have g6 : ∃ g, v6 = .slice (some ⟨g, 0, none⟩) 4 4 ∧ ArrM 22 4 w6 g q ∧ w1.heap.size ≤ g := hf 7 _ 6 (by first | omega | simp) rfl rfl (by simp)
    clear hf
    obtain ⟨bb, rfl, hR6, hle⟩ := g7
    obtain ⟨gq, rfl, hQ6, hle2⟩ := g6
    have hne : gq ≠ bb := by
      intro e
      subst e
      unfold ArrM at hQ6
      unfold ArrW at hR6
      rw [hQ6] at hR6
      simp at hR6
    have hC6 := hid ((hC1.out.below hb6 hC1.out.lt).otherRow (show w.heap.size + 2 ≠ bb by omega) (cellsW r))
    have hD6 := hid ((hD1.out.below hb6 hD1.out.lt).otherRow (show w.heap.size + 3 ≠ bb by omega) (cellsW r))
    have HR := hid hR6
    have HR2 := hid (hR6.row r)
    have HQ2 := hid (show ArrM 22 4 (w6.setRow bb (cellsW r)) gq q by
      unfold ArrM at *
      simp only [World.setRow, Array.getElem?_modify]
      rw [if_neg (fun e => hne e.symm)]; exact hQ6)
    have hb7 := below_setRow' (hb2.trans (hb6.mono hb2.size)) bb (by omega) (cellsW r)
    clear hb6 hC1 hD1 hrd hR6 hQ6 hA1 hB1 hb2
    go_wp2_with (first | (refine wpList_store_row rfl 24 (.tmp 7) (.tmp 17) rfl bb _ rfl rfl 24 _ HR.out iR.out rfl nR.out ?_; simp only [Act.put]))
    (refine wp_region_ext_float 4 3 [0, 1, 2] [_, _, _] _ _ _ rfl rfl rfl rfl (by kernel_rfl) (by kernel_rfl) ?_; (repeat (first | (refine wpQuiet_load_part rfl 24 (.tmp 19) rfl gq 0 rfl 22 _ (cellsW q) (0, 0) _ HQ2.out (fun j v h => by rw [Nat.zero_add]; exact h) uWd rfl iQ.out ?_; simp only [Act.put, List.setIfInBounds_toArray, List.set_cons_zero, List.set_cons_succ]) | (refine wpQuiet_load_part rfl 24 (.tmp 7) rfl bb 0 rfl 24 _ (cellsW _) (0, 0) _ HR2.out (fun j v h => by rw [Nat.zero_add]; exact h) uWd rfl iR.out ?_; simp only [Act.put, List.setIfInBounds_toArray, List.set_cons_zero, List.set_cons_succ]) | go_big_quiet_step (first | fail))); refine wpQuiet_nil ?_; refine ⟨?_, ?_⟩; rotate_left; rintro _ ⟨xw, rfl⟩; rotate_left; (repeat (first | (refine wpQuiet_load_part rfl 24 (.tmp 19) rfl gq 0 rfl 22 _ (cellsW q) (0, 0) _ HQ2.out (fun j v h => by rw [Nat.zero_add]; exact h) uWd rfl iQ.out ?_; simp only [Act.put, List.setIfInBounds_toArray, List.set_cons_zero, List.set_cons_succ]) | (refine wpQuiet_load_part rfl 24 (.tmp 7) rfl bb 0 rfl 24 _ (cellsW _) (0, 0) _ HR2.out (fun j v h => by rw [Nat.zero_add]; exact h) uWd rfl iR.out ?_; simp only [Act.put, List.setIfInBounds_toArray, List.set_cons_zero, List.set_cons_succ]) | go_big_quiet_step (first | fail))); refine wpQuiet_nil ?_; rintro _ ⟨xw, rfl⟩)
    all_goals
      have hC7 := hid (hC6.out.ext xw)
      have hD7 := hid (hD6.out.ext xw)
      have hD8 := hid (hD7.out.otherRow (show w.heap.size + 3 ≠ w.heap.size + 2 by omega) (cellsW q))
      have hR8 := hid ((HR2.out.ext xw).otherRow (show bb ≠ w.heap.size + 2 by omega) (cellsW q))
      have hb8 := World.ext_below_of hb7 hb7.size xw
      go_wp2_with (first | (refine wpList_store_row rfl 24 (.tmp 4) (.tmp 20) rfl (w.heap.size + 2) _ rfl rfl 24 _ hC7.out iQ.out rfl nQ.out ?_; simp only [Act.put]) | (refine wpList_load_row rfl 24 (.tmp 7) rfl bb rfl 24 _ (0, 0) _ hR8.out uWd rfl iR.out ?_; simp only [Act.put, List.setIfInBounds_toArray, List.set_cons_zero, List.set_cons_succ]) | (refine wpList_store_row rfl 24 (.tmp 5) (.tmp 21) rfl (w.heap.size + 3) _ rfl rfl 24 _ hD8.out iR.out rfl nR.out ?_; simp only [Act.put]))
      refine bodyPost_ret (results_row_row rfl _ _ (w.heap.size + 2) (w.heap.size + 3) 24 24 (cellsW q) (cellsW r) (0, 0) (0, 0) _ _ rfl ((hC7.out.row q).otherRow (show w.heap.size + 2 ≠ w.heap.size + 3 by omega) _) rfl (hD8.out.row r) uWd rfl iQ.out uWd rfl iR.out) rfl ⟨rfl, below_setRow' (below_setRow' hb8 _ (by omega) _) _ (by omega) _⟩

set_option maxHeartbeats 2000000 in
theorem wdiv_any (a b : Nat) (w : World) (ha : a < 2 ^ 256) (hb : b < 2 ^ 256) : Calls Try.prog 62 #[wd a, wd b] w fun e w' => e = .returned (wd (a / b)) ∧ Below w.heap.size w w' := by
  have hP := hid (fun w => wparts_any a b w ha hb)
  obtain ⟨q, hq⟩ : ∃ q, q = a / b := ⟨_, rfl⟩
  obtain ⟨r, hr⟩ : ∃ r, r = modW a b := ⟨_, rfl⟩
  rw [← hq, ← hr] at hP
  (try rw [← hq])
  (try rw [← hr])
  clear ha hb hq hr
  unfold wd at *
  have iA := hid (iW a)
  have iB := hid (iW b)
  have iQ := hid (iW q)
  have nQ := hid (one_cellsW q)
  have iR := hid (iW r)
  have nR := hid (one_cellsW r)
  have hA0 := hid (show ArrW 24 (((w.alloc (.cells (cellsW a) 24)).alloc (.cells (cellsW b) 24)).alloc (.cells (cellsW 0) 24)) w.heap.size a from ((ArrW.new _ w a).alloc _).alloc _)
  have hB0 := hid (show ArrW 24 (((w.alloc (.cells (cellsW a) 24)).alloc (.cells (cellsW b) 24)).alloc (.cells (cellsW 0) 24)) (w.heap.size + 1) b by
    have := ArrW.new 24 (w.alloc (.cells (cellsW a) 24)) b
    rw [World.size_alloc] at this; exact this.alloc _)
  have hC0 := hid (show ArrW 24 (((w.alloc (.cells (cellsW a) 24)).alloc (.cells (cellsW b) 24)).alloc (.cells (cellsW 0) 24)) (w.heap.size + 2) 0 by
    have := ArrW.new 24 ((w.alloc (.cells (cellsW a) 24)).alloc (.cells (cellsW b) 24)) 0
    rw [World.size_alloc, World.size_alloc] at this; exact this)
  have hb0 : Below w.heap.size w (((w.alloc (.cells (cellsW a) 24)).alloc (.cells (cellsW b) 24)).alloc (.cells (cellsW 0) 24)) := (((Below.refl _ _).alloc (Nat.le_refl _) _).alloc (by simp) _).alloc (by simp; omega) _
  go_enter Try.func62, Try.ntmps62
  go_wp2_with (first | (refine wpList_alloc_new rfl 24 rfl (cellsW 0) zWd ?_; simp only [Act.put, List.setIfInBounds_toArray, List.set_cons_zero, List.set_cons_succ, World.size_alloc]) | (refine wpList_load_row rfl 24 (.tmp 2) rfl w.heap.size rfl 24 _ (0, 0) _ hA0.out uWd rfl iA.out ?_; simp only [Act.put, List.setIfInBounds_toArray, List.set_cons_zero, List.set_cons_succ]) | (refine wpList_load_row rfl 24 (.tmp 3) rfl (w.heap.size + 1) rfl 24 _ (0, 0) _ hB0.out uWd rfl iB.out ?_; simp only [Act.put, List.setIfInBounds_toArray, List.set_cons_zero, List.set_cons_succ]))
  refine (hP.out _).mono ?_
  rintro e w1 ⟨rfl, hb1⟩
  have hC1 := (hC0.out.below hb1 hC0.out.lt).alloc (.cells (cellsW 0) 24)
  have hC2 := hid (hC1.alloc (.cells (cellsW 0) 24))
  have hQ2 := hid ((ArrW.new 24 w1 0).alloc (.cells (cellsW 0) 24))
  have hR2 := hid (show ArrW 24 ((w1.alloc (.cells (cellsW 0) 24)).alloc (.cells (cellsW 0) 24)) (w1.heap.size + 1) 0 by
    have := ArrW.new 24 (w1.alloc (.cells (cellsW 0) 24)) 0
    rw [World.size_alloc] at this; exact this)
  have hb2 := hb0.trans (hb1.mono hb0.size)
  have hb3 := (hb2.alloc hb2.size (.cells (cellsW 0) 24)).alloc (by rw [World.size_alloc]; have := hb2.size; omega) (.cells (cellsW 0) 24)
  have hsz : w.heap.size + 3 ≤ w1.heap.size := by have := (hC0.out.below hb1 hC0.out.lt).lt; omega
  clear hA0 hB0 hC0 hb0 hb1 hC1 hb2
  have hR3 := hid (hR2.out.otherRow (show w1.heap.size + 1 ≠ w1.heap.size by omega) (cellsW q))
  have hQ4 := hid ((hQ2.out.row q).otherRow (show w1.heap.size ≠ w1.heap.size + 1 by omega) (cellsW r))
  have hR4 := hid (hR3.out.row r)
  have hC4 := hid ((hC2.out.otherRow (show w.heap.size + 2 ≠ w1.heap.size by omega) (cellsW q)).otherRow (show w.heap.size + 2 ≠ w1.heap.size + 1 by omega) (cellsW r))
  have hb4 := below_setRow' (below_setRow' hb3 w1.heap.size (by omega) (cellsW q)) (w1.heap.size + 1) (by omega) (cellsW r)
  go_wp2_with (first | (refine wpList_alloc_new rfl 24 rfl (cellsW 0) zWd ?_; simp only [Act.put, List.setIfInBounds_toArray, List.set_cons_zero, List.set_cons_succ, World.size_alloc]) | (refine wpList_store_row rfl 24 (.tmp 5) (.tmp 11) rfl w1.heap.size _ rfl rfl 24 _ hQ2.out iQ.out rfl nQ.out ?_; simp only [Act.put]) | (refine wpList_store_row rfl 24 (.tmp 6) (.tmp 12) rfl (w1.heap.size + 1) _ rfl rfl 24 _ hR3.out iR.out rfl nR.out ?_; simp only [Act.put]) | (refine wpList_load_row rfl 24 (.tmp 5) rfl w1.heap.size rfl 24 _ (0, 0) _ hQ4.out uWd rfl iQ.out ?_; simp only [Act.put, List.setIfInBounds_toArray, List.set_cons_zero, List.set_cons_succ]) | (refine wpList_load_row rfl 24 (.tmp 6) rfl (w1.heap.size + 1) rfl 24 _ (0, 0) _ hR4.out uWd rfl iR.out ?_; simp only [Act.put, List.setIfInBounds_toArray, List.set_cons_zero, List.set_cons_succ]) | (refine wpList_store_row rfl 24 (.tmp 4) (.tmp 13) rfl (w.heap.size + 2) _ rfl rfl 24 _ hC4.out iQ.out rfl nQ.out ?_; simp only [Act.put]) | (refine wpList_store_row rfl 24 (.tmp 4) (.tmp 13) rfl (w.heap.size + 2) _ rfl rfl 24 _ hC4.out iR.out rfl nR.out ?_; simp only [Act.put]))
  refine bodyPost_ret (results_cell_row rfl _ _ (w.heap.size + 2) 24 (cellsW q) (0, 0) _ rfl (heap_setRow' _ _ _ _ _ hC4.out) uWd rfl (iW _)) rfl ⟨rfl, below_setRow' hb4 _ (by omega) _⟩
set_option maxHeartbeats 2000000 in
theorem wmod_any (a b : Nat) (w : World) (ha : a < 2 ^ 256) (hb : b < 2 ^ 256) : Calls Try.prog 64 #[wd a, wd b] w fun e w' => e = .returned (wd (modW a b)) ∧ Below w.heap.size w w' := by
  have hP := hid (fun w => wparts_any a b w ha hb)
  obtain ⟨q, hq⟩ : ∃ q, q = a / b := ⟨_, rfl⟩
  obtain ⟨r, hr⟩ : ∃ r, r = modW a b := ⟨_, rfl⟩
  rw [← hq, ← hr] at hP
  (try rw [← hq])
  (try rw [← hr])
  clear ha hb hq hr
  unfold wd at *
  have iA := hid (iW a)
  have iB := hid (iW b)
  have iQ := hid (iW q)
  have nQ := hid (one_cellsW q)
  have iR := hid (iW r)
  have nR := hid (one_cellsW r)
  have hA0 := hid (show ArrW 24 (((w.alloc (.cells (cellsW a) 24)).alloc (.cells (cellsW b) 24)).alloc (.cells (cellsW 0) 24)) w.heap.size a from ((ArrW.new _ w a).alloc _).alloc _)
  have hB0 := hid (show ArrW 24 (((w.alloc (.cells (cellsW a) 24)).alloc (.cells (cellsW b) 24)).alloc (.cells (cellsW 0) 24)) (w.heap.size + 1) b by
    have := ArrW.new 24 (w.alloc (.cells (cellsW a) 24)) b
    rw [World.size_alloc] at this; exact this.alloc _)
  have hC0 := hid (show ArrW 24 (((w.alloc (.cells (cellsW a) 24)).alloc (.cells (cellsW b) 24)).alloc (.cells (cellsW 0) 24)) (w.heap.size + 2) 0 by
    have := ArrW.new 24 ((w.alloc (.cells (cellsW a) 24)).alloc (.cells (cellsW b) 24)) 0
    rw [World.size_alloc, World.size_alloc] at this; exact this)
  have hb0 : Below w.heap.size w (((w.alloc (.cells (cellsW a) 24)).alloc (.cells (cellsW b) 24)).alloc (.cells (cellsW 0) 24)) := (((Below.refl _ _).alloc (Nat.le_refl _) _).alloc (by simp) _).alloc (by simp; omega) _
  go_enter Try.func64, Try.ntmps64
  go_wp2_with (first | (refine wpList_alloc_new rfl 24 rfl (cellsW 0) zWd ?_; simp only [Act.put, List.setIfInBounds_toArray, List.set_cons_zero, List.set_cons_succ, World.size_alloc]) | (refine wpList_load_row rfl 24 (.tmp 2) rfl w.heap.size rfl 24 _ (0, 0) _ hA0.out uWd rfl iA.out ?_; simp only [Act.put, List.setIfInBounds_toArray, List.set_cons_zero, List.set_cons_succ]) | (refine wpList_load_row rfl 24 (.tmp 3) rfl (w.heap.size + 1) rfl 24 _ (0, 0) _ hB0.out uWd rfl iB.out ?_; simp only [Act.put, List.setIfInBounds_toArray, List.set_cons_zero, List.set_cons_succ]))
  refine (hP.out _).mono ?_
  rintro e w1 ⟨rfl, hb1⟩
  have hC1 := (hC0.out.below hb1 hC0.out.lt).alloc (.cells (cellsW 0) 24)
  have hC2 := hid (hC1.alloc (.cells (cellsW 0) 24))
  have hQ2 := hid ((ArrW.new 24 w1 0).alloc (.cells (cellsW 0) 24))
  have hR2 := hid (show ArrW 24 ((w1.alloc (.cells (cellsW 0) 24)).alloc (.cells (cellsW 0) 24)) (w1.heap.size + 1) 0 by
    have := ArrW.new 24 (w1.alloc (.cells (cellsW 0) 24)) 0
    rw [World.size_alloc] at this; exact this)
  have hb2 := hb0.trans (hb1.mono hb0.size)
  have hb3 := (hb2.alloc hb2.size (.cells (cellsW 0) 24)).alloc (by rw [World.size_alloc]; have := hb2.size; omega) (.cells (cellsW 0) 24)
  have hsz : w.heap.size + 3 ≤ w1.heap.size := by have := (hC0.out.below hb1 hC0.out.lt).lt; omega
  clear hA0 hB0 hC0 hb0 hb1 hC1 hb2
  have hR3 := hid (hR2.out.otherRow (show w1.heap.size + 1 ≠ w1.heap.size by omega) (cellsW q))
  have hQ4 := hid ((hQ2.out.row q).otherRow (show w1.heap.size ≠ w1.heap.size + 1 by omega) (cellsW r))
  have hR4 := hid (hR3.out.row r)
  have hC4 := hid ((hC2.out.otherRow (show w.heap.size + 2 ≠ w1.heap.size by omega) (cellsW q)).otherRow (show w.heap.size + 2 ≠ w1.heap.size + 1 by omega) (cellsW r))
  have hb4 := below_setRow' (below_setRow' hb3 w1.heap.size (by omega) (cellsW q)) (w1.heap.size + 1) (by omega) (cellsW r)
  go_wp2_with (first | (refine wpList_alloc_new rfl 24 rfl (cellsW 0) zWd ?_; simp only [Act.put, List.setIfInBounds_toArray, List.set_cons_zero, List.set_cons_succ, World.size_alloc]) | (refine wpList_store_row rfl 24 (.tmp 5) (.tmp 11) rfl w1.heap.size _ rfl rfl 24 _ hQ2.out iQ.out rfl nQ.out ?_; simp only [Act.put]) | (refine wpList_store_row rfl 24 (.tmp 6) (.tmp 12) rfl (w1.heap.size + 1) _ rfl rfl 24 _ hR3.out iR.out rfl nR.out ?_; simp only [Act.put]) | (refine wpList_load_row rfl 24 (.tmp 5) rfl w1.heap.size rfl 24 _ (0, 0) _ hQ4.out uWd rfl iQ.out ?_; simp only [Act.put, List.setIfInBounds_toArray, List.set_cons_zero, List.set_cons_succ]) | (refine wpList_load_row rfl 24 (.tmp 6) rfl (w1.heap.size + 1) rfl 24 _ (0, 0) _ hR4.out uWd rfl iR.out ?_; simp only [Act.put, List.setIfInBounds_toArray, List.set_cons_zero, List.set_cons_succ]) | (refine wpList_store_row rfl 24 (.tmp 4) (.tmp 13) rfl (w.heap.size + 2) _ rfl rfl 24 _ hC4.out iQ.out rfl nQ.out ?_; simp only [Act.put]) | (refine wpList_store_row rfl 24 (.tmp 4) (.tmp 13) rfl (w.heap.size + 2) _ rfl rfl 24 _ hC4.out iR.out rfl nR.out ?_; simp only [Act.put]))
  refine bodyPost_ret (results_cell_row rfl _ _ (w.heap.size + 2) 24 (cellsW r) (0, 0) _ rfl (heap_setRow' _ _ _ _ _ hC4.out) uWd rfl (iW _)) rfl ⟨rfl, below_setRow' hb4 _ (by omega) _⟩
end Go.Proofs.Ytfidbiabgmioaaa

/-! word: Sdiv, Smod, Addmod. -/
namespace Go.Proofs.Ytfidbiabgmioaaa
open Go.RowKit

theorem modW_lt (a b : Nat) (h : a < 2 ^ 256) : modW a b < 2 ^ 256 := by
  unfold modW; split
  · exact Nat.pow_pos (by omega)
  · exact Nat.lt_of_le_of_lt (Nat.mod_le _ _) h

set_option maxHeartbeats 4000000 in
theorem wsdiv_any (a b : Nat) (w : World) (ha : a < 2 ^ 256) (hb : b < 2 ^ 256) : Calls Try.prog 66 #[wd a, wd b] w fun e w' => e = .returned (wd (sdivW a b)) ∧ Below w.heap.size w w' := by
  have hSA := hid (fun w => wsize_any a w ha)
  have hSB := hid (fun w => wsize_any b w hb)
  have hNA := hid (fun w => wneg_any a w ha)
  have hNB := hid (fun w => wneg_any b w hb)
  have hD := hid (fun w => wdiv_any (sizeW a) (sizeW b) w (sizeW_lt a ha) (sizeW_lt b hb))
  have hq : sizeW a / sizeW b < 2 ^ 256 := Nat.lt_of_le_of_lt (Nat.div_le_self _ _) (sizeW_lt a ha)
  have hT := hid (fun n w => wsigned_any (sizeW a / sizeW b) n w hq)
  have HY := hid (show sdivW a b = signW (sizeW a / sizeW b) (negW a != negW b) from rfl)
  obtain ⟨y, hy⟩ : ∃ y, y = sdivW a b := ⟨_, rfl⟩
  rw [← hy] at HY ⊢
  clear ha hb hq hy
  generalize sizeW a / sizeW b = q at *
  generalize sizeW a = A at *
  generalize sizeW b = B at *
  generalize negW a = n1 at *
  generalize negW b = n2 at *
  unfold wd at *
  have iA := hid (iW a)
  have iB := hid (iW b)
  cases n1 <;> cases n2
  all_goals
    rw [show y = _ from HY.out]
    have iY := hid (iW (signW q false))
    have nY := hid (one_cellsW (signW q false))
    have iZ := hid (iW (signW q true))
    have nZ := hid (one_cellsW (signW q true))
    have hF := hid (hT.out false)
    have hG := hid (hT.out true)
    clear HY hT
    have hA0 := hid (show ArrW 24 (((w.alloc (.cells (cellsW a) 24)).alloc (.cells (cellsW b) 24)).alloc (.cells (cellsW 0) 24)) w.heap.size a from ((ArrW.new _ w a).alloc _).alloc _)
    have hB0 := hid (show ArrW 24 (((w.alloc (.cells (cellsW a) 24)).alloc (.cells (cellsW b) 24)).alloc (.cells (cellsW 0) 24)) (w.heap.size + 1) b by
      have := ArrW.new 24 (w.alloc (.cells (cellsW a) 24)) b
      rw [World.size_alloc] at this; exact this.alloc _)
    have hC0 := hid (show ArrW 24 (((w.alloc (.cells (cellsW a) 24)).alloc (.cells (cellsW b) 24)).alloc (.cells (cellsW 0) 24)) (w.heap.size + 2) 0 by
      have := ArrW.new 24 ((w.alloc (.cells (cellsW a) 24)).alloc (.cells (cellsW b) 24)) 0
      rw [World.size_alloc, World.size_alloc] at this; exact this)
    have hb0 : Below w.heap.size w (((w.alloc (.cells (cellsW a) 24)).alloc (.cells (cellsW b) 24)).alloc (.cells (cellsW 0) 24)) := (((Below.refl _ _).alloc (Nat.le_refl _) _).alloc (by simp) _).alloc (by simp; omega) _
    go_enter Try.func66, Try.ntmps66
    go_wp2_with (refine wpList_alloc_new rfl 24 rfl (cellsW 0) zWd ?_; simp only [Act.put, List.setIfInBounds_toArray, List.set_cons_zero, List.set_cons_succ, World.size_alloc])
    ((try simp only [World.size_alloc]); refine wp_region_ext_tail 11 (by kernel_rfl) (by kernel_rfl) ?_; simp only [List.take_succ_cons, List.take_zero, List.drop_succ_cons, List.drop_zero]; (repeat (first | (refine wpQuiet_load_part rfl 24 (.tmp 2) rfl w.heap.size 0 rfl 24 _ (cellsW _) (0, 0) _ hA0.out (fun j v h => by rw [Nat.zero_add]; exact h) uWd rfl iA.out ?_; simp only [Act.put, List.setIfInBounds_toArray, List.set_cons_zero, List.set_cons_succ]) | (refine wpQuiet_load_part rfl 24 (.tmp 3) rfl (w.heap.size + 1) 0 rfl 24 _ (cellsW _) (0, 0) _ hB0.out (fun j v h => by rw [Nat.zero_add]; exact h) uWd rfl iB.out ?_; simp only [Act.put, List.setIfInBounds_toArray, List.set_cons_zero, List.set_cons_succ]) | go_big_quiet_step (first | (go_at_call 117; with_reducible refine Calls.ext_of (hSA.out _)) | (go_at_call 117; with_reducible refine Calls.ext_of (hSB.out _)) | (go_at_call 107; with_reducible refine Calls.ext_of (hNA.out _)) | (go_at_call 107; with_reducible refine Calls.ext_of (hNB.out _)) | (go_at_call 62; with_reducible refine Calls.ext_of (hD.out _)) | (go_at_call 116; with_reducible refine Calls.ext_of (hF.out _)) | (go_at_call 116; with_reducible refine Calls.ext_of (hG.out _))))); refine wpQuiet_nil ?_; rintro _ ⟨xw, rfl⟩)
    first
    | (go_wp2_with (refine wpList_store_row rfl 24 (.tmp 4) (.tmp 15) rfl (w.heap.size + 2) _ rfl rfl 24 _ (hC0.out.ext _) iY.out rfl nY.out ?_; simp only [Act.put]); refine bodyPost_ret (results_cell_row rfl _ _ (w.heap.size + 2) 24 (cellsW (signW q false)) (0, 0) _ rfl (heap_setRow' _ _ _ _ _ (hC0.out.ext _)) uWd rfl iY.out) rfl ⟨rfl, below_setRow' (World.ext_below_of hb0 hb0.size _) _ (by omega) _⟩)
    | (go_wp2_with (refine wpList_store_row rfl 24 (.tmp 4) (.tmp 15) rfl (w.heap.size + 2) _ rfl rfl 24 _ (hC0.out.ext _) iZ.out rfl nZ.out ?_; simp only [Act.put]); refine bodyPost_ret (results_cell_row rfl _ _ (w.heap.size + 2) 24 (cellsW (signW q true)) (0, 0) _ rfl (heap_setRow' _ _ _ _ _ (hC0.out.ext _)) uWd rfl iZ.out) rfl ⟨rfl, below_setRow' (World.ext_below_of hb0 hb0.size _) _ (by omega) _⟩)

set_option maxHeartbeats 4000000 in
theorem wsmod_any (a b : Nat) (w : World) (ha : a < 2 ^ 256) (hb : b < 2 ^ 256) : Calls Try.prog 68 #[wd a, wd b] w fun e w' => e = .returned (wd (smodW a b)) ∧ Below w.heap.size w w' := by
  have hSA := hid (fun w => wsize_any a w ha)
  have hSB := hid (fun w => wsize_any b w hb)
  have hNA := hid (fun w => wneg_any a w ha)
  have hD := hid (fun w => wmod_any (sizeW a) (sizeW b) w (sizeW_lt a ha) (sizeW_lt b hb))
  have hq := modW_lt (sizeW a) (sizeW b) (sizeW_lt a ha)
  have hT := hid (fun w => wsigned_any (modW (sizeW a) (sizeW b)) (negW a) w hq)
  have HY := hid (show smodW a b = signW (modW (sizeW a) (sizeW b)) (negW a) from rfl)
  obtain ⟨y, hy⟩ : ∃ y, y = smodW a b := ⟨_, rfl⟩
  rw [← hy] at HY ⊢
  rw [← HY.out] at hT
  clear ha hb hq hy HY
  generalize modW (sizeW a) (sizeW b) = q at *
  generalize sizeW a = A at *
  generalize sizeW b = B at *
  generalize negW a = n1 at *
  unfold wd at *
  have iA := hid (iW a)
  have iB := hid (iW b)
  have iY := hid (iW y)
  have nY := hid (one_cellsW y)
  have hA0 := hid (show ArrW 24 (((w.alloc (.cells (cellsW a) 24)).alloc (.cells (cellsW b) 24)).alloc (.cells (cellsW 0) 24)) w.heap.size a from ((ArrW.new _ w a).alloc _).alloc _)
  have hB0 := hid (show ArrW 24 (((w.alloc (.cells (cellsW a) 24)).alloc (.cells (cellsW b) 24)).alloc (.cells (cellsW 0) 24)) (w.heap.size + 1) b by
    have := ArrW.new 24 (w.alloc (.cells (cellsW a) 24)) b
    rw [World.size_alloc] at this; exact this.alloc _)
  have hC0 := hid (show ArrW 24 (((w.alloc (.cells (cellsW a) 24)).alloc (.cells (cellsW b) 24)).alloc (.cells (cellsW 0) 24)) (w.heap.size + 2) 0 by
    have := ArrW.new 24 ((w.alloc (.cells (cellsW a) 24)).alloc (.cells (cellsW b) 24)) 0
    rw [World.size_alloc, World.size_alloc] at this; exact this)
  have hb0 : Below w.heap.size w (((w.alloc (.cells (cellsW a) 24)).alloc (.cells (cellsW b) 24)).alloc (.cells (cellsW 0) 24)) := (((Below.refl _ _).alloc (Nat.le_refl _) _).alloc (by simp) _).alloc (by simp; omega) _
  go_enter Try.func68, Try.ntmps68
  go_wp2_with (refine wpList_alloc_new rfl 24 rfl (cellsW 0) zWd ?_; simp only [Act.put, List.setIfInBounds_toArray, List.set_cons_zero, List.set_cons_succ, World.size_alloc])
  ((try simp only [World.size_alloc]); refine wp_region_ext_tail 8 (by kernel_rfl) (by kernel_rfl) ?_; simp only [List.take_succ_cons, List.take_zero, List.drop_succ_cons, List.drop_zero]; (repeat (first | (refine wpQuiet_load_part rfl 24 (.tmp 2) rfl w.heap.size 0 rfl 24 _ (cellsW _) (0, 0) _ hA0.out (fun j v h => by rw [Nat.zero_add]; exact h) uWd rfl iA.out ?_; simp only [Act.put, List.setIfInBounds_toArray, List.set_cons_zero, List.set_cons_succ]) | (refine wpQuiet_load_part rfl 24 (.tmp 3) rfl (w.heap.size + 1) 0 rfl 24 _ (cellsW _) (0, 0) _ hB0.out (fun j v h => by rw [Nat.zero_add]; exact h) uWd rfl iB.out ?_; simp only [Act.put, List.setIfInBounds_toArray, List.set_cons_zero, List.set_cons_succ]) | go_big_quiet_step (first | (go_at_call 117; with_reducible refine Calls.ext_of (hSA.out _)) | (go_at_call 117; with_reducible refine Calls.ext_of (hSB.out _)) | (go_at_call 107; with_reducible refine Calls.ext_of (hNA.out _)) | (go_at_call 64; with_reducible refine Calls.ext_of (hD.out _)) | (go_at_call 116; with_reducible refine Calls.ext_of (hT.out _))))); refine wpQuiet_nil ?_; rintro _ ⟨xw, rfl⟩)
  go_wp2_with (refine wpList_store_row rfl 24 (.tmp 4) (.tmp 12) rfl (w.heap.size + 2) _ rfl rfl 24 _ (hC0.out.ext _) iY.out rfl nY.out ?_; simp only [Act.put])
  refine bodyPost_ret (results_cell_row rfl _ _ (w.heap.size + 2) 24 (cellsW y) (0, 0) _ rfl (heap_setRow' _ _ _ _ _ (hC0.out.ext _)) uWd rfl iY.out) rfl ⟨rfl, below_setRow' (World.ext_below_of hb0 hb0.size _) _ (by omega) _⟩

set_option maxHeartbeats 2000000 in
theorem waddmod_any (a b d : Nat) (w : World) (ha : a < 2 ^ 256) (hb : b < 2 ^ 256) (hd256 : d < 2 ^ 256) : Calls Try.prog 70 #[wd a, wd b, wd d] w fun e w' => e = .returned (wd (modW (a + b) d)) ∧ Below w.heap.size w w' := by
  have hZ := hid (fun w => wzero_any d hd256 w)
  have iA := hid (iW a)
  have iB := hid (iW b)
  have iD := hid (iW d)
  have nD := hid (one_cellsW d)
  by_cases h0 : d = 0
  · have HY := hid (show modW (a + b) d = d by unfold modW; rw [if_pos h0, h0])
    rw [decide_eq_true h0] at hZ
    rw [HY.out]
    clear h0 HY ha hb hd256
    unfold wd at *
    have hA0 := hid (show ArrW 24 ((((w.alloc (.cells (cellsW a) 24)).alloc (.cells (cellsW b) 24)).alloc (.cells (cellsW d) 24)).alloc (.cells (cellsW 0) 24)) w.heap.size a from (((ArrW.new _ w a).alloc _).alloc _).alloc _)
    have hB0 := hid (show ArrW 24 ((((w.alloc (.cells (cellsW a) 24)).alloc (.cells (cellsW b) 24)).alloc (.cells (cellsW d) 24)).alloc (.cells (cellsW 0) 24)) (w.heap.size + 1) b by
      have := ArrW.new 24 (w.alloc (.cells (cellsW a) 24)) b
      rw [World.size_alloc] at this; exact (this.alloc _).alloc _)
    have hC0 := hid (show ArrW 24 ((((w.alloc (.cells (cellsW a) 24)).alloc (.cells (cellsW b) 24)).alloc (.cells (cellsW d) 24)).alloc (.cells (cellsW 0) 24)) (w.heap.size + 2) d by
      have := ArrW.new 24 ((w.alloc (.cells (cellsW a) 24)).alloc (.cells (cellsW b) 24)) d
      rw [World.size_alloc, World.size_alloc] at this; exact this.alloc _)
    have hD0 := hid (show ArrW 24 ((((w.alloc (.cells (cellsW a) 24)).alloc (.cells (cellsW b) 24)).alloc (.cells (cellsW d) 24)).alloc (.cells (cellsW 0) 24)) (w.heap.size + 3) 0 by
      have := ArrW.new 24 (((w.alloc (.cells (cellsW a) 24)).alloc (.cells (cellsW b) 24)).alloc (.cells (cellsW d) 24)) 0
      rw [World.size_alloc, World.size_alloc, World.size_alloc] at this; exact this)
    have hb0 : Below w.heap.size w ((((w.alloc (.cells (cellsW a) 24)).alloc (.cells (cellsW b) 24)).alloc (.cells (cellsW d) 24)).alloc (.cells (cellsW 0) 24)) := ((((Below.refl _ _).alloc (Nat.le_refl _) _).alloc (by simp) _).alloc (by simp; omega) _).alloc (by simp; omega) _
    go_enter Try.func70, Try.ntmps70
    go_wp2_with (first | (refine wpList_alloc_new rfl 24 rfl (cellsW 0) zWd ?_; simp only [Act.put, List.setIfInBounds_toArray, List.set_cons_zero, List.set_cons_succ, World.size_alloc]) | (refine wpList_load_row rfl 24 (.tmp 5) rfl (w.heap.size + 2) rfl 24 _ (0, 0) _ hC0.out uWd rfl iD.out ?_; simp only [Act.put, List.setIfInBounds_toArray, List.set_cons_zero, List.set_cons_succ]))
    refine (hZ.out _).mono ?_
    rintro e w1 ⟨rfl, hb1⟩
    have hC1 := hid (hC0.out.below hb1 hC0.out.lt)
    have hD1 := hid (hD0.out.below hb1 hD0.out.lt)
    have hb2 := hb0.trans (hb1.mono hb0.size)
    clear hA0 hB0 hC0 hD0 hb0 hb1
    go_wp2_with (first | (refine wpList_load_row rfl 24 (.tmp 5) rfl (w.heap.size + 2) rfl 24 _ (0, 0) _ hC1.out uWd rfl iD.out ?_; simp only [Act.put, List.setIfInBounds_toArray, List.set_cons_zero, List.set_cons_succ]) | (refine wpList_store_row rfl 24 (.tmp 6) (.tmp 13) rfl (w.heap.size + 3) _ rfl rfl 24 _ hD1.out iD.out rfl nD.out ?_; simp only [Act.put]))
    refine bodyPost_ret (results_cell_row rfl _ _ (w.heap.size + 3) 24 (cellsW d) (0, 0) _ rfl (heap_setRow' _ _ _ _ _ hD1.out) uWd rfl iD.out) rfl ⟨rfl, below_setRow' hb2 _ (by omega) _⟩
  · have HY := hid (show modW (a + b) d = (a + b) % d by unfold modW; rw [if_neg h0])
    rw [decide_eq_false h0] at hZ
    rw [HY.out]
    have hF := hid (fun w => wsum_any a b w ha hb)
    have hab : a + b < 2 ^ (64 * 5) := by
      have h5 := Nat.pow_add 2 256 64
      rw [show 256 + 64 = 64 * 5 from rfl] at h5
      rw [h5]
      clear h5 hF HY hZ iA iB iD nD
      omega
    have hDv := hid (fun v w hr => divide_any 5 (a + b) d v w hr hab (by omega) (by omega) (Nat.pos_of_ne_zero h0) hd256)
    obtain ⟨s, hs⟩ : ∃ s, s = a + b := ⟨_, rfl⟩
    obtain ⟨r, hr⟩ : ∃ r, r = s % d := ⟨_, rfl⟩
    have hc64 : s / 2 ^ 256 < 2 ^ 64 := by omega
    rw [← hs] at hF hDv ⊢
    rw [← hr] at hDv ⊢
    clear ha hb h0 HY hd256 hab hs hr
    unfold wd at *
    have iR := hid (iW r)
    have nR := hid (one_cellsW r)
    obtain ⟨c, hcc⟩ : ∃ c, c = s / 2 ^ 256 := ⟨_, rfl⟩
    obtain ⟨l, hll⟩ : ∃ l, l = s % 2 ^ 256 := ⟨_, rfl⟩
    have hcells := hid (show cellsM 5 s = (#[.int .u64 (lm l 0), .int .u64 (lm l 1), .int .u64 (lm l 2), .int .u64 (lm l 3), .int .u64 (c : Int)] : Array Value) from by
      have e : ∀ i, i < 4 → lmN l i = lmN s i := fun i hi => by
        rw [hll]
        unfold lmN
        have e1 : (2 : Nat) ^ 256 = 2 ^ (64 * i) * 2 ^ (256 - 64 * i) := by rw [← Nat.pow_add]; congr 1; omega
        have e2 : (2 : Nat) ^ (256 - 64 * i) = 2 ^ 64 * 2 ^ (192 - 64 * i) := by rw [← Nat.pow_add]; congr 1; omega
        rw [e1, Nat.mod_mul_right_div_self, e2, Nat.mod_mul_right_mod]
      have e4 : lmN s 4 = c := by
        rw [hcc]
        unfold lmN
        rw [show 64 * 4 = 256 from rfl]
        exact Nat.mod_eq_of_lt hc64
      unfold lm
      rw [e 0 (by omega), e 1 (by omega), e 2 (by omega), e 3 (by omega), ← e4]
      rfl)
    rw [← hcc, ← hll] at hF
    have iL := hid (iW l)
    have nL := hid (one_cellsW l)
    clear hcc hll
    have hA0 := hid (show ArrW 24 ((((w.alloc (.cells (cellsW a) 24)).alloc (.cells (cellsW b) 24)).alloc (.cells (cellsW d) 24)).alloc (.cells (cellsW 0) 24)) w.heap.size a from (((ArrW.new _ w a).alloc _).alloc _).alloc _)
    have hB0 := hid (show ArrW 24 ((((w.alloc (.cells (cellsW a) 24)).alloc (.cells (cellsW b) 24)).alloc (.cells (cellsW d) 24)).alloc (.cells (cellsW 0) 24)) (w.heap.size + 1) b by
      have := ArrW.new 24 (w.alloc (.cells (cellsW a) 24)) b
      rw [World.size_alloc] at this; exact (this.alloc _).alloc _)
    have hC0 := hid (show ArrW 24 ((((w.alloc (.cells (cellsW a) 24)).alloc (.cells (cellsW b) 24)).alloc (.cells (cellsW d) 24)).alloc (.cells (cellsW 0) 24)) (w.heap.size + 2) d by
      have := ArrW.new 24 ((w.alloc (.cells (cellsW a) 24)).alloc (.cells (cellsW b) 24)) d
      rw [World.size_alloc, World.size_alloc] at this; exact this.alloc _)
    have hD0 := hid (show ArrW 24 ((((w.alloc (.cells (cellsW a) 24)).alloc (.cells (cellsW b) 24)).alloc (.cells (cellsW d) 24)).alloc (.cells (cellsW 0) 24)) (w.heap.size + 3) 0 by
      have := ArrW.new 24 (((w.alloc (.cells (cellsW a) 24)).alloc (.cells (cellsW b) 24)).alloc (.cells (cellsW d) 24)) 0
      rw [World.size_alloc, World.size_alloc, World.size_alloc] at this; exact this)
    have hb0 : Below w.heap.size w ((((w.alloc (.cells (cellsW a) 24)).alloc (.cells (cellsW b) 24)).alloc (.cells (cellsW d) 24)).alloc (.cells (cellsW 0) 24)) := ((((Below.refl _ _).alloc (Nat.le_refl _) _).alloc (by simp) _).alloc (by simp; omega) _).alloc (by simp; omega) _
    go_enter Try.func70, Try.ntmps70
    go_wp2_with (first | (refine wpList_alloc_new rfl 24 rfl (cellsW 0) zWd ?_; simp only [Act.put, List.setIfInBounds_toArray, List.set_cons_zero, List.set_cons_succ, World.size_alloc]) | (refine wpList_load_row rfl 24 (.tmp 5) rfl (w.heap.size + 2) rfl 24 _ (0, 0) _ hC0.out uWd rfl iD.out ?_; simp only [Act.put, List.setIfInBounds_toArray, List.set_cons_zero, List.set_cons_succ]))
    refine (hZ.out _).mono ?_
    rintro e w1 ⟨rfl, hb1⟩
    have hA1 := hid (hA0.out.below hb1 hA0.out.lt)
    have hB1 := hid (hB0.out.below hb1 hB0.out.lt)
    have hC1 := hid (hC0.out.below hb1 hC0.out.lt)
    have hD1 := hid (hD0.out.below hb1 hD0.out.lt)
    have hb2 := hb0.trans (hb1.mono hb0.size)
    clear hA0 hB0 hC0 hD0 hb0 hb1
    go_wp2_with (first | (refine wpList_load_row rfl 24 (.tmp 3) rfl w.heap.size rfl 24 _ (0, 0) _ hA1.out uWd rfl iA.out ?_; simp only [Act.put, List.setIfInBounds_toArray, List.set_cons_zero, List.set_cons_succ]) | (refine wpList_load_row rfl 24 (.tmp 4) rfl (w.heap.size + 1) rfl 24 _ (0, 0) _ hB1.out uWd rfl iB.out ?_; simp only [Act.put, List.setIfInBounds_toArray, List.set_cons_zero, List.set_cons_succ]))
    refine (hF.out _).mono ?_
    rintro e w2 ⟨rfl, hb3⟩
    have hC2 := hid ((hC1.out.below hb3 hC1.out.lt).alloc (.cells (cellsW l) 24))
    have hD2 := hid ((hD1.out.below hb3 hD1.out.lt).alloc (.cells (cellsW l) 24))
    have hL2 := hid (ArrW.new 24 w2 l)
    have hb4 := hb2.trans (hb3.mono hb2.size)
    have hb5 := hb4.alloc hb4.size (.cells (cellsW l) 24)
    have hsz : w.heap.size + 4 ≤ w2.heap.size := by have h1 := (hD1.out.below hb3 hD1.out.lt).lt; omega
    clear hA1 hB1 hC1 hD1 hb2 hb3
    have q0 : (cellsW l)[0]? = some (.int .u64 (lm l 0)) := rfl
    have q1 : (cellsW l)[1]? = some (.int .u64 (lm l 1)) := rfl
    have q2 : (cellsW l)[2]? = some (.int .u64 (lm l 2)) := rfl
    have q3 : (cellsW l)[3]? = some (.int .u64 (lm l 3)) := rfl
    have hC3 := hid (hC2.out.alloc (.cells #[.int .u64 (lm l 0), .int .u64 (lm l 1), .int .u64 (lm l 2), .int .u64 (lm l 3), .int .u64 (c : Int)] 22))
    have hD3 := hid (hD2.out.alloc (.cells #[.int .u64 (lm l 0), .int .u64 (lm l 1), .int .u64 (lm l 2), .int .u64 (lm l 3), .int .u64 (c : Int)] 22))
    have hb6 := hb5.alloc hb5.size (.cells #[.int .u64 (lm l 0), .int .u64 (lm l 1), .int .u64 (lm l 2), .int .u64 (lm l 3), .int .u64 (c : Int)] 22)
    have hrd := hid (show RdM ((w2.alloc (.cells (cellsW l) 24)).alloc (.cells #[.int .u64 (lm l 0), .int .u64 (lm l 1), .int .u64 (lm l 2), .int .u64 (lm l 3), .int .u64 (c : Int)] 22)) (.slice (some ⟨w2.heap.size + 1, 0, none⟩) 5 5) 5 s by
      have h := (ArrM.new 22 5 (w2.alloc (.cells (cellsW l) 24)) s).rd 5 (by omega)
      rw [World.size_alloc, hcells.out] at h; exact h)
    clear hb4 hb5 hC2 hD2 hL2 hcells
    go_wp2_with (first | (refine wpList_allocStore 24 18 7 (cellsW l) (cellsW 0) rfl rfl rfl rfl rfl rfl (by decide) (by simp) rfl (by kernel_rfl) rfl iL.out nL.out ?_; simp only [Act.put, List.setIfInBounds_toArray, List.set_cons_zero, List.set_cons_succ]) | (refine wpList_load_row rfl 24 (.tmp 5) rfl (w.heap.size + 2) rfl 24 _ (0, 0) _ hC3.out uWd rfl iD.out ?_; simp only [Act.put, List.setIfInBounds_toArray, List.set_cons_zero, List.set_cons_succ]))
    refine (hDv.out _ _ hrd.out).mono ?_
    rintro e w5 ⟨gq, rfl, h1, h2, hb7⟩
    have hD4 := hid ((hD3.out.below hb7 hD3.out.lt).alloc (.cells (cellsW 0) 24))
    have hR4 := hid (ArrW.new 24 w5 0)
    have hb8 := hb6.trans (hb7.mono hb6.size)
    have hb9 := hb8.alloc hb8.size (.cells (cellsW 0) 24)
    have hsz5 : w.heap.size + 4 ≤ w5.heap.size := by have h1 := (hD3.out.below hb7 hD3.out.lt).lt; omega
    have hR5 := hid (hR4.out.row r)
    have hD5 := hid (hD4.out.otherRow (show w.heap.size + 3 ≠ w5.heap.size by omega) (cellsW r))
    have hb10 := below_setRow' hb9 w5.heap.size (by omega) (cellsW r)
    clear h1 h2 hb7 hD3 hC3 hrd hb8 hb9 hb6
    go_wp2_with (first | (refine wpList_alloc_new rfl 24 rfl (cellsW 0) zWd ?_; simp only [Act.put, List.setIfInBounds_toArray, List.set_cons_zero, List.set_cons_succ, World.size_alloc]) | (refine wpList_store_row rfl 24 (.tmp 10) (.tmp 34) rfl w5.heap.size _ rfl rfl 24 _ hR4.out iR.out rfl nR.out ?_; simp only [Act.put]) | (refine wpList_load_row rfl 24 (.tmp 10) rfl w5.heap.size rfl 24 _ (0, 0) _ hR5.out uWd rfl iR.out ?_; simp only [Act.put, List.setIfInBounds_toArray, List.set_cons_zero, List.set_cons_succ]) | (refine wpList_store_row rfl 24 (.tmp 6) (.tmp 35) rfl (w.heap.size + 3) _ rfl rfl 24 _ hD5.out iR.out rfl nR.out ?_; simp only [Act.put]))
    refine bodyPost_ret (results_cell_row rfl _ _ (w.heap.size + 3) 24 (cellsW r) (0, 0) _ rfl (heap_setRow' _ _ _ _ _ hD5.out) uWd rfl iR.out) rfl ⟨rfl, below_setRow' hb10 _ (by omega) _⟩

end Go.Proofs.Ytfidbiabgmioaaa
