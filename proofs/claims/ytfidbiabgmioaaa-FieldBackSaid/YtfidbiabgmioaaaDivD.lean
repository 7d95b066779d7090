import Derived.Test.YtfidbiabgmioaaaDivB
import Derived.Test.YtfidbiabgmioaaaWordI
/-! word.divide by one limb. -/
set_option maxRecDepth 4000
set_option linter.unusedVariables false
set_option linter.unusedSimpArgs false
namespace Go.Proofs.Ytfidbiabgmioaaa
open Go.RowKit

theorem infoU : (Try.prog.info? 22).map (fun i => (i.zero, i.size, i.bytes)) = some (some (.int .u64 0), 1, 8) := by kernel_rfl
theorem uUs : Try.prog.underlying 71 = some (.slice 22) := by kernel_rfl
theorem mkM (N : Nat) (hN : N ≤ 1048576) (w : World) : (Instr.makeSlice 71 (.int .i64 (N : Int)) (.int .i64 (N : Int))).run Try.prog w = .ok (.slice (some ⟨w.heap.size, 0, none⟩) N N) (w.alloc (.cells (cellsM N 0) 22)) := by
  obtain ⟨i0, hi0, hz0, hz1, hz2⟩ := info_parts infoU
  have h := run_make (P := Try.prog) w 71 22 i0 (.int .u64 0) uUs hi0 hz0 .i64 .i64 (N : Int) (N : Int) (by omega) (Int.le_refl _) (by rw [hz2]; omega) (by omega)
  rw [h, Int.toNat_natCast, hz1, Nat.mul_one]
  congr 3
  apply Array.ext
  · simp [madeCells, cellsM]
  · intro j h1 h2
    simp [madeCells, Value.cells, Nat.mod_one, cellsM, lmN]
/-- One limb more of a quotient by one limb. -/
theorem div1_step (U d j : Nat) (hd : 0 < d) :
    (U / 2 ^ (64 * (j + 1)) % d * 2 ^ 64 + lmN U j) / d < 2 ^ 64 ∧ (U / 2 ^ (64 * (j + 1)) % d * 2 ^ 64 + lmN U j) % d = U / 2 ^ (64 * j) % d ∧
    setL (U / 2 ^ (64 * (j + 1)) / d * 2 ^ (64 * (j + 1))) j ((U / 2 ^ (64 * (j + 1)) % d * 2 ^ 64 + lmN U j) / d) = U / 2 ^ (64 * j) / d * 2 ^ (64 * j) := by
  have hs := div_succ U j
  have hl := lmN_lt U j
  rw [hs]
  generalize U / 2 ^ (64 * (j + 1)) = A
  generalize lmN U j = u at hl ⊢
  have hdm := Nat.div_add_mod A d
  have hml := Nat.mod_lt A hd
  generalize A / d = q at hdm ⊢
  generalize A % d = r at hdm hml ⊢
  have hB : (2 : Nat) ^ 64 = 18446744073709551616 := by decide
  have e : A * 2 ^ 64 + u = r * 2 ^ 64 + u + d * (q * 2 ^ 64) := by
    rw [← hdm, Nat.add_mul, Nat.mul_assoc]; omega
  have hq : (r * 2 ^ 64 + u) / d < 2 ^ 64 := by
    rw [Nat.div_lt_iff_lt_mul hd]
    have : (r + 1) * 2 ^ 64 ≤ d * 2 ^ 64 := Nat.mul_le_mul_right _ hml
    rw [Nat.mul_comm (2 ^ 64)]
    omega
  refine ⟨hq, by rw [e, Nat.add_mul_mod_self_left], ?_⟩
  rw [e, Nat.add_mul_div_left _ _ hd]
  have h1 := setL_eq (q * 2 ^ (64 * (j + 1))) j ((r * 2 ^ 64 + u) / d)
  have h0 : lmN (q * 2 ^ (64 * (j + 1))) j = 0 := by
    unfold lmN
    rw [pow64_succ, ← Nat.mul_assoc, Nat.mul_right_comm, Nat.mul_div_cancel _ (Nat.pow_pos (by omega)), Nat.mul_mod_left]
  rw [h0, Nat.mul_zero, Nat.add_zero] at h1
  rw [h1, pow64_succ, Nat.add_mul, Nat.mul_comm ((r * 2 ^ 64 + u) / d), Nat.mul_assoc q, Nat.mul_comm (2 ^ 64) (2 ^ (64 * j))]
  omega

set_option maxRecDepth 100000 in
set_option maxHeartbeats 4000000 in
theorem divide1_any (n U d : Nat) (v : Value) (w : World) (hr : RdM w v n U) (hU : U < 2 ^ (64 * n)) (hn : n ≤ 9) (hd : 0 < d) (hd2 : d < 2 ^ 64) :
    Calls Try.prog 120 #[v, wd d] w fun e w' => ∃ gq, e = .returned (.tuple #[.slice (some ⟨gq, 0, none⟩) n n, wd (U % d)]) ∧ ArrM 22 n w' gq (U / d) ∧ w.heap.size ≤ gq ∧ Below w.heap.size w w' := by
  have hd256 : d < 2 ^ 256 := Nat.lt_of_lt_of_le hd2 (by decide)
  have hW := hid (fun v w hr => width_any 4 d v w hr hd256 (by omega))
  have hb1 := (bl_spec d (by omega)).1
  have hb2 := bl_le d 64 hd2
  have hO := hid (fun w => wof_any (U % d) (Nat.lt_trans (Nat.mod_lt _ hd) hd2) w)
  have hmk := mkM n (by omega)
  have hl0 : lm d 0 = (d : Int) := by unfold lm; rw [lmN_zero', Nat.mod_eq_of_lt hd2]
  have H0 := hid (show U / 2 ^ (64 * n) = 0 from Nat.div_eq_of_lt hU)
  obtain ⟨a, cap, rfl, hc, hr⟩ := hr
  have HR := hid hr
  obtain ⟨bd, hbd⟩ : ∃ b, b = bl d := ⟨_, rfl⟩
  rw [← hbd] at hW hb1 hb2
  have HD := hid hd
  clear hr hbd hU
  unfold wd at *
  have hA0 := hid (show ArrW 24 (((w.alloc (.cells (cellsW d) 24)).alloc (.cells (cellsW 0) 24)).alloc (.cells (cellsM n 0) 22)) w.heap.size d from ((ArrW.new _ w d).alloc _).alloc _)
  have hrd := hid (show RdM ((w.alloc (.cells (cellsW d) 24)).alloc (.cells (cellsW 0) 24)) (.slice (some ⟨w.heap.size, 0, none⟩) 4 4) 4 d from ((ArrW.new _ w d).alloc _).toM.rd 4 (by omega))
  have hB0 := hid (show ArrW 24 (((w.alloc (.cells (cellsW d) 24)).alloc (.cells (cellsW 0) 24)).alloc (.cells (cellsM n 0) 22)) (w.heap.size + 1) 0 by
    have := ArrW.new 24 (w.alloc (.cells (cellsW d) 24)) 0
    rw [World.size_alloc] at this; exact this.alloc _)
  have hC0 := hid (show ArrM 22 n (((w.alloc (.cells (cellsW d) 24)).alloc (.cells (cellsW 0) 24)).alloc (.cells (cellsM n 0) 22)) (w.heap.size + 2) 0 by
    have := ArrM.new 22 n ((w.alloc (.cells (cellsW d) 24)).alloc (.cells (cellsW 0) 24)) 0
    rw [World.size_alloc, World.size_alloc] at this; exact this)
  have hb0 : Below w.heap.size w (((w.alloc (.cells (cellsW d) 24)).alloc (.cells (cellsW 0) 24)).alloc (.cells (cellsM n 0) 22)) := (((Below.refl _ _).alloc (Nat.le_refl _) _).alloc (by simp) _).alloc (by simp; omega) _
  go_enter Try.func120, Try.ntmps120
  go_wp2_with (refine wpList_alloc_new rfl 24 rfl (cellsW 0) zWd ?_; simp only [Act.put, List.setIfInBounds_toArray, List.set_cons_zero, List.set_cons_succ, World.size_alloc])
  refine (hW.out _ _ hrd.out).mono ?_
  rintro e w1 ⟨rfl, rfl⟩
  have hne : (((bd : Int) + 63) / 64) = 1 := by omega
  go_wp2_with fail
  (try simp only [World.size_alloc])
  generalize ((w.alloc (.cells (cellsW d) 24)).alloc (.cells (cellsW 0) 24)).alloc (.cells (cellsM n 0) 22) = w1 at hA0 hB0 hC0 hb0 ⊢
  (try simp only [hne])
  clear hW hrd
  go_loopw [8, 9] (fun rv iv wr => ∃ i : Nat, i ≤ n ∧ rv = .int .u64 ((U / 2 ^ (64 * i) % d : Nat) : Int) ∧ iv = .int .i64 ((i : Int) - 1) ∧ Hid (ArrW 24 wr w.heap.size d) ∧ Hid (ArrW 24 wr (w.heap.size + 1) 0) ∧ Hid (ArrM 22 n wr (w.heap.size + 2) (U / 2 ^ (64 * i) / d * 2 ^ (64 * i))) ∧ Below w.heap.size w wr)
    (fun _ iv _ => (intOf iv + 1).toNat)
  case atStart => exact ⟨n, by omega, by rw [H0.out, Nat.zero_mod]; rfl, by go_num, hA0, hB0, by rw [H0.out, Nat.zero_div, Nat.zero_mul]; exact hC0, hb0⟩
  case round =>
    clear hA0 hB0 hC0 hb0
    obtain ⟨i, hi, rfl, rfl, hA, hB, hC, hb⟩ := hrel
    by_cases h0 : i = 0
    · subst h0
      have hQ := hC.out
      have hr0 := hid (show U / 2 ^ (64 * 0) % d = U % d by rw [Nat.mul_zero, Nat.pow_zero, Nat.div_one])
      rw [show U / 2 ^ (64 * 0) / d * 2 ^ (64 * 0) = U / d by rw [Nat.mul_zero, Nat.pow_zero, Nat.div_one, Nat.mul_one]] at hQ
      rw [hr0.out]
      obtain ⟨r, hrr⟩ : ∃ r, r = U % d := ⟨_, rfl⟩
      rw [← hrr] at hO ⊢
      have HRR := hid hrr
      have HQ := hid hQ
      have iR := hid (iW r)
      have nR := hid (one_cellsW r)
      clear hrr hC hr0 hQ
      go_wp2_with fail
      refine (hO.out _).mono ?_
      rintro e w2 ⟨rfl, hb2⟩
      have hB2 := hid (hB.out.below hb2 hB.out.lt)
      have hQ2 := hid (HQ.out.below hb2 HQ.out.lt)
      have hb3 := hb.trans (hb2.mono hb.size)
      clear hB HQ hb hb2
      go_wp2_with (refine wpList_store_row rfl 24 (.tmp 5) (.tmp 50) rfl (w.heap.size + 1) _ rfl rfl 24 _ hB2.out iR.out rfl nR.out ?_; simp only [Act.put])
      refine bodyPost_ret (results_tmp_row rfl _ _ (w.heap.size + 1) 24 (cellsW r) (0, 0) _ rfl (heap_setRow' _ _ _ _ _ hB2.out) uWd rfl iR.out) rfl ⟨w.heap.size + 2, by rw [HRR.out]; rfl, ?_, by omega, below_setRow' hb3 _ (by omega) _⟩
      have := hQ2.out
      unfold ArrM at *
      simp only [World.setRow, Array.getElem?_modify]
      rw [if_neg (by omega)]; exact this
    · obtain ⟨j, rfl⟩ : ∃ j, i = j + 1 := ⟨i - 1, by omega⟩
      have e1 : (((j + 1 : Nat) : Int) - 1) = (j : Int) := by omega
      rw [e1]
      obtain ⟨s1, s2, s3⟩ := div1_step U d j HD.out
      obtain ⟨b, off, rfl, hbl, hcell⟩ := HR.out (by omega)
      have cx := (hb.cell (p := ⟨b, off + j, none⟩) hbl).trans (hcell j (by omega))
      have lb : b < wr.heap.size := Nat.lt_of_lt_of_le hbl hb.size
      have cd := hA.out.cell 0 (by omega)
      rw [hl0] at cd
      have ld := hA.out.lt
      have cq := hC.out.cell j (by omega)
      have fq := hC.out.free j
      have lq := hC.out.lt
      have hrl := Nat.mod_lt (U / 2 ^ (64 * (j + 1))) HD.out
      have hDv := hid (fun w => div64_any (U / 2 ^ (64 * (j + 1)) % d) (lmN U j) d hrl (lmN_lt _ _) hd2 w)
      obtain ⟨r, hr⟩ : ∃ r, r = U / 2 ^ (64 * (j + 1)) % d := ⟨_, rfl⟩
      rw [← hr] at s1 s2 s3 hDv hrl ⊢
      obtain ⟨q, hq⟩ : ∃ q, q = (r * 2 ^ 64 + lmN U j) / d := ⟨_, rfl⟩
      rw [← hq] at s1 s3 hDv
      obtain ⟨r2, hr2⟩ : ∃ r2, r2 = (r * 2 ^ 64 + lmN U j) % d := ⟨_, rfl⟩
      rw [← hr2] at s2 hDv
      have S2 := hid s2
      have S3 := hid s3
      clear e1 h0 hcell s2 s3 hr hq hr2
      go_wp2_with fail
      (refine wp_region_ext_float 14 12 [0, 1, 2, 3, 4, 5, 6, 7, 8, 9, 10, 11, 13] [_, _, _, _, _, _, _, _, _, _, _, _, _] _ _ _ rfl rfl rfl rfl (by kernel_rfl) (by kernel_rfl) ?_; (repeat (go_big_quiet_step (first | (go_at_call 132; with_reducible refine Calls.ext_of (hDv.out _))))); refine wpQuiet_nil ?_; refine ⟨?_, ?_⟩; rotate_left; rintro _ ⟨xw, rfl⟩; rotate_left; (repeat (go_big_quiet_step (first | (go_at_call 132; with_reducible refine Calls.ext_of (hDv.out _))))); refine wpQuiet_nil ?_; rintro _ ⟨xw, rfl⟩)
      all_goals
        go_wp2_with fail
        go_roundw
        case rel =>
          refine ⟨j, by omega, by rw [← S2.out], by go_num, hid ((hA.out.ext xw).other (by show w.heap.size ≠ w.heap.size + 2; omega) _), hid ((hB.out.ext xw).other (by show w.heap.size + 1 ≠ w.heap.size + 2; omega) _), hid ?_, (World.ext_below_of hb hb.size xw).setCell (p := ⟨w.heap.size + 2, j, none⟩) (by show w.heap.size ≤ w.heap.size + 2; omega) _⟩
          rw [← S3.out]
          exact (hC.out.ext xw).set j q s1
        case measure => simp [intOf]
end Go.Proofs.Ytfidbiabgmioaaa
