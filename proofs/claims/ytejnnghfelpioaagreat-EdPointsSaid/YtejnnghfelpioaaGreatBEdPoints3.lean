import Derived.Test.YtejnnghfelpioaaGreatBEdPoints2
set_option maxRecDepth 4000
set_option linter.unusedVariables false
set_option linter.unusedSimpArgs false
namespace Go.Proofs.YtejnnghfelpioaaGreat
open Go.RowKit
theorem infoU : (Tryz.prog.info? 22).map (fun i => (i.zero, i.size, i.bytes)) = some (some (.int .u64 0), 1, 8) := by kernel_rfl
theorem uUs : Tryz.prog.underlying 153 = some (.slice 22) := by kernel_rfl
theorem mkM (N : Nat) (hN : N ≤ 1048576) (w : World) : (Instr.makeSlice 153 (.int .i64 (N : Int)) (.int .i64 (N : Int))).run Tryz.prog w = .ok (.slice (some ⟨w.heap.size, 0, none⟩) N N) (w.alloc (.cells (cellsM N 0) 22)) := by
  obtain ⟨i0, hi0, hz0, hz1, hz2⟩ := info_parts infoU
  have h := run_make (P := Tryz.prog) w 153 22 i0 (.int .u64 0) uUs hi0 hz0 .i64 .i64 (N : Int) (N : Int) (by omega) (Int.le_refl _) (by rw [hz2]; omega) (by omega)
  rw [h, Int.toNat_natCast, hz1, Nat.mul_one]
  congr 3
  apply Array.ext
  · simp [madeCells, cellsM]
  · intro j h1 h2
    simp [madeCells, Value.cells, Nat.mod_one, cellsM, lmN]
theorem div1_step (U d j : Nat) (hd : 0 < d) :
    (U / 2 ^ (64 * (j + 1)) % d * 2 ^ 64 + lmN U j) / d < 2 ^ 64 ∧ (U / 2 ^ (64 * (j + 1)) % d * 2 ^ 64 + lmN U j) % d = U / 2 ^ (64 * j) % d ∧
    setL (U / 2 ^ (64 * (j + 1)) / d * 2 ^ (64 * (j + 1))) j ((U / 2 ^ (64 * (j + 1)) % d * 2 ^ 64 + lmN U j) / d) = U / 2 ^ (64 * j) / d * 2 ^ (64 * j) := by
  have hs := div_succ U j
  have hl := lmN_lt U j
  rw [hs]
  generalize U / 2 ^ (64 * (j + 1)) = A
  generalize lmN U j = u at hl ⊢
  have hdm := Nat.div_add_mod A d
  have hml := Nat.mod_lt A hd
  generalize A / d = q at hdm ⊢
  generalize A % d = r at hdm hml ⊢
  have hB : (2 : Nat) ^ 64 = 18446744073709551616 := by decide
  have e : A * 2 ^ 64 + u = r * 2 ^ 64 + u + d * (q * 2 ^ 64) := by
    rw [← hdm, Nat.add_mul, Nat.mul_assoc]; omega
  have hq : (r * 2 ^ 64 + u) / d < 2 ^ 64 := by
    rw [Nat.div_lt_iff_lt_mul hd]
    have : (r + 1) * 2 ^ 64 ≤ d * 2 ^ 64 := Nat.mul_le_mul_right _ hml
    rw [Nat.mul_comm (2 ^ 64)]
    omega
  refine ⟨hq, by rw [e, Nat.add_mul_mod_self_left], ?_⟩
  rw [e, Nat.add_mul_div_left _ _ hd]
  have h1 := setL_eq (q * 2 ^ (64 * (j + 1))) j ((r * 2 ^ 64 + u) / d)
  have h0 : lmN (q * 2 ^ (64 * (j + 1))) j = 0 := by
    unfold lmN
    rw [pow64_succ, ← Nat.mul_assoc, Nat.mul_right_comm, Nat.mul_div_cancel _ (Nat.pow_pos (by omega)), Nat.mul_mod_left]
  rw [h0, Nat.mul_zero, Nat.add_zero] at h1
  rw [h1, pow64_succ, Nat.add_mul, Nat.mul_comm ((r * 2 ^ 64 + u) / d), Nat.mul_assoc q, Nat.mul_comm (2 ^ 64) (2 ^ (64 * j))]
  omega
set_option maxRecDepth 100000 in
set_option maxHeartbeats 4000000 in
theorem divide1_any (n U d : Nat) (v : Value) (w : World) (hr : RdM w v n U) (hU : U < 2 ^ (64 * n)) (hn : n ≤ 9) (hd : 0 < d) (hd2 : d < 2 ^ 64) :
    Calls Tryz.prog 127 #[v, wd d] w fun e w' => ∃ gq, e = .returned (.tuple #[.slice (some ⟨gq, 0, none⟩) n n, wd (U % d)]) ∧ ArrM 22 n w' gq (U / d) ∧ w.heap.size ≤ gq ∧ Below w.heap.size w w' := by
  have hd256 : d < 2 ^ 256 := Nat.lt_of_lt_of_le hd2 (by decide)
  have hW := hid (fun v w hr => width_any 4 d v w hr hd256 (by omega))
  have hb1 := (bl_spec d (by omega)).1
  have hb2 := bl_le d 64 hd2
  have hO := hid (fun w => wof_any (U % d) (Nat.lt_trans (Nat.mod_lt _ hd) hd2) w)
  have hmk := mkM n (by omega)
  have hl0 : lm d 0 = (d : Int) := by unfold lm; rw [lmN_zero', Nat.mod_eq_of_lt hd2]
  have H0 := hid (show U / 2 ^ (64 * n) = 0 from Nat.div_eq_of_lt hU)
  obtain ⟨a, cap, rfl, hc, hr⟩ := hr
  have HR := hid hr
  obtain ⟨bd, hbd⟩ : ∃ b, b = bl d := ⟨_, rfl⟩
  rw [← hbd] at hW hb1 hb2
  have HD := hid hd
  clear hr hbd hU
  unfold wd at *
  have hA0 := hid (show ArrW 24 (((w.alloc (.cells (cellsW d) 24)).alloc (.cells (cellsW 0) 24)).alloc (.cells (cellsM n 0) 22)) w.heap.size d from ((ArrW.new _ w d).alloc _).alloc _)
  have hrd := hid (show RdM ((w.alloc (.cells (cellsW d) 24)).alloc (.cells (cellsW 0) 24)) (.slice (some ⟨w.heap.size, 0, none⟩) 4 4) 4 d from ((ArrW.new _ w d).alloc _).toM.rd 4 (by omega))
  have hB0 := hid (show ArrW 24 (((w.alloc (.cells (cellsW d) 24)).alloc (.cells (cellsW 0) 24)).alloc (.cells (cellsM n 0) 22)) (w.heap.size + 1) 0 by
    have := ArrW.new 24 (w.alloc (.cells (cellsW d) 24)) 0
    rw [World.size_alloc] at this; exact this.alloc _)
  have hC0 := hid (show ArrM 22 n (((w.alloc (.cells (cellsW d) 24)).alloc (.cells (cellsW 0) 24)).alloc (.cells (cellsM n 0) 22)) (w.heap.size + 2) 0 by
    have := ArrM.new 22 n ((w.alloc (.cells (cellsW d) 24)).alloc (.cells (cellsW 0) 24)) 0
    rw [World.size_alloc, World.size_alloc] at this; exact this)
  have hb0 : Below w.heap.size w (((w.alloc (.cells (cellsW d) 24)).alloc (.cells (cellsW 0) 24)).alloc (.cells (cellsM n 0) 22)) := (((Below.refl _ _).alloc (Nat.le_refl _) _).alloc (by simp) _).alloc (by simp; omega) _
  go_enter Tryz.func127, Tryz.ntmps127
  go_wp2_with (refine wpList_alloc_new rfl 24 rfl (cellsW 0) zWd ?_; simp only [Act.put, pvA, pv0, pv1, World.size_alloc])
  refine (hW.out _ _ hrd.out).mono ?_
  rintro e w1 ⟨rfl, rfl⟩
  have hne : (((bd : Int) + 63) / 64) = 1 := by omega
  go_wp2_with fail
  (try simp only [World.size_alloc])
  generalize ((w.alloc (.cells (cellsW d) 24)).alloc (.cells (cellsW 0) 24)).alloc (.cells (cellsM n 0) 22) = w1 at hA0 hB0 hC0 hb0 ⊢
  (try simp only [hne])
  clear hW hrd
  go_loopw [8, 9] (fun rv iv wr => ∃ i : Nat, i ≤ n ∧ rv = .int .u64 ((U / 2 ^ (64 * i) % d : Nat) : Int) ∧ iv = .int .i64 ((i : Int) - 1) ∧ Hid (ArrW 24 wr w.heap.size d) ∧ Hid (ArrW 24 wr (w.heap.size + 1) 0) ∧ Hid (ArrM 22 n wr (w.heap.size + 2) (U / 2 ^ (64 * i) / d * 2 ^ (64 * i))) ∧ Below w.heap.size w wr)
    (fun _ iv _ => (intOf iv + 1).toNat)
  case atStart => exact ⟨n, by omega, by rw [H0.out, Nat.zero_mod]; rfl, by go_num, hA0, hB0, by rw [H0.out, Nat.zero_div, Nat.zero_mul]; exact hC0, hb0⟩
  case round =>
    clear hA0 hB0 hC0 hb0
    obtain ⟨i, hi, rfl, rfl, hA, hB, hC, hb⟩ := hrel
    by_cases h0 : i = 0
    · subst h0
      have hQ := hC.out
      have hr0 := hid (show U / 2 ^ (64 * 0) % d = U % d by rw [Nat.mul_zero, Nat.pow_zero, Nat.div_one])
      rw [show U / 2 ^ (64 * 0) / d * 2 ^ (64 * 0) = U / d by rw [Nat.mul_zero, Nat.pow_zero, Nat.div_one, Nat.mul_one]] at hQ
      rw [hr0.out]
      obtain ⟨r, hrr⟩ : ∃ r, r = U % d := ⟨_, rfl⟩
      rw [← hrr] at hO ⊢
      have HRR := hid hrr
      have HQ := hid hQ
      have iR := hid (iW r)
      have nR := hid (one_cellsW r)
      clear hrr hC hr0 hQ
      go_wp2_with fail
      refine (hO.out _).mono ?_
      rintro e w2 ⟨rfl, hb2⟩
      have hB2 := hid (hB.out.below hb2 hB.out.lt)
      have hQ2 := hid (HQ.out.below hb2 HQ.out.lt)
      have hb3 := hb.trans (hb2.mono hb.size)
      clear hB HQ hb hb2
      go_wp2_with (refine wpList_store_row rfl 24 (.tmp 5) (.tmp 50) rfl (w.heap.size + 1) _ rfl rfl 24 _ hB2.out iR.out rfl nR.out ?_; simp only [Act.put])
      refine bodyPost_ret (results_tmp_row rfl _ _ (w.heap.size + 1) 24 (cellsW r) (0, 0) _ rfl (heap_setRow' _ _ _ _ _ hB2.out) uWd rfl iR.out) rfl ⟨w.heap.size + 2, by rw [HRR.out]; rfl, ?_, by omega, below_setRow' hb3 _ (by omega) _⟩
      have := hQ2.out
      unfold ArrM at *
      simp only [World.setRow, Array.getElem?_modify]
      rw [if_neg (by omega)]; exact this
    · obtain ⟨j, rfl⟩ : ∃ j, i = j + 1 := ⟨i - 1, by omega⟩
      have e1 : (((j + 1 : Nat) : Int) - 1) = (j : Int) := by omega
      rw [e1]
      obtain ⟨s1, s2, s3⟩ := div1_step U d j HD.out
      obtain ⟨b, off, rfl, hbl, hcell⟩ := HR.out (by omega)
      have cx := (hb.cell (p := ⟨b, off + j, none⟩) hbl).trans (hcell j (by omega))
      have lb : b < wr.heap.size := Nat.lt_of_lt_of_le hbl hb.size
      have cd := hA.out.cell 0 (by omega)
      rw [hl0] at cd
      have ld := hA.out.lt
      have cq := hC.out.cell j (by omega)
      have fq := hC.out.free j
      have lq := hC.out.lt
      have hrl := Nat.mod_lt (U / 2 ^ (64 * (j + 1))) HD.out
      have hDv := hid (fun w => div64_any (U / 2 ^ (64 * (j + 1)) % d) (lmN U j) d hrl (lmN_lt _ _) hd2 w)
      obtain ⟨r, hr⟩ : ∃ r, r = U / 2 ^ (64 * (j + 1)) % d := ⟨_, rfl⟩
      rw [← hr] at s1 s2 s3 hDv hrl ⊢
      obtain ⟨q, hq⟩ : ∃ q, q = (r * 2 ^ 64 + lmN U j) / d := ⟨_, rfl⟩
      rw [← hq] at s1 s3 hDv
      obtain ⟨r2, hr2⟩ : ∃ r2, r2 = (r * 2 ^ 64 + lmN U j) % d := ⟨_, rfl⟩
      rw [← hr2] at s2 hDv
      have S2 := hid s2
      have S3 := hid s3
      clear e1 h0 hcell s2 s3 hr hq hr2
      go_wp2_with fail
      (refine wp_region_ext_float 14 12 [0, 1, 2, 3, 4, 5, 6, 7, 8, 9, 10, 11, 13] [_, _, _, _, _, _, _, _, _, _, _, _, _] _ _ _ rfl rfl rfl rfl (by kernel_rfl) (by kernel_rfl) ?_; (repeat (go_big_quiet_step (first | (go_at_call 142; with_reducible refine Calls.ext_of (hDv.out _))))); refine wpQuiet_nil ?_; refine ⟨?_, ?_⟩; rotate_left; rintro _ ⟨xw, rfl⟩; rotate_left; (repeat (go_big_quiet_step (first | (go_at_call 142; with_reducible refine Calls.ext_of (hDv.out _))))); refine wpQuiet_nil ?_; rintro _ ⟨xw, rfl⟩)
      all_goals
        go_wp2_with fail
        go_roundw
        case rel =>
          refine ⟨j, by omega, by rw [← S2.out], by go_num, hid ((hA.out.ext xw).other (by show w.heap.size ≠ w.heap.size + 2; omega) _), hid ((hB.out.ext xw).other (by show w.heap.size + 1 ≠ w.heap.size + 2; omega) _), hid ?_, (World.ext_below_of hb hb.size xw).setCell (p := ⟨w.heap.size + 2, j, none⟩) (by show w.heap.size ≤ w.heap.size + 2; omega) _⟩
          rw [← S3.out]
          exact (hC.out.ext xw).set j q s1
        case measure => simp [intOf]
end Go.Proofs.YtejnnghfelpioaaGreat
namespace Go.Proofs.YtejnnghfelpioaaGreat
open Go.RowKit
end Go.Proofs.YtejnnghfelpioaaGreat
namespace Go.Proofs.YtejnnghfelpioaaGreat
open Go.RowKit
theorem shl_limb0 (x s : Nat) : lmN (x * 2 ^ s) 0 = lmN x 0 * 2 ^ s % 2 ^ 64 := by
  unfold lmN
  rw [Nat.mul_zero, Nat.pow_zero, Nat.div_one, Nat.div_one, Nat.mod_mul_mod]
theorem shl_limb (x s i : Nat) (hs : s < 64) : lmN (x * 2 ^ s) (i + 1) = lmN x (i + 1) * 2 ^ s % 2 ^ 64 ||| lmN x i / 2 ^ (64 - s) := by
  have h := (lmN_shl x s (i + 1)).2.2 (by omega)
  rw [show s / 64 = 0 by omega, show s % 64 = s by omega, Nat.sub_zero, Nat.add_sub_cancel] at h
  by_cases h0 : s = 0
  · subst h0
    rw [h, if_pos rfl, Nat.pow_zero, Nat.mul_one, Nat.mod_eq_of_lt (lmN_lt _ _), Nat.div_eq_of_lt (lmN_lt _ _), Nat.or_zero]
  · rw [h, if_neg h0]
theorem shr_limb (x s i : Nat) (hs : s < 64) : lmN (x / 2 ^ s) i = lmN x i / 2 ^ s ||| lmN x (i + 1) * 2 ^ (64 - s) % 2 ^ 64 := by
  by_cases h0 : s = 0
  · subst h0
    rw [Nat.pow_zero, Nat.div_one, Nat.div_one, Nat.sub_zero, Nat.mul_mod_left, Nat.or_zero]
  · have h := lmN_shr x s i (by omega)
    rw [show s / 64 = 0 by omega, show s % 64 = s by omega, Nat.add_zero] at h
    exact h
theorem or_shl (c u s : Nat) (hs : s < 64) (hc : c < 2 ^ s) : c ||| u * 2 ^ s % 2 ^ 64 = c + u * 2 ^ s % 2 ^ 64 := by
  have e : u * 2 ^ s % 2 ^ 64 = u % 2 ^ (64 - s) * 2 ^ s := by
    have h := shl_mod u (64 - s) (by omega)
    rw [show 64 - (64 - s) = s by omega] at h
    rw [h, Nat.mul_comm]
  rw [e, or_add _ _ _ hc]
theorem lift_step (U s i : Nat) (hs : s < 64) :
    lmN (U % 2 ^ (64 * i) * 2 ^ s) i < 2 ^ s ∧ lmN (U % 2 ^ (64 * i) * 2 ^ s) i + lmN U i * 2 ^ s % 2 ^ 64 < 2 ^ 64 ∧
    setL (setL (U % 2 ^ (64 * i) * 2 ^ s) i (lmN (U % 2 ^ (64 * i) * 2 ^ s) i + lmN U i * 2 ^ s % 2 ^ 64)) (i + 1) (lmN U i / 2 ^ (64 - s)) = U % 2 ^ (64 * (i + 1)) * 2 ^ s := by
  have hl := low_lt U i
  have hp : 0 < 2 ^ (64 * i) := Nat.pow_pos (by omega)
  have hps : 0 < 2 ^ s := Nat.pow_pos (by omega)
  have hs2 : 2 ^ s ≤ 2 ^ 63 := Nat.pow_le_pow_right (by omega) (by omega)
  have hX : U % 2 ^ (64 * i) * 2 ^ s < 2 ^ (64 * i) * 2 ^ s := Nat.mul_lt_mul_of_pos_right hl hps
  have hq : U % 2 ^ (64 * i) * 2 ^ s / 2 ^ (64 * i) < 2 ^ s := by rw [Nat.div_lt_iff_lt_mul hp, Nat.mul_comm (2 ^ s)]; exact hX
  have hc : lmN (U % 2 ^ (64 * i) * 2 ^ s) i < 2 ^ s := Nat.lt_of_le_of_lt (Nat.mod_le _ _) hq
  have hsum := or_shl (lmN (U % 2 ^ (64 * i) * 2 ^ s) i) (lmN U i) s hs hc
  have hlt : lmN (U % 2 ^ (64 * i) * 2 ^ s) i + lmN U i * 2 ^ s % 2 ^ 64 < 2 ^ 64 := by
    rw [← hsum]
    exact Nat.or_lt_two_pow (Nat.lt_trans hc (Nat.lt_of_le_of_lt hs2 (by decide))) (Nat.mod_lt _ (by decide))
  refine ⟨hc, hlt, ?_⟩
  have h1 := setL_eq (U % 2 ^ (64 * i) * 2 ^ s) i (lmN (U % 2 ^ (64 * i) * 2 ^ s) i + lmN U i * 2 ^ s % 2 ^ 64)
  have h2 := setL_eq (setL (U % 2 ^ (64 * i) * 2 ^ s) i (lmN (U % 2 ^ (64 * i) * 2 ^ s) i + lmN U i * 2 ^ s % 2 ^ 64)) (i + 1) (lmN U i / 2 ^ (64 - s))
  have h3 : lmN (setL (U % 2 ^ (64 * i) * 2 ^ s) i (lmN (U % 2 ^ (64 * i) * 2 ^ s) i + lmN U i * 2 ^ s % 2 ^ 64)) (i + 1) = 0 := by
    rw [lmN_setL _ _ _ _ hlt, if_neg (by omega)]
    apply lmN_hi
    rw [pow64_succ]
    exact Nat.lt_of_lt_of_le hX (Nat.mul_le_mul_left _ (Nat.le_trans hs2 (by decide)))
  rw [h3, Nat.mul_zero, Nat.add_zero] at h2
  rw [h2, low_succ, Nat.add_mul, Nat.mul_assoc]
  have e1 : lmN U i * 2 ^ s / 2 ^ 64 = lmN U i / 2 ^ (64 - s) := by
    rw [show (2 : Nat) ^ 64 = 2 ^ (64 - s) * 2 ^ s by rw [← Nat.pow_add]; congr 1; omega, Nat.mul_div_mul_right _ _ hps]
  have e2 := Nat.div_add_mod (lmN U i * 2 ^ s) (2 ^ 64)
  rw [e1] at e2
  have e3 : 2 ^ (64 * i) * (lmN U i * 2 ^ s) = 2 ^ (64 * i) * (2 ^ 64 * (lmN U i / 2 ^ (64 - s))) + 2 ^ (64 * i) * (lmN U i * 2 ^ s % 2 ^ 64) := by rw [← Nat.mul_add, e2]
  rw [e3, pow64_succ]
  rw [Nat.mul_add] at h1
  rw [Nat.mul_assoc (2 ^ (64 * i)) (2 ^ 64)]
  omega
theorem long_step (Z Z' V k q n : Nat) (hV : 0 < V) (hVn : V < 2 ^ (64 * n)) (hZ : Z < V * 2 ^ (64 * (k + 1))) (hw : win Z k (n + 1) = Z / 2 ^ (64 * k)) (hq : q = Z / 2 ^ (64 * k) / V) (he : Z' + 2 ^ (64 * k) * (q * V) = Z) : Z' < V * 2 ^ (64 * k) := by
  have hp : 0 < 2 ^ (64 * k) := Nat.pow_pos (by omega)
  have h1 := Nat.div_add_mod (Z / 2 ^ (64 * k)) V
  have h2 := Nat.mod_lt (Z / 2 ^ (64 * k)) hV
  have h3 := Nat.div_add_mod Z (2 ^ (64 * k))
  have h4 := Nat.mod_lt Z hp
  rw [← hq] at h1
  have h5 : Z / 2 ^ (64 * k) + 1 ≤ V * q + V := by omega
  have h6 := Nat.mul_le_mul_left (2 ^ (64 * k)) h5
  rw [Nat.mul_add, Nat.mul_add, Nat.mul_one, Nat.mul_comm V q] at h6
  rw [Nat.mul_comm V]
  omega
theorem long_win (Z V k n : Nat) (hVn : V < 2 ^ (64 * n)) (hZ : Z < V * 2 ^ (64 * (k + 1))) : win Z k (n + 1) = Z / 2 ^ (64 * k) ∧ win Z k (n + 1) < V * 2 ^ 64 := by
  have hp : 0 < 2 ^ (64 * k) := Nat.pow_pos (by omega)
  have h1 : Z / 2 ^ (64 * k) < V * 2 ^ 64 := by
    rw [Nat.div_lt_iff_lt_mul hp, Nat.mul_assoc, Nat.mul_comm (2 ^ 64), ← pow64_succ]; exact hZ
  have h2 : V * 2 ^ 64 ≤ 2 ^ (64 * (n + 1)) := by rw [pow64_succ]; exact Nat.mul_le_mul_right _ (Nat.le_of_lt hVn)
  have h3 : win Z k (n + 1) = Z / 2 ^ (64 * k) := Nat.mod_eq_of_lt (Nat.lt_of_lt_of_le h1 h2)
  exact ⟨h3, by rw [h3]; exact h1⟩
theorem setL_below (Q k v : Nat) (h : Q % 2 ^ (64 * (k + 1)) = 0) : setL Q k v = Q + 2 ^ (64 * k) * v ∧ (Q + 2 ^ (64 * k) * v) % 2 ^ (64 * k) = 0 := by
  have h0 : lmN Q k = 0 := by
    have := low_succ Q k
    rw [h] at this
    have hp : 0 < 2 ^ (64 * k) := Nat.pow_pos (by omega)
    rcases Nat.eq_zero_or_pos (lmN Q k) with h1 | h1
    · exact h1
    · have : 0 < 2 ^ (64 * k) * lmN Q k := Nat.mul_pos hp h1
      omega
  have h1 := setL_eq Q k v
  rw [h0, Nat.mul_zero, Nat.add_zero] at h1
  refine ⟨h1, ?_⟩
  rw [Nat.add_mul_mod_self_left]
  have h2 := low_succ Q k
  rw [h, h0, Nat.mul_zero, Nat.add_zero] at h2
  exact h2.symm
theorem top_limb (d : Nat) (h : 2 ^ 64 ≤ d) (h2 : d < 2 ^ 256) : ∃ m, m ≤ 2 ∧ (bl d + 63) / 64 = m + 2 ∧ d < 2 ^ (64 * (m + 2)) ∧ 0 < lmN d (m + 1) ∧ 64 * (m + 1) + bl (lmN d (m + 1)) = bl d := by
  have hs := bl_spec d (by have : 0 < 2 ^ 64 := by decide
                           omega)
  have hb := bl_le d 256 h2
  have h65 : 65 ≤ bl d := by
    rcases Nat.lt_or_ge (bl d) 65 with h3 | h3
    · have : 2 ^ bl d ≤ 2 ^ 64 := Nat.pow_le_pow_right (by omega) (by omega)
      omega
    · exact h3
  obtain ⟨m, hm⟩ : ∃ m, (bl d + 63) / 64 = m + 2 := ⟨(bl d + 63) / 64 - 2, by omega⟩
  have hd : d < 2 ^ (64 * (m + 2)) := Nat.lt_of_lt_of_le hs.2.2 (Nat.pow_le_pow_right (by omega) (by omega))
  have hn : lmN d (m + 1) ≠ 0 := by
    unfold lmN
    have hp : 0 < 2 ^ (64 * (m + 1)) := Nat.pow_pos (by omega)
    rw [show m + 2 = (m + 1) + 1 from rfl, pow64_succ, Nat.mul_comm] at hd
    rw [Nat.mod_eq_of_lt ((Nat.div_lt_iff_lt_mul hp).2 hd)]
    have : 2 ^ (64 * (m + 1)) ≤ d := Nat.le_trans (Nat.pow_le_pow_right (by omega) (by omega)) hs.2.1
    have := Nat.div_pos this hp
    omega
  exact ⟨m, by omega, hm, hd, Nat.pos_of_ne_zero hn, bl_top d (m + 1) hd hn⟩
end Go.Proofs.YtejnnghfelpioaaGreat
namespace Go.Proofs.YtejnnghfelpioaaGreat
open Go.RowKit
structure DvA (N L m d : Nat) (w wr : World) (Vv : Nat) : Prop where
  box : ArrW 24 wr N d
  res : ArrW 24 wr (N + 1) 0
  quo : ArrM 22 L wr (N + 2) 0
  dv : ArrM 22 (m + 2) wr (N + 3) Vv
  below : Below N w wr
theorem DvA.put {N L m d : Nat} {w wr : World} {Vv : Nat} (h : DvA N L m d w wr Vv) (j v : Nat) (hv : v < 2 ^ 64) : DvA N L m d w (wr.setCell ⟨N + 3, j, none⟩ (.int .u64 (v : Int))) (setL Vv j v) :=
  ⟨h.box.other (by show N ≠ N + 3; omega) _, h.res.other (by show N + 1 ≠ N + 3; omega) _, h.quo.other (by show N + 2 ≠ N + 3; omega) _, h.dv.set j v hv, h.below.setCell (p := ⟨N + 3, j, none⟩) (by show N ≤ N + 3; omega) _⟩
theorem DvA.ext {N L m d : Nat} {w wr : World} {Vv : Nat} (h : DvA N L m d w wr Vv) (hN : N ≤ w.heap.size) (y : World) : DvA N L m d w (wr.ext y) Vv :=
  ⟨h.box.ext y, h.res.ext y, h.quo.ext y, h.dv.ext y, World.ext_below_of h.below (Nat.le_trans hN h.below.size) y⟩
structure DvC (N L m d X V : Nat) (w wr : World) (Q Z : Nat) : Prop where
  box : ArrW 24 wr N d
  res : ArrW 24 wr (N + 1) 0
  quo : ArrM 22 L wr (N + 2) Q
  dv : ArrM 22 (m + 2) wr (N + 3) V
  xs : ArrM 22 (L + 1) wr X Z
  below : Below N w wr
theorem DvC.put {N L m d X V : Nat} {w wr : World} {Q Z : Nat} (h : DvC N L m d X V w wr Q Z) (hX : N + 3 < X) (j v : Nat) (hv : v < 2 ^ 64) : DvC N L m d X V w (wr.setCell ⟨X, j, none⟩ (.int .u64 (v : Int))) Q (setL Z j v) :=
  ⟨h.box.other (by show N ≠ X; omega) _, h.res.other (by show N + 1 ≠ X; omega) _, h.quo.other (by show N + 2 ≠ X; omega) _, h.dv.other (by show N + 3 ≠ X; omega) _, h.xs.set j v hv, h.below.setCell (p := ⟨X, j, none⟩) (by show N ≤ X; omega) _⟩
theorem DvC.putq {N L m d X V : Nat} {w wr : World} {Q Z : Nat} (h : DvC N L m d X V w wr Q Z) (hX : N + 3 < X) (j v : Nat) (hv : v < 2 ^ 64) : DvC N L m d X V w (wr.setCell ⟨N + 2, j, none⟩ (.int .u64 (v : Int))) (setL Q j v) Z :=
  ⟨h.box.other (by show N ≠ N + 2; omega) _, h.res.other (by show N + 1 ≠ N + 2; omega) _, h.quo.set j v hv, h.dv.other (by show N + 3 ≠ N + 2; omega) _, h.xs.other (by show X ≠ N + 2; omega) _, h.below.setCell (p := ⟨N + 2, j, none⟩) (by show N ≤ N + 2; omega) _⟩
theorem DvC.ext {N L m d X V : Nat} {w wr : World} {Q Z : Nat} (h : DvC N L m d X V w wr Q Z) (hN : N ≤ w.heap.size) (y : World) : DvC N L m d X V w (wr.ext y) Q Z :=
  ⟨h.box.ext y, h.res.ext y, h.quo.ext y, h.dv.ext y, h.xs.ext y, World.ext_below_of h.below (Nat.le_trans hN h.below.size) y⟩
theorem DvC.turn {N L m d X V : Nat} {w wr wn : World} {Q Z Z' : Nat} (h : DvC N L m d X V w wr Q Z) (hX : N + 3 < X) (hb : Below X wr wn) (hx : ArrM 22 (L + 1) wn X Z') : DvC N L m d X V w wn Q Z' :=
  ⟨h.box.below hb (by omega), h.res.below hb (by omega), h.quo.below hb (by omega), h.dv.below hb (by omega), hx, h.below.trans (hb.mono (by omega))⟩
theorem DvC.alloc {N L m d X V : Nat} {w wr : World} {Q Z : Nat} (h : DvC N L m d X V w wr Q Z) (hN : N ≤ w.heap.size) (o : Obj) : DvC N L m d X V w (wr.alloc o) Q Z :=
  ⟨h.box.alloc _, h.res.alloc _, h.quo.alloc _, h.dv.alloc _, h.xs.alloc _, h.below.alloc (Nat.le_trans hN h.below.size) _⟩
set_option maxRecDepth 100000 in
set_option maxHeartbeats 8000000 in
theorem divideN_any (L U d : Nat) (v : Value) (w : World) (hr : RdM w v L U) (hU : U < 2 ^ (64 * L)) (hL4 : 4 ≤ L) (hL9 : L ≤ 9) (hd : 2 ^ 64 ≤ d) (hd256 : d < 2 ^ 256) :
    Calls Tryz.prog 127 #[v, wd d] w fun e w' => ∃ gq, e = .returned (.tuple #[.slice (some ⟨gq, 0, none⟩) L L, wd (U % d)]) ∧ ArrM 22 L w' gq (U / d) ∧ w.heap.size ≤ gq ∧ Below w.heap.size w w' := by
  have hW := hid (fun v w hr => width_any 4 d v w hr hd256 (by omega))
  obtain ⟨m, hm2, hbn, hdn, htop, hbt⟩ := top_limb d hd hd256
  have hb2 := bl_le d 256 hd256
  have htl := bl_le (lmN d (m + 1)) 64 (lmN_lt _ _)
  have hLZ := hid (fun w => lz64_same (lmN d (m + 1)) (lmN_lt _ _) w)
  have hds := bl_spec d (by omega)
  obtain ⟨s, hs⟩ : ∃ s, s = 64 - bl (lmN d (m + 1)) := ⟨_, rfl⟩
  rw [← hs] at hLZ
  have htb := (bl_spec (lmN d (m + 1)) (by omega)).1
  have hs63 : s ≤ 63 := by omega
  obtain ⟨V, hV⟩ : ∃ V, V = d * 2 ^ s := ⟨_, rfl⟩
  have hps : 0 < 2 ^ s := Nat.pow_pos (by omega)
  have hV1 : V < 2 ^ (64 * (m + 2)) := by
    rw [hV, show 64 * (m + 2) = bl d + s by omega, Nat.pow_add]
    exact Nat.mul_lt_mul_of_pos_right hds.2.2 hps
  have hV0 : 2 ^ (64 * (m + 1) + 63) ≤ V := by
    rw [hV, show 64 * (m + 1) + 63 = bl d - 1 + s by omega, Nat.pow_add]
    exact Nat.mul_le_mul_right _ hds.2.1
  have hV2 : 0 < lmN V (m + 1) := by
    unfold lmN
    have hp : 0 < 2 ^ (64 * (m + 1)) := Nat.pow_pos (by omega)
    have h1 := hV1
    rw [show m + 2 = (m + 1) + 1 from rfl, pow64_succ, Nat.mul_comm] at h1
    rw [Nat.mod_eq_of_lt ((Nat.div_lt_iff_lt_mul hp).2 h1)]
    exact Nat.div_pos (Nat.le_trans (Nat.pow_le_pow_right (by omega) (by omega)) hV0) hp
  have hVpos : 0 < V := by rw [hV]; exact Nat.mul_pos (by omega) hps
  have hZ0 : U * 2 ^ s < V * 2 ^ (64 * (L - (m + 2) + 1)) := by
    have h1 : U * 2 ^ s < 2 ^ (64 * L) * 2 ^ s := Nat.mul_lt_mul_of_pos_right hU hps
    have h2 : 2 ^ (64 * L) * 2 ^ s ≤ 2 ^ (64 * L) * 2 ^ 63 := Nat.mul_le_mul_left _ (Nat.pow_le_pow_right (by omega) hs63)
    have h3 : 2 ^ (64 * (m + 1) + 63) * 2 ^ (64 * (L - (m + 2) + 1)) ≤ V * 2 ^ (64 * (L - (m + 2) + 1)) := Nat.mul_le_mul_right _ hV0
    rw [← Nat.pow_add] at h2 h3
    rw [← Nat.pow_add] at h2
    rw [show 64 * (m + 1) + 63 + 64 * (L - (m + 2) + 1) = 64 * L + 63 by omega] at h3
    rw [← Nat.pow_add] at h1
    omega
  have HU := hid (show U % 2 ^ (64 * L) = U from Nat.mod_eq_of_lt hU)
  obtain ⟨bd, hbd⟩ : ∃ b, b = bl d := ⟨_, rfl⟩
  rw [← hbd] at hW
  have hne : (((bd : Int) + 63) / 64) = (m : Int) + 2 := by omega
  have HV := hid hV
  have HV1 := hid hV1
  have HV2 := hid hV2
  have HVp := hid hVpos
  have HZ0 := hid hZ0
  have hVd : V / 2 ^ s = d := by rw [hV, Nat.mul_div_cancel _ hps]
  have HVd := hid hVd
  have hmk := mkM L (by omega)
  have hmk2 : ∀ w : World, (Instr.makeSlice 153 (.int .i64 ((m : Int) + 2)) (.int .i64 ((m : Int) + 2))).run Tryz.prog w = .ok (.slice (some ⟨w.heap.size, 0, none⟩) (m + 2) (m + 2)) (w.alloc (.cells (cellsM (m + 2) 0) 22)) := fun w => mkM (m + 2) (by omega) w
  have hmk3 : ∀ w : World, (Instr.makeSlice 153 (.int .i64 ((L : Int) + 1)) (.int .i64 ((L : Int) + 1))).run Tryz.prog w = .ok (.slice (some ⟨w.heap.size, 0, none⟩) (L + 1) (L + 1)) (w.alloc (.cells (cellsM (L + 1) 0) 22)) := fun w => mkM (L + 1) (by omega) w
  obtain ⟨a, cap, rfl, hc, hr⟩ := hr
  have HR := hid hr
  have hmne : ¬ (m : Int) + 2 = 1 := by omega
  have hml : m + 2 ≤ 4 := by omega
  clear hr hU hd hd256 hbn hdn htop hbt hb2 htl hds hs htb hV hV1 hV0 hV2 hVpos hZ0 hVd hbd hps
  unfold wd at *
  have hA0 := hid (show ArrW 24 (((w.alloc (.cells (cellsW d) 24)).alloc (.cells (cellsW 0) 24)).alloc (.cells (cellsM L 0) 22)) w.heap.size d from ((ArrW.new _ w d).alloc _).alloc _)
  have hrd := hid (show RdM ((w.alloc (.cells (cellsW d) 24)).alloc (.cells (cellsW 0) 24)) (.slice (some ⟨w.heap.size, 0, none⟩) 4 4) 4 d from ((ArrW.new _ w d).alloc _).toM.rd 4 (by omega))
  have hB0 := hid (show ArrW 24 (((w.alloc (.cells (cellsW d) 24)).alloc (.cells (cellsW 0) 24)).alloc (.cells (cellsM L 0) 22)) (w.heap.size + 1) 0 by
    have := ArrW.new 24 (w.alloc (.cells (cellsW d) 24)) 0
    rw [World.size_alloc] at this; exact this.alloc _)
  have hC0 := hid (show ArrM 22 L (((w.alloc (.cells (cellsW d) 24)).alloc (.cells (cellsW 0) 24)).alloc (.cells (cellsM L 0) 22)) (w.heap.size + 2) 0 by
    have := ArrM.new 22 L ((w.alloc (.cells (cellsW d) 24)).alloc (.cells (cellsW 0) 24)) 0
    rw [World.size_alloc, World.size_alloc] at this; exact this)
  have hb0 : Below w.heap.size w (((w.alloc (.cells (cellsW d) 24)).alloc (.cells (cellsW 0) 24)).alloc (.cells (cellsM L 0) 22)) := (((Below.refl _ _).alloc (Nat.le_refl _) _).alloc (by simp) _).alloc (by simp; omega) _
  have cd := hA0.out.cell (m + 1) (by omega)
  have ld := hA0.out.lt
  go_enter Tryz.func127, Tryz.ntmps127
  go_wp2_with (refine wpList_alloc_new rfl 24 rfl (cellsW 0) zWd ?_; simp only [Act.put, pvA, pv0, pv1, World.size_alloc])
  refine (hW.out _ _ hrd.out).mono ?_
  rintro e w1 ⟨rfl, rfl⟩
  go_wp2_with fail
  refine (hLZ.out _).mono ?_
  rintro e w1 ⟨rfl, rfl⟩
  have hbf : (((m : Int) + 2) == 1) = false := beq_eq_false_iff_ne.2 (by omega)
  simp only [hne, hbf]
  have hI0 : Hid (DvA w.heap.size L m d w ((((w.alloc (.cells (cellsW d) 24)).alloc (.cells (cellsW 0) 24)).alloc (.cells (cellsM L 0) 22)).alloc (.cells (cellsM (m + 2) 0) 22)) (V % 2 ^ (64 * 0))) := hid ⟨hA0.out.alloc _, hB0.out.alloc _, hC0.out.alloc _, by
    rw [Nat.mul_zero, Nat.pow_zero, Nat.mod_one]
    have := ArrM.new 22 (m + 2) (((w.alloc (.cells (cellsW d) 24)).alloc (.cells (cellsW 0) 24)).alloc (.cells (cellsM L 0) 22)) 0
    rw [World.size_alloc, World.size_alloc, World.size_alloc] at this; exact this, hb0.alloc hb0.size _⟩
  clear hA0 hB0 hC0 hb0 hrd cd ld hW hLZ hbf
  go_wp2_with fail
  (try simp only [World.size_alloc, show m + 2 - 1 = m + 1 from rfl])
  generalize (((w.alloc (.cells (cellsW d) 24)).alloc (.cells (cellsW 0) 24)).alloc (.cells (cellsM L 0) 22)).alloc (.cells (cellsM (m + 2) 0) 22) = w1 at hI0 ⊢
  have h64 : (64 - (s : Int)).toNat = 64 - s := by omega
  go_loopw [59] (fun iv wr => ∃ i : Nat, i ≤ m + 2 ∧ iv = .int .i64 (i : Int) ∧ Hid (DvA w.heap.size L m d w wr (V % 2 ^ (64 * i))))
    (fun iv _ => m + 2 - (intOf iv).toNat)
  case atStart => exact ⟨0, by omega, rfl, hI0⟩
  case round =>
    clear hI0
    obtain ⟨i, hi, rfl, hI⟩ := hrel
    by_cases hlt : i < m + 2
    · have cd := hI.out.box.cell i (by omega)
      have ld := hI.out.box.lt
      have cv := hI.out.dv.cell i hlt
      have fv := hI.out.dv.free i
      have lv := hI.out.dv.lt
      have gd := lmN_lt d i
      obtain ⟨u1, hu1⟩ : ∃ u, u = lmN d i * 2 ^ s % 2 ^ 64 := ⟨_, rfl⟩
      have bu1 : u1 < 2 ^ 64 := by rw [hu1]; exact Nat.mod_lt _ (by decide)
      have E1 : IntKind.u64.wrap (lm d i * 2 ^ s) = (u1 : Int) := by
        unfold lm
        rw [hu1, show ((lmN d i : Nat) : Int) * 2 ^ s = ((lmN d i * 2 ^ s : Nat) : Int) by rw [Int.natCast_mul, Int.natCast_pow]; rfl, u64w_nat]
      rcases Nat.eq_zero_or_pos i with h0 | h0
      · subst h0
        have HS := hid (show V % 2 ^ (64 * (0 + 1)) = setL (V % 2 ^ (64 * 0)) 0 u1 by
          rw [low_succ, setL_top _ _ _ (low_lt V 0), HV.out, shl_limb0, hu1])
        clear hu1
        go_wp2_with fail
        go_roundw
        case rel => exact ⟨1, by omega, by go_num, hid (by rw [show (1 : Nat) = 0 + 1 from rfl, HS.out]; exact hI.out.put 0 u1 bu1)⟩
        case measure => simp [intOf]
      · obtain ⟨j, rfl⟩ : ∃ j, i = j + 1 := ⟨i - 1, by omega⟩
        have cd2 := hI.out.box.cell j (by omega)
        have hv2 : lmN V (j + 1) = u1 ||| lmN d j / 2 ^ (64 - s) := by rw [HV.out, shl_limb d s j (by omega), hu1]
        have HVal := hid (show bits .or .u64 (u1 : Int) (lm d j / 2 ^ (64 - s)) = ((lmN V (j + 1) : Nat) : Int) by
          rw [hv2, ← u64_or_nat _ _ bu1 (Nat.lt_of_le_of_lt (Nat.div_le_self _ _) (lmN_lt d j)), Int.natCast_ediv, Int.natCast_pow]; rfl)
        have HS := hid (show V % 2 ^ (64 * (j + 1 + 1)) = setL (setL (V % 2 ^ (64 * (j + 1))) (j + 1) u1) (j + 1) (lmN V (j + 1)) by
          rw [low_succ, setL_twice _ _ _ _ (low_lt V (j + 1)) bu1])
        have hI1 := hid (hI.out.put (j + 1) u1 bu1)
        clear hu1 hv2
        go_wp2_with fail
        clear cd cd2 ld cv fv lv hI
        generalize wr.setCell ⟨w.heap.size + 3, j + 1, none⟩ (.int .u64 (u1 : Int)) = wr at hI1 ⊢
        have cd2 := hI1.out.box.cell j (by omega)
        have ld := hI1.out.box.lt
        have cv := hI1.out.dv.cell (j + 1) hlt
        rw [lmN_setL _ _ _ _ bu1, if_pos rfl] at cv
        have fv := hI1.out.dv.free (j + 1)
        have lv := hI1.out.dv.lt
        (refine wp_region_ext_tail 13 (by kernel_rfl) (by kernel_rfl) ?_; simp only [List.take_succ_cons, List.take_zero, List.drop_succ_cons, List.drop_zero]; (repeat (go_big_quiet_step (first | fail))); refine wpQuiet_nil ?_; rintro _ ⟨xw, rfl⟩)
        go_wp2_with fail
        go_roundw
        case rel =>
          rw [HVal.out]
          exact ⟨j + 1 + 1, by omega, by go_num, hid (by rw [HS.out]; exact (hI1.out.ext (Nat.le_refl _) xw).put (j + 1) _ (lmN_lt _ _))⟩
        case measure => simp [intOf]; omega
    · obtain rfl : i = m + 2 := by omega
      rw [Nat.mod_eq_of_lt HV1.out] at hI
      have hXn := hI.out.dv.lt
      obtain ⟨X, hX⟩ : ∃ X, X = wr.heap.size := ⟨_, rfl⟩
      have hXA : Hid (ArrM 22 (L + 1) (wr.alloc (.cells (cellsM (L + 1) 0) 22)) X (U % 2 ^ (64 * 0) * 2 ^ s)) := hid (by
        rw [Nat.mul_zero, Nat.pow_zero, Nat.mod_one, Nat.zero_mul, hX]; exact ArrM.new _ _ _ _)
      have hI2 : Hid (DvA w.heap.size L m d w (wr.alloc (.cells (cellsM (L + 1) 0) 22)) V) := hid ⟨hI.out.box.alloc _, hI.out.res.alloc _, hI.out.quo.alloc _, hI.out.dv.alloc _, hI.out.below.alloc hI.out.below.size _⟩
      clear hI hlt hi
      go_wp2_with fail
      (try simp only [← hX])
      generalize wr.alloc (.cells (cellsM (L + 1) 0) 22) = w2 at hXA hI2 ⊢
      rw [← hX] at hXn
      clear hX
      have hJ : Hid (DvC w.heap.size L m d X V w w2 0 (U % 2 ^ (64 * 0) * 2 ^ s)) := hid ⟨hI2.out.box, hI2.out.res, hI2.out.quo, hI2.out.dv, hXA.out, hI2.out.below⟩
      clear hXA hI2
      go_loopw [92] (fun iv wr => ∃ i : Nat, i ≤ L ∧ iv = .int .i64 (i : Int) ∧ Hid (DvC w.heap.size L m d X V w wr 0 (U % 2 ^ (64 * i) * 2 ^ s)))
        (fun iv _ => L - (intOf iv).toNat)
      case atStart => exact ⟨0, by omega, rfl, hJ⟩
      case round =>
        clear hJ
        obtain ⟨i, hi, rfl, hJ⟩ := hrel
        by_cases hlt : i < L
        · obtain ⟨b, off, rfl, hbl, hcell⟩ := HR.out (by omega)
          obtain ⟨t1, t2, t3⟩ := lift_step U s i (by omega)
          have cx := hJ.out.xs.cell i (by omega)
          have fx := hJ.out.xs.free i
          have lx := hJ.out.xs.lt
          have cu := (hJ.out.below.cell (p := ⟨b, off + i, none⟩) hbl).trans (hcell i hlt)
          have lu : b < wr.heap.size := Nat.lt_of_lt_of_le hbl hJ.out.below.size
          have gu := lmN_lt U i
          obtain ⟨c, hc2⟩ : ∃ c, c = lmN (U % 2 ^ (64 * i) * 2 ^ s) i := ⟨_, rfl⟩
          rw [← hc2] at t1 t2 t3 cx
          have hcs : c < 2 ^ 64 := Nat.lt_trans t1 (Nat.lt_of_le_of_lt (Nat.pow_le_pow_right (by omega) hs63) (by decide))
          obtain ⟨y, hy⟩ : ∃ y, y = c + lmN U i * 2 ^ s % 2 ^ 64 := ⟨_, rfl⟩
          have HVal := hid (show bits .or .u64 (c : Int) (IntKind.u64.wrap (((lmN U i : Nat) : Int) * 2 ^ s)) = (y : Int) by
            rw [show ((lmN U i : Nat) : Int) * 2 ^ s = ((lmN U i * 2 ^ s : Nat) : Int) by rw [Int.natCast_mul, Int.natCast_pow]; rfl, u64w_nat, show (18446744073709551616 : Nat) = 2 ^ 64 from by decide]
            rw [u64_or_nat _ _ hcs (Nat.mod_lt _ (by decide)), or_shl c _ s (by omega) t1, hy])
          rw [← hy] at t2 t3
          have HT3 := hid t3
          obtain ⟨z, hz⟩ : ∃ z, z = lmN U i / 2 ^ (64 - s) := ⟨_, rfl⟩
          have hz2 : z < 2 ^ 64 := by rw [hz]; exact Nat.lt_of_le_of_lt (Nat.div_le_self _ _) gu
          have HZv := hid (show (((lmN U i : Nat) : Int)) / 2 ^ (64 - s) = (z : Int) by rw [hz, Int.natCast_ediv, Int.natCast_pow]; rfl)
          rw [← hz] at HT3
          clear hc2 hy hz t3 hcell t1
          go_wp2_with fail
          (refine wp_region_ext_tail 12 (by kernel_rfl) (by kernel_rfl) ?_; simp only [List.take_succ_cons, List.take_zero, List.drop_succ_cons, List.drop_zero]; (repeat (go_big_quiet_step (first | fail))); refine wpQuiet_nil ?_; rintro _ ⟨xw, rfl⟩)
          have hJ1 := hid ((hJ.out.ext (Nat.le_refl _) xw).put hXn i y t2)
          have cx1 := hJ.out.xs.cell (i + 1) (by omega)
          have fx1 := hJ.out.xs.free (i + 1)
          have hbX : ¬ b = X := by omega
          have hbX' : ¬ X = b := by omega
          go_wp2_with fail
          rw [HVal.out]
          rw [HZv.out]
          go_roundw
          case rel => exact ⟨i + 1, by omega, by go_num, hid (by rw [← HT3.out]; exact hJ1.out.put hXn (i + 1) z hz2)⟩
          case measure => simp [intOf]; omega
        · obtain rfl : L = i := by omega
          rw [HU.out] at hJ
          clear hlt hi
          have hge : ¬ ((L : Int) - ((m : Int) + 2) < 0) := by omega
          go_wp2_with fail
          go_loopw [15] (fun kv wr => ∃ k Q Z : Nat, k ≤ L - (m + 2) + 1 ∧ kv = .int .i64 ((k : Int) - 1) ∧ Hid (Z < V * 2 ^ (64 * k) ∧ Z + V * Q = U * 2 ^ s ∧ Q % 2 ^ (64 * k) = 0) ∧ Hid (DvC w.heap.size L m d X V w wr Q Z))
            (fun kv _ => (intOf kv + 1).toNat)
          case atStart => exact ⟨L - (m + 2) + 1, 0, U * 2 ^ s, Nat.le_refl _, by go_num, hid ⟨HZ0.out, by rw [Nat.mul_zero, Nat.add_zero], Nat.zero_mod _⟩, hJ⟩
          case round =>
            clear hJ
            obtain ⟨k, Q, Z, hk, rfl, hQ, hJ⟩ := hrel
            by_cases h0 : k = 0
            · subst h0
              have hZV : Z < V := by have := hQ.out.1; rw [Nat.mul_zero, Nat.pow_zero, Nat.mul_one] at this; exact this
              have hdiv : U * 2 ^ s / V = Q := by
                rw [← hQ.out.2.1, Nat.add_mul_div_left _ _ HVp.out, Nat.div_eq_of_lt hZV, Nat.zero_add]
              have hmod : U * 2 ^ s % V = Z := by
                rw [← hQ.out.2.1, Nat.add_mul_mod_self_left, Nat.mod_eq_of_lt hZV]
              have hsh := div_shift U d s
              rw [← HV.out, hdiv, hmod] at hsh
              have HQd := hid hsh.1.symm
              have HRd := hid hsh.2.symm
              have HZl := hid (show Z / 2 ^ s % 2 ^ (64 * (m + 2)) = Z / 2 ^ s from Nat.mod_eq_of_lt (Nat.lt_of_le_of_lt (Nat.div_le_self _ _) (Nat.lt_trans hZV HV1.out)))
              have hRs := hid hJ.out.below.size
              have hJ1 := hid (hJ.out.alloc (Nat.le_refl _) (.cells (cellsW 0) 24))
              have hR1 := hid (ArrW.new 24 wr 0)
              have hXR := hJ.out.xs.lt
              have hqR := hJ.out.quo.lt
              clear hQ hZV hdiv hmod hsh hJ hk
              go_wp2_with (refine wpList_alloc_new rfl 24 rfl (cellsW 0) zWd ?_; simp only [Act.put, pvA, pv0, pv1, World.size_alloc])
              generalize ((0 : Nat) : Int) - 1 = mone
              obtain ⟨R, hR⟩ : ∃ R, R = wr.heap.size := ⟨_, rfl⟩
              have hK : Hid (DvC w.heap.size L m d X V w (wr.alloc (.cells (cellsW 0) 24)) Q Z ∧ ArrM 24 4 (wr.alloc (.cells (cellsW 0) 24)) R (Z / 2 ^ s % 2 ^ (64 * 0))) := hid ⟨hJ1.out, by
                rw [Nat.mul_zero, Nat.pow_zero, Nat.mod_one, hR]; exact hR1.out.toM⟩
              rw [← hR] at hXR ⊢
              generalize wr.alloc (.cells (cellsW 0) 24) = w6 at hK ⊢
              clear hJ1 hR1 hR hRs hqR
              go_loopw [140] (fun iv wr => ∃ i : Nat, i ≤ m + 2 ∧ iv = .int .i64 (i : Int) ∧ Hid (DvC w.heap.size L m d X V w wr Q Z ∧ ArrM 24 4 wr R (Z / 2 ^ s % 2 ^ (64 * i))))
                (fun iv _ => m + 2 - (intOf iv).toNat)
              case atStart => exact ⟨0, by omega, rfl, hK⟩
              case round =>
                clear hK
                obtain ⟨i, hi, rfl, hK⟩ := hrel
                by_cases hlt : i < m + 2
                · have cx := hK.out.1.xs.cell i (by omega)
                  have cx1 := hK.out.1.xs.cell (i + 1) (by omega)
                  have lx := hK.out.1.xs.lt
                  have cr := hK.out.2.cell i (by omega)
                  have fr := hK.out.2.free i
                  have lr := hK.out.2.lt
                  have gx := lmN_lt Z i
                  have gx1 := lmN_lt Z (i + 1)
                  have HVal := hid (show bits .or .u64 (((lmN Z i : Nat) : Int) / 2 ^ s) (IntKind.u64.wrap (((lmN Z (i + 1) : Nat) : Int) * 2 ^ (64 - s))) = ((lmN (Z / 2 ^ s) i : Nat) : Int) by
                    rw [shr_limb Z s i (by omega), show ((lmN Z i : Nat) : Int) / 2 ^ s = ((lmN Z i / 2 ^ s : Nat) : Int) by rw [Int.natCast_ediv, Int.natCast_pow]; rfl]
                    rw [show ((lmN Z (i + 1) : Nat) : Int) * 2 ^ (64 - s) = ((lmN Z (i + 1) * 2 ^ (64 - s) : Nat) : Int) by rw [Int.natCast_mul, Int.natCast_pow]; rfl, u64w_nat, show (18446744073709551616 : Nat) = 2 ^ 64 from by decide]
                    rw [u64_or_nat _ _ (Nat.lt_of_le_of_lt (Nat.div_le_self _ _) gx) (Nat.mod_lt _ (by decide))])
                  have HS := hid (show Z / 2 ^ s % 2 ^ (64 * (i + 1)) = setL (Z / 2 ^ s % 2 ^ (64 * i)) i (lmN (Z / 2 ^ s) i) by
                    rw [low_succ, setL_top _ _ _ (low_lt _ i)])
                  go_wp2_with fail
                  (refine wp_region_ext_tail 17 (by kernel_rfl) (by kernel_rfl) ?_; simp only [List.take_succ_cons, List.take_zero, List.drop_succ_cons, List.drop_zero]; (repeat (go_big_quiet_step (first | fail))); refine wpQuiet_nil ?_; rintro _ ⟨xw, rfl⟩)
                  go_wp2_with fail
                  go_roundw
                  case rel =>
                    rw [HVal.out]
                    refine ⟨i + 1, by omega, by go_num, hid ⟨?_, by rw [HS.out]; exact (hK.out.2.ext xw).set i _ (lmN_lt _ _)⟩⟩
                    have hE := hK.out.1.ext (Nat.le_refl _) xw
                    exact ⟨hE.box.other (by show w.heap.size ≠ R; omega) _, hE.res.other (by show w.heap.size + 1 ≠ R; omega) _, hE.quo.other (by show w.heap.size + 2 ≠ R; omega) _, hE.dv.other (by show w.heap.size + 3 ≠ R; omega) _, hE.xs.other (by show X ≠ R; omega) _, hE.below.setCell (p := ⟨R, i, none⟩) (by show w.heap.size ≤ R; omega) _⟩
                  case measure => simp [intOf]; omega
                · obtain rfl : i = m + 2 := by omega
                  rw [HZl.out, ← HRd.out, ← HQd.out] at hK
                  obtain ⟨r, hr⟩ : ∃ r, r = U % d := ⟨_, rfl⟩
                  rw [← hr] at hK
                  have HRR := hid hr
                  have hRw := hid hK.out.2.toW
                  have hres := hid hK.out.1.res
                  have hquo := hid hK.out.1.quo
                  have hbel := hK.out.1.below
                  have iR := hid (iW r)
                  have nR := hid (one_cellsW r)
                  clear hr hK hlt hi
                  go_wp2_with fail
                  ((try simp only [World.size_alloc]); refine wp_region_ext_tail 3 (by kernel_rfl) (by kernel_rfl) ?_; simp only [List.take_succ_cons, List.take_zero, List.drop_succ_cons, List.drop_zero]; (repeat (first | (refine wpQuiet_load_part rfl 24 (.tmp 16) rfl R 0 rfl 24 _ (cellsW _) (0, 0) _ hRw.out (fun j v h => by rw [Nat.zero_add]; exact h) uWd rfl iR.out ?_; simp only [Act.put, pvA, pv0, pv1]) | go_big_quiet_step (first | fail))); refine wpQuiet_nil ?_; rintro _ ⟨xw, rfl⟩)
                  have hres2 := hid (hres.out.ext xw)
                  have hquo2 := hid (hquo.out.ext xw)
                  have hbel2 := World.ext_below_of hbel hbel.size xw
                  clear hres hquo hbel
                  go_wp2_with (refine wpList_store_row rfl 24 (.tmp 5) (.tmp 162) rfl (w.heap.size + 1) _ rfl rfl 24 _ hres2.out iR.out rfl nR.out ?_; simp only [Act.put])
                  refine bodyPost_ret (results_tmp_row rfl _ _ (w.heap.size + 1) 24 (cellsW r) (0, 0) _ rfl (heap_setRow' _ _ _ _ _ hres2.out) uWd rfl iR.out) rfl ⟨w.heap.size + 2, by rw [HRR.out]; rfl, ?_, by omega, below_setRow' hbel2 _ (by omega) _⟩
                  have h9 := hquo2.out
                  unfold ArrM at *
                  simp only [World.setRow, Array.getElem?_modify]
                  rw [if_neg (by omega)]; exact h9
            · obtain ⟨j, rfl⟩ : ∃ j, k = j + 1 := ⟨k - 1, by omega⟩
              have e1 : (((j + 1 : Nat) : Int) - 1) = (j : Int) := by omega
              rw [e1]
              obtain ⟨w1', w2'⟩ := long_win Z V j (m + 2) HV1.out hQ.out.1
              have hSt := hid (step_any X j (L + 1) Z (w.heap.size + 3) m V (L + 1 - j) wr hJ.out.xs hJ.out.dv hXn (by omega) (by omega) (by omega) (by omega) HV1.out HV2.out w2')
              obtain ⟨q, hq⟩ : ∃ q, q = win Z j (m + 3) / V := ⟨_, rfl⟩
              rw [← hq] at hSt
              have hq64 : q < 2 ^ 64 := by rw [hq, Nat.div_lt_iff_lt_mul HVp.out, Nat.mul_comm]; exact w2'
              have hqe := hid (show q = Z / 2 ^ (64 * j) / V by rw [hq, ← w1'])
              have hW1 := hid w1'
              have cq := hJ.out.quo.cell j (by omega)
              clear e1 h0 hq w1' w2'
              go_wp2_with fail
              rw [show j + (m + 2) + 1 - j = m + 3 by omega]
              refine hSt.out.mono ?_
              rintro e w5 ⟨Z', rfl, hx5, he5, hb5⟩
              have hJ5 := hid (hJ.out.turn hXn hb5 hx5)
              have cq5 := hJ5.out.quo.cell j (by omega)
              have fq5 := hJ5.out.quo.free j
              have lq5 := hJ5.out.quo.lt
              have hnew := setL_below Q j q hQ.out.2.2
              have HN1 := hid hnew.1
              have HN2 := hid (And.intro (long_step Z Z' V j q (m + 2) HVp.out HV1.out hQ.out.1 hW1.out hqe.out he5) (And.intro (show Z' + V * (Q + 2 ^ (64 * j) * q) = U * 2 ^ s by
                have h1 := hQ.out.2.1
                rw [← he5] at h1
                rw [Nat.mul_add, Nat.mul_left_comm V, Nat.mul_comm V q]
                omega) hnew.2))
              clear hJ hb5 hx5 he5 hSt hnew cq
              go_wp2_with fail
              go_roundw
              case rel => exact ⟨j, Q + 2 ^ (64 * j) * q, Z', by omega, by go_num, HN2, hid (by rw [← HN1.out]; exact hJ5.out.putq hXn j q hq64)⟩
              case measure => simp [intOf]
end Go.Proofs.YtejnnghfelpioaaGreat
namespace Go.Proofs.YtejnnghfelpioaaGreat
open Go.RowKit
theorem divide_any (n U d : Nat) (v : Value) (w : World) (hr : RdM w v n U) (hU : U < 2 ^ (64 * n)) (hn4 : 4 ≤ n) (hn : n ≤ 9) (hd : 0 < d) (hd2 : d < 2 ^ 256) :
    Calls Tryz.prog 127 #[v, wd d] w fun e w' => ∃ gq, e = .returned (.tuple #[.slice (some ⟨gq, 0, none⟩) n n, wd (U % d)]) ∧ ArrM 22 n w' gq (U / d) ∧ w.heap.size ≤ gq ∧ Below w.heap.size w w' := by
  by_cases h : d < 2 ^ 64
  · exact divide1_any n U d v w hr hU hn hd h
  · exact divideN_any n U d v w hr hU hn4 hn (by omega) hd2
set_option maxHeartbeats 2000000 in
theorem wmulmod_any (a b d : Nat) (w : World) (ha : a < 2 ^ 256) (hb : b < 2 ^ 256) (hd256 : d < 2 ^ 256) : Calls Tryz.prog 94 #[wd a, wd b, wd d] w fun e w' => e = .returned (wd (modW (a * b) d)) ∧ Below w.heap.size w w' := by
  have hZ := hid (fun w => wzero_any d hd256 w)
  have iA := hid (iW a)
  have iB := hid (iW b)
  have iD := hid (iW d)
  have nD := hid (one_cellsW d)
  by_cases h0 : d = 0
  · have HY := hid (show modW (a * b) d = d by unfold modW; rw [if_pos h0, h0])
    rw [decide_eq_true h0] at hZ
    rw [HY.out]
    clear h0 HY ha hb hd256
    unfold wd at *
    have hA0 := hid (show ArrW 24 ((((w.alloc (.cells (cellsW a) 24)).alloc (.cells (cellsW b) 24)).alloc (.cells (cellsW d) 24)).alloc (.cells (cellsW 0) 24)) w.heap.size a from (((ArrW.new _ w a).alloc _).alloc _).alloc _)
    have hB0 := hid (show ArrW 24 ((((w.alloc (.cells (cellsW a) 24)).alloc (.cells (cellsW b) 24)).alloc (.cells (cellsW d) 24)).alloc (.cells (cellsW 0) 24)) (w.heap.size + 1) b by
      have := ArrW.new 24 (w.alloc (.cells (cellsW a) 24)) b
      rw [World.size_alloc] at this; exact (this.alloc _).alloc _)
    have hC0 := hid (show ArrW 24 ((((w.alloc (.cells (cellsW a) 24)).alloc (.cells (cellsW b) 24)).alloc (.cells (cellsW d) 24)).alloc (.cells (cellsW 0) 24)) (w.heap.size + 2) d by
      have := ArrW.new 24 ((w.alloc (.cells (cellsW a) 24)).alloc (.cells (cellsW b) 24)) d
      rw [World.size_alloc, World.size_alloc] at this; exact this.alloc _)
    have hD0 := hid (show ArrW 24 ((((w.alloc (.cells (cellsW a) 24)).alloc (.cells (cellsW b) 24)).alloc (.cells (cellsW d) 24)).alloc (.cells (cellsW 0) 24)) (w.heap.size + 3) 0 by
      have := ArrW.new 24 (((w.alloc (.cells (cellsW a) 24)).alloc (.cells (cellsW b) 24)).alloc (.cells (cellsW d) 24)) 0
      rw [World.size_alloc, World.size_alloc, World.size_alloc] at this; exact this)
    have hb0 : Below w.heap.size w ((((w.alloc (.cells (cellsW a) 24)).alloc (.cells (cellsW b) 24)).alloc (.cells (cellsW d) 24)).alloc (.cells (cellsW 0) 24)) := ((((Below.refl _ _).alloc (Nat.le_refl _) _).alloc (by simp) _).alloc (by simp; omega) _).alloc (by simp; omega) _
    go_enter Tryz.func94, Tryz.ntmps94
    go_wp2_with (first | (refine wpList_alloc_new rfl 24 rfl (cellsW 0) zWd ?_; simp only [Act.put, pvA, pv0, pv1, World.size_alloc]) | (refine wpList_load_row rfl 24 (.tmp 5) rfl (w.heap.size + 2) rfl 24 _ (0, 0) _ hC0.out uWd rfl iD.out ?_; simp only [Act.put, pvA, pv0, pv1]))
    refine (hZ.out _).mono ?_
    rintro e w1 ⟨rfl, hb1⟩
    have hC1 := hid (hC0.out.below hb1 hC0.out.lt)
    have hD1 := hid (hD0.out.below hb1 hD0.out.lt)
    have hb2 := hb0.trans (hb1.mono hb0.size)
    clear hA0 hB0 hC0 hD0 hb0 hb1
    go_wp2_with (first | (refine wpList_load_row rfl 24 (.tmp 5) rfl (w.heap.size + 2) rfl 24 _ (0, 0) _ hC1.out uWd rfl iD.out ?_; simp only [Act.put, pvA, pv0, pv1]) | (refine wpList_store_row rfl 24 (.tmp 6) (.tmp 12) rfl (w.heap.size + 3) _ rfl rfl 24 _ hD1.out iD.out rfl nD.out ?_; simp only [Act.put]))
    refine bodyPost_ret (results_cell_row rfl _ _ (w.heap.size + 3) 24 (cellsW d) (0, 0) _ rfl (heap_setRow' _ _ _ _ _ hD1.out) uWd rfl iD.out) rfl ⟨rfl, below_setRow' hb2 _ (by omega) _⟩
  · have HY := hid (show modW (a * b) d = a * b % d by unfold modW; rw [if_neg h0])
    rw [decide_eq_false h0] at hZ
    rw [HY.out]
    have hF := hid (fun w => wfull_any a b w ha hb)
    have hab : a * b < 2 ^ (64 * 8) := by
      have := Nat.mul_lt_mul'' ha hb
      rw [← Nat.pow_add, show 256 + 256 = 64 * 8 from rfl] at this; exact this
    have hDv := hid (fun v w hr => divide_any 8 (a * b) d v w hr hab (by omega) (by omega) (Nat.pos_of_ne_zero h0) hd256)
    obtain ⟨s, hs⟩ : ∃ s, s = a * b := ⟨_, rfl⟩
    obtain ⟨r, hr⟩ : ∃ r, r = s % d := ⟨_, rfl⟩
    rw [← hs] at hF hDv ⊢
    rw [← hr] at hDv ⊢
    clear ha hb h0 HY hd256 hab hs hr
    unfold wd at *
    have iR := hid (iW r)
    have nR := hid (one_cellsW r)
    have iP := hid (iM8 s)
    have nP := hid (one_cellsM 8 s)
    have hA0 := hid (show ArrW 24 ((((w.alloc (.cells (cellsW a) 24)).alloc (.cells (cellsW b) 24)).alloc (.cells (cellsW d) 24)).alloc (.cells (cellsW 0) 24)) w.heap.size a from (((ArrW.new _ w a).alloc _).alloc _).alloc _)
    have hB0 := hid (show ArrW 24 ((((w.alloc (.cells (cellsW a) 24)).alloc (.cells (cellsW b) 24)).alloc (.cells (cellsW d) 24)).alloc (.cells (cellsW 0) 24)) (w.heap.size + 1) b by
      have := ArrW.new 24 (w.alloc (.cells (cellsW a) 24)) b
      rw [World.size_alloc] at this; exact (this.alloc _).alloc _)
    have hC0 := hid (show ArrW 24 ((((w.alloc (.cells (cellsW a) 24)).alloc (.cells (cellsW b) 24)).alloc (.cells (cellsW d) 24)).alloc (.cells (cellsW 0) 24)) (w.heap.size + 2) d by
      have := ArrW.new 24 ((w.alloc (.cells (cellsW a) 24)).alloc (.cells (cellsW b) 24)) d
      rw [World.size_alloc, World.size_alloc] at this; exact this.alloc _)
    have hD0 := hid (show ArrW 24 ((((w.alloc (.cells (cellsW a) 24)).alloc (.cells (cellsW b) 24)).alloc (.cells (cellsW d) 24)).alloc (.cells (cellsW 0) 24)) (w.heap.size + 3) 0 by
      have := ArrW.new 24 (((w.alloc (.cells (cellsW a) 24)).alloc (.cells (cellsW b) 24)).alloc (.cells (cellsW d) 24)) 0
      rw [World.size_alloc, World.size_alloc, World.size_alloc] at this; exact this)
    have hb0 : Below w.heap.size w ((((w.alloc (.cells (cellsW a) 24)).alloc (.cells (cellsW b) 24)).alloc (.cells (cellsW d) 24)).alloc (.cells (cellsW 0) 24)) := ((((Below.refl _ _).alloc (Nat.le_refl _) _).alloc (by simp) _).alloc (by simp; omega) _).alloc (by simp; omega) _
    go_enter Tryz.func94, Tryz.ntmps94
    go_wp2_with (first | (refine wpList_alloc_new rfl 24 rfl (cellsW 0) zWd ?_; simp only [Act.put, pvA, pv0, pv1, World.size_alloc]) | (refine wpList_load_row rfl 24 (.tmp 5) rfl (w.heap.size + 2) rfl 24 _ (0, 0) _ hC0.out uWd rfl iD.out ?_; simp only [Act.put, pvA, pv0, pv1]))
    refine (hZ.out _).mono ?_
    rintro e w1 ⟨rfl, hb1⟩
    have hA1 := hid (hA0.out.below hb1 hA0.out.lt)
    have hB1 := hid (hB0.out.below hb1 hB0.out.lt)
    have hC1 := hid (hC0.out.below hb1 hC0.out.lt)
    have hD1 := hid (hD0.out.below hb1 hD0.out.lt)
    have hb2 := hb0.trans (hb1.mono hb0.size)
    clear hA0 hB0 hC0 hD0 hb0 hb1
    go_wp2_with (first | (refine wpList_load_row rfl 24 (.tmp 3) rfl w.heap.size rfl 24 _ (0, 0) _ hA1.out uWd rfl iA.out ?_; simp only [Act.put, pvA, pv0, pv1]) | (refine wpList_load_row rfl 24 (.tmp 4) rfl (w.heap.size + 1) rfl 24 _ (0, 0) _ hB1.out uWd rfl iB.out ?_; simp only [Act.put, pvA, pv0, pv1]))
    refine (hF.out _).mono ?_
    rintro e w2 ⟨rfl, hb3⟩
    have hC2 := hid ((hC1.out.below hb3 hC1.out.lt).alloc (.cells (cellsM 8 s) 107))
    have hD2 := hid ((hD1.out.below hb3 hD1.out.lt).alloc (.cells (cellsM 8 s) 107))
    have hP2 := hid (ArrM.new 107 8 w2 s)
    have hb4 := hb2.trans (hb3.mono hb2.size)
    have hb5 := hb4.alloc hb4.size (.cells (cellsM 8 s) 107)
    have hsz : w.heap.size + 4 ≤ w2.heap.size := by have h1 := (hD1.out.below hb3 hD1.out.lt).lt; omega
    clear hA1 hB1 hC1 hD1 hb2 hb3
    go_wp2_with (first | (refine wpList_allocStore 107 15 7 (cellsM 8 s) (cellsM 8 0) rfl rfl rfl rfl rfl rfl (by decide) (by simp) rfl (by kernel_rfl) (by rw [size_cellsM, size_cellsM]) iP.out nP.out ?_; simp only [Act.put, pvA, pv0, pv1]))
    have hrd := hid (hP2.out.rd 8 (by omega))
    generalize hw3 : w2.alloc (.cells (cellsM 8 s) 107) = w3 at hC2 hD2 hP2 hb5 hrd ⊢
    have hsz3 : w2.heap.size ≤ w3.heap.size := by rw [← hw3]; simp
    refine wp_region_loose_tail 8 [.kn (.slice (some ⟨w2.heap.size, 0, none⟩) 8 8), .kn (.agg (cellsW (d))), .lo (fun v _ => ∃ q, v = .tuple #[q, .agg (cellsW r)]), .lo (fun v _ => ∃ q, v = .tuple #[q, .agg (cellsW r)]), .lo (fun _ _ => True), .kn (.agg (cellsW (r))), .lo (fun v w => ∃ b, v = .pointer (some ⟨b, 0, none⟩) ∧ ArrW 24 w b 0 ∧ w2.heap.size ≤ b), .lo (fun _ _ => True)] (by kernel_rfl) (by kernel_rfl) (by kernel_rfl) ?_ ?_
    · refine keepsAll_kn (keepsAll_kn (keepsAll_lo (fun _ _ _ h _ => h) (keepsAll_lo (fun _ _ _ h _ => h) (keepsAll_lo (fun _ _ _ h _ => h) (keepsAll_kn (keepsAll_lo ?_ (keepsAll_lo (fun _ _ _ h _ => h) trivial)))))))
      rintro v w w' ⟨b, h1, h2, h3⟩ hb
      exact ⟨b, h1, h2.below hb h2.lt, h3⟩
    simp only [List.take_succ_cons, List.take_zero, List.drop_succ_cons, List.drop_zero]
    (refine loose_step_on rfl (fun W' hB' hd K hK => ?_) ?_; (focus (clear hd; go_simp; exact hK _ _ (Below.refl _ _) rfl)); rintro _ rfl; simp only [Act.put, pvA, pv0, pv1])
    (refine loose_step_on rfl (fun W' hB' hd K hK => wp_load_block 24 (.tmp 5) rfl (w.heap.size + 2) rfl 24 _ _ (ArrW.below hC2.out hB' (ArrW.lt hC2.out)) uWd rfl iD.out (hK _ _ (Below.refl _ _) rfl)) ?_; rintro _ rfl; simp only [Act.put, pvA, pv0, pv1])
    (refine loose_step_on rfl (fun W' hB' hd K hK => ?_) ?_; (focus (clear hd; go_simp; refine (hDv.out _ _ (hrd.out.below hB')).mono ?_; rintro _ _ ⟨gq, rfl, h1, h2, h3⟩; exact hK _ _ h3 ⟨_, rfl⟩)); intro v19 _; simp only [Act.put, pvA, pv0, pv1])
    (refine loose_step_on rfl (fun W' hB' hd K hK => ?_) ?_; (focus (have g19 : ∃ q, v19 = .tuple #[q, .agg (cellsW r)] := hd ⟨2, Ground.data⟩ (by simp) rfl _ 19 rfl rfl (by simp); clear hd; go_simp; exact hK _ _ (Below.refl _ _) g19)); intro v16 _; simp only [Act.put, pvA, pv0, pv1])
    (refine loose_step_on rfl (fun W' hB' hd K hK => ?_) ?_; (focus (have g16 : ∃ q, v16 = .tuple #[q, .agg (cellsW r)] := hd ⟨3, Ground.data⟩ (by simp) rfl _ 16 rfl rfl (by simp); clear hd; obtain ⟨x1, rfl⟩ := g16; go_simp; exact hK _ _ (Below.refl _ _) trivial)); intro v20 _; simp only [Act.put, pvA, pv0, pv1])
    (refine loose_step_on rfl (fun W' hB' hd K hK => ?_) ?_; (focus (have g16 : ∃ q, v16 = .tuple #[q, .agg (cellsW r)] := hd ⟨3, Ground.data⟩ (by simp) rfl _ 16 rfl rfl (by simp); clear hd; obtain ⟨x1, rfl⟩ := g16; go_simp; exact hK _ _ (Below.refl _ _) rfl)); rintro _ rfl; simp only [Act.put, pvA, pv0, pv1])
    (refine loose_step_on rfl (fun W' hB' hd K hK => wp_alloc_new 24 rfl (cellsW 0) zWd (hK _ _ ((Below.refl _ _).alloc (Nat.le_refl _) _) ⟨_, rfl, ArrW.new _ _ _, Nat.le_trans hsz3 hB'.size⟩)) ?_; intro v9 _; simp only [Act.put, pvA, pv0, pv1])
    (refine loose_step_on rfl (fun W' hB' hd K hK => ?_) ?_; (focus (clear hd; go_simp; exact hK _ _ (Below.refl _ _) trivial)); intro v8 _; simp only [Act.put, pvA, pv0, pv1])
    intro w6 hb6 hf
    have g9 : ∃ b, v9 = .pointer (some ⟨b, 0, none⟩) ∧ ArrW 24 w6 b 0 ∧ w2.heap.size ≤ b := hf 6 _ 9 (by first | omega | simp) rfl rfl (by simp)
    clear hf
    obtain ⟨bb, rfl, hR6, hle⟩ := g9
    have hD6 := hid ((hD2.out.below hb6 hD2.out.lt).otherRow (show w.heap.size + 3 ≠ bb by omega) (cellsW r))
    have HR := hid hR6
    have HR2 := hid (hR6.row r)
    have hb7 := below_setRow' (hb5.trans (hb6.mono hb5.size)) bb (by omega) (cellsW r)
    clear hb6 hC2 hD2 hP2 hrd hR6
    go_wp2_with (first | (refine wpList_store_row rfl 24 (.tmp 9) (.tmp 21) rfl bb _ rfl rfl 24 _ HR.out iR.out rfl nR.out ?_; simp only [Act.put]) | (refine wpList_load_row rfl 24 (.tmp 9) rfl bb rfl 24 _ (0, 0) _ HR2.out uWd rfl iR.out ?_; simp only [Act.put, pvA, pv0, pv1]) | (refine wpList_store_row rfl 24 (.tmp 6) (.tmp 22) rfl (w.heap.size + 3) _ rfl rfl 24 _ hD6.out iR.out rfl nR.out ?_; simp only [Act.put]))
    refine bodyPost_ret (results_cell_row rfl _ _ (w.heap.size + 3) 24 (cellsW r) (0, 0) _ rfl (heap_setRow' _ _ _ _ _ hD6.out) uWd rfl iR.out) rfl ⟨rfl, below_setRow' hb7 _ (by omega) _⟩
end Go.Proofs.YtejnnghfelpioaaGreat
namespace Go.Proofs.YtejnnghfelpioaaGreat
open Go.RowKit
set_option maxHeartbeats 2000000 in
theorem waddmod_any (a b d : Nat) (w : World) (ha : a < 2 ^ 256) (hb : b < 2 ^ 256) (hd256 : d < 2 ^ 256) : Calls Tryz.prog 92 #[wd a, wd b, wd d] w fun e w' => e = .returned (wd (modW (a + b) d)) ∧ Below w.heap.size w w' := by
  have hZ := hid (fun w => wzero_any d hd256 w)
  have iA := hid (iW a)
  have iB := hid (iW b)
  have iD := hid (iW d)
  have nD := hid (one_cellsW d)
  by_cases h0 : d = 0
  · have HY := hid (show modW (a + b) d = d by unfold modW; rw [if_pos h0, h0])
    rw [decide_eq_true h0] at hZ
    rw [HY.out]
    clear h0 HY ha hb hd256
    unfold wd at *
    have hA0 := hid (show ArrW 24 ((((w.alloc (.cells (cellsW a) 24)).alloc (.cells (cellsW b) 24)).alloc (.cells (cellsW d) 24)).alloc (.cells (cellsW 0) 24)) w.heap.size a from (((ArrW.new _ w a).alloc _).alloc _).alloc _)
    have hB0 := hid (show ArrW 24 ((((w.alloc (.cells (cellsW a) 24)).alloc (.cells (cellsW b) 24)).alloc (.cells (cellsW d) 24)).alloc (.cells (cellsW 0) 24)) (w.heap.size + 1) b by
      have := ArrW.new 24 (w.alloc (.cells (cellsW a) 24)) b
      rw [World.size_alloc] at this; exact (this.alloc _).alloc _)
    have hC0 := hid (show ArrW 24 ((((w.alloc (.cells (cellsW a) 24)).alloc (.cells (cellsW b) 24)).alloc (.cells (cellsW d) 24)).alloc (.cells (cellsW 0) 24)) (w.heap.size + 2) d by
      have := ArrW.new 24 ((w.alloc (.cells (cellsW a) 24)).alloc (.cells (cellsW b) 24)) d
      rw [World.size_alloc, World.size_alloc] at this; exact this.alloc _)
    have hD0 := hid (show ArrW 24 ((((w.alloc (.cells (cellsW a) 24)).alloc (.cells (cellsW b) 24)).alloc (.cells (cellsW d) 24)).alloc (.cells (cellsW 0) 24)) (w.heap.size + 3) 0 by
      have := ArrW.new 24 (((w.alloc (.cells (cellsW a) 24)).alloc (.cells (cellsW b) 24)).alloc (.cells (cellsW d) 24)) 0
      rw [World.size_alloc, World.size_alloc, World.size_alloc] at this; exact this)
    have hb0 : Below w.heap.size w ((((w.alloc (.cells (cellsW a) 24)).alloc (.cells (cellsW b) 24)).alloc (.cells (cellsW d) 24)).alloc (.cells (cellsW 0) 24)) := ((((Below.refl _ _).alloc (Nat.le_refl _) _).alloc (by simp) _).alloc (by simp; omega) _).alloc (by simp; omega) _
    go_enter Tryz.func92, Tryz.ntmps92
    go_wp2_with (first | (refine wpList_alloc_new rfl 24 rfl (cellsW 0) zWd ?_; simp only [Act.put, pvA, pv0, pv1, World.size_alloc]) | (refine wpList_load_row rfl 24 (.tmp 5) rfl (w.heap.size + 2) rfl 24 _ (0, 0) _ hC0.out uWd rfl iD.out ?_; simp only [Act.put, pvA, pv0, pv1]))
    refine (hZ.out _).mono ?_
    rintro e w1 ⟨rfl, hb1⟩
    have hC1 := hid (hC0.out.below hb1 hC0.out.lt)
    have hD1 := hid (hD0.out.below hb1 hD0.out.lt)
    have hb2 := hb0.trans (hb1.mono hb0.size)
    clear hA0 hB0 hC0 hD0 hb0 hb1
    go_wp2_with (first | (refine wpList_load_row rfl 24 (.tmp 5) rfl (w.heap.size + 2) rfl 24 _ (0, 0) _ hC1.out uWd rfl iD.out ?_; simp only [Act.put, pvA, pv0, pv1]) | (refine wpList_store_row rfl 24 (.tmp 6) (.tmp 13) rfl (w.heap.size + 3) _ rfl rfl 24 _ hD1.out iD.out rfl nD.out ?_; simp only [Act.put]))
    refine bodyPost_ret (results_cell_row rfl _ _ (w.heap.size + 3) 24 (cellsW d) (0, 0) _ rfl (heap_setRow' _ _ _ _ _ hD1.out) uWd rfl iD.out) rfl ⟨rfl, below_setRow' hb2 _ (by omega) _⟩
  · have HY := hid (show modW (a + b) d = (a + b) % d by unfold modW; rw [if_neg h0])
    rw [decide_eq_false h0] at hZ
    rw [HY.out]
    have hF := hid (fun w => wsum_any a b w ha hb)
    have hab : a + b < 2 ^ (64 * 5) := by
      have h5 := Nat.pow_add 2 256 64
      rw [show 256 + 64 = 64 * 5 from rfl] at h5
      rw [h5]
      clear h5 hF HY hZ iA iB iD nD
      omega
    have hDv := hid (fun v w hr => divide_any 5 (a + b) d v w hr hab (by omega) (by omega) (Nat.pos_of_ne_zero h0) hd256)
    obtain ⟨s, hs⟩ : ∃ s, s = a + b := ⟨_, rfl⟩
    obtain ⟨r, hr⟩ : ∃ r, r = s % d := ⟨_, rfl⟩
    have hc64 : s / 2 ^ 256 < 2 ^ 64 := by omega
    rw [← hs] at hF hDv ⊢
    rw [← hr] at hDv ⊢
    clear ha hb h0 HY hd256 hab hs hr
    unfold wd at *
    have iR := hid (iW r)
    have nR := hid (one_cellsW r)
    obtain ⟨c, hcc⟩ : ∃ c, c = s / 2 ^ 256 := ⟨_, rfl⟩
    obtain ⟨l, hll⟩ : ∃ l, l = s % 2 ^ 256 := ⟨_, rfl⟩
    have hcells := hid (show cellsM 5 s = (#[.int .u64 (lm l 0), .int .u64 (lm l 1), .int .u64 (lm l 2), .int .u64 (lm l 3), .int .u64 (c : Int)] : Array Value) from by
      have e : ∀ i, i < 4 → lmN l i = lmN s i := fun i hi => by
        rw [hll]
        unfold lmN
        have e1 : (2 : Nat) ^ 256 = 2 ^ (64 * i) * 2 ^ (256 - 64 * i) := by rw [← Nat.pow_add]; congr 1; omega
        have e2 : (2 : Nat) ^ (256 - 64 * i) = 2 ^ 64 * 2 ^ (192 - 64 * i) := by rw [← Nat.pow_add]; congr 1; omega
        rw [e1, Nat.mod_mul_right_div_self, e2, Nat.mod_mul_right_mod]
      have e4 : lmN s 4 = c := by
        rw [hcc]
        unfold lmN
        rw [show 64 * 4 = 256 from rfl]
        exact Nat.mod_eq_of_lt hc64
      unfold lm
      rw [e 0 (by omega), e 1 (by omega), e 2 (by omega), e 3 (by omega), ← e4]
      rfl)
    rw [← hcc, ← hll] at hF
    have iL := hid (iW l)
    have nL := hid (one_cellsW l)
    clear hcc hll
    have hA0 := hid (show ArrW 24 ((((w.alloc (.cells (cellsW a) 24)).alloc (.cells (cellsW b) 24)).alloc (.cells (cellsW d) 24)).alloc (.cells (cellsW 0) 24)) w.heap.size a from (((ArrW.new _ w a).alloc _).alloc _).alloc _)
    have hB0 := hid (show ArrW 24 ((((w.alloc (.cells (cellsW a) 24)).alloc (.cells (cellsW b) 24)).alloc (.cells (cellsW d) 24)).alloc (.cells (cellsW 0) 24)) (w.heap.size + 1) b by
      have := ArrW.new 24 (w.alloc (.cells (cellsW a) 24)) b
      rw [World.size_alloc] at this; exact (this.alloc _).alloc _)
    have hC0 := hid (show ArrW 24 ((((w.alloc (.cells (cellsW a) 24)).alloc (.cells (cellsW b) 24)).alloc (.cells (cellsW d) 24)).alloc (.cells (cellsW 0) 24)) (w.heap.size + 2) d by
      have := ArrW.new 24 ((w.alloc (.cells (cellsW a) 24)).alloc (.cells (cellsW b) 24)) d
      rw [World.size_alloc, World.size_alloc] at this; exact this.alloc _)
    have hD0 := hid (show ArrW 24 ((((w.alloc (.cells (cellsW a) 24)).alloc (.cells (cellsW b) 24)).alloc (.cells (cellsW d) 24)).alloc (.cells (cellsW 0) 24)) (w.heap.size + 3) 0 by
      have := ArrW.new 24 (((w.alloc (.cells (cellsW a) 24)).alloc (.cells (cellsW b) 24)).alloc (.cells (cellsW d) 24)) 0
      rw [World.size_alloc, World.size_alloc, World.size_alloc] at this; exact this)
    have hb0 : Below w.heap.size w ((((w.alloc (.cells (cellsW a) 24)).alloc (.cells (cellsW b) 24)).alloc (.cells (cellsW d) 24)).alloc (.cells (cellsW 0) 24)) := ((((Below.refl _ _).alloc (Nat.le_refl _) _).alloc (by simp) _).alloc (by simp; omega) _).alloc (by simp; omega) _
    go_enter Tryz.func92, Tryz.ntmps92
    go_wp2_with (first | (refine wpList_alloc_new rfl 24 rfl (cellsW 0) zWd ?_; simp only [Act.put, pvA, pv0, pv1, World.size_alloc]) | (refine wpList_load_row rfl 24 (.tmp 5) rfl (w.heap.size + 2) rfl 24 _ (0, 0) _ hC0.out uWd rfl iD.out ?_; simp only [Act.put, pvA, pv0, pv1]))
    refine (hZ.out _).mono ?_
    rintro e w1 ⟨rfl, hb1⟩
    have hA1 := hid (hA0.out.below hb1 hA0.out.lt)
    have hB1 := hid (hB0.out.below hb1 hB0.out.lt)
    have hC1 := hid (hC0.out.below hb1 hC0.out.lt)
    have hD1 := hid (hD0.out.below hb1 hD0.out.lt)
    have hb2 := hb0.trans (hb1.mono hb0.size)
    clear hA0 hB0 hC0 hD0 hb0 hb1
    go_wp2_with (first | (refine wpList_load_row rfl 24 (.tmp 3) rfl w.heap.size rfl 24 _ (0, 0) _ hA1.out uWd rfl iA.out ?_; simp only [Act.put, pvA, pv0, pv1]) | (refine wpList_load_row rfl 24 (.tmp 4) rfl (w.heap.size + 1) rfl 24 _ (0, 0) _ hB1.out uWd rfl iB.out ?_; simp only [Act.put, pvA, pv0, pv1]))
    refine (hF.out _).mono ?_
    rintro e w2 ⟨rfl, hb3⟩
    have hC2 := hid ((hC1.out.below hb3 hC1.out.lt).alloc (.cells (cellsW l) 24))
    have hD2 := hid ((hD1.out.below hb3 hD1.out.lt).alloc (.cells (cellsW l) 24))
    have hL2 := hid (ArrW.new 24 w2 l)
    have hb4 := hb2.trans (hb3.mono hb2.size)
    have hb5 := hb4.alloc hb4.size (.cells (cellsW l) 24)
    have hsz : w.heap.size + 4 ≤ w2.heap.size := by have h1 := (hD1.out.below hb3 hD1.out.lt).lt; omega
    clear hA1 hB1 hC1 hD1 hb2 hb3
    have q0 : (cellsW l)[0]? = some (.int .u64 (lm l 0)) := rfl
    have q1 : (cellsW l)[1]? = some (.int .u64 (lm l 1)) := rfl
    have q2 : (cellsW l)[2]? = some (.int .u64 (lm l 2)) := rfl
    have q3 : (cellsW l)[3]? = some (.int .u64 (lm l 3)) := rfl
    have hC3 := hid (hC2.out.alloc (.cells #[.int .u64 (lm l 0), .int .u64 (lm l 1), .int .u64 (lm l 2), .int .u64 (lm l 3), .int .u64 (c : Int)] 22))
    have hD3 := hid (hD2.out.alloc (.cells #[.int .u64 (lm l 0), .int .u64 (lm l 1), .int .u64 (lm l 2), .int .u64 (lm l 3), .int .u64 (c : Int)] 22))
    have hb6 := hb5.alloc hb5.size (.cells #[.int .u64 (lm l 0), .int .u64 (lm l 1), .int .u64 (lm l 2), .int .u64 (lm l 3), .int .u64 (c : Int)] 22)
    have hrd := hid (show RdM ((w2.alloc (.cells (cellsW l) 24)).alloc (.cells #[.int .u64 (lm l 0), .int .u64 (lm l 1), .int .u64 (lm l 2), .int .u64 (lm l 3), .int .u64 (c : Int)] 22)) (.slice (some ⟨w2.heap.size + 1, 0, none⟩) 5 5) 5 s by
      have h := (ArrM.new 22 5 (w2.alloc (.cells (cellsW l) 24)) s).rd 5 (by omega)
      rw [World.size_alloc, hcells.out] at h; exact h)
    clear hb4 hb5 hC2 hD2 hL2 hcells
    go_wp2_with (first | (refine wpList_allocStore 24 18 7 (cellsW l) (cellsW 0) rfl rfl rfl rfl rfl rfl (by decide) (by simp) rfl (by kernel_rfl) rfl iL.out nL.out ?_; simp only [Act.put, pvA, pv0, pv1]) | (refine wpList_load_row rfl 24 (.tmp 5) rfl (w.heap.size + 2) rfl 24 _ (0, 0) _ hC3.out uWd rfl iD.out ?_; simp only [Act.put, pvA, pv0, pv1]))
    refine (hDv.out _ _ hrd.out).mono ?_
    rintro e w5 ⟨gq, rfl, h1, h2, hb7⟩
    have hD4 := hid ((hD3.out.below hb7 hD3.out.lt).alloc (.cells (cellsW 0) 24))
    have hR4 := hid (ArrW.new 24 w5 0)
    have hb8 := hb6.trans (hb7.mono hb6.size)
    have hb9 := hb8.alloc hb8.size (.cells (cellsW 0) 24)
    have hsz5 : w.heap.size + 4 ≤ w5.heap.size := by have h1 := (hD3.out.below hb7 hD3.out.lt).lt; omega
    have hR5 := hid (hR4.out.row r)
    have hD5 := hid (hD4.out.otherRow (show w.heap.size + 3 ≠ w5.heap.size by omega) (cellsW r))
    have hb10 := below_setRow' hb9 w5.heap.size (by omega) (cellsW r)
    clear h1 h2 hb7 hD3 hC3 hrd hb8 hb9 hb6
    go_wp2_with (first | (refine wpList_alloc_new rfl 24 rfl (cellsW 0) zWd ?_; simp only [Act.put, pvA, pv0, pv1, World.size_alloc]) | (refine wpList_store_row rfl 24 (.tmp 10) (.tmp 34) rfl w5.heap.size _ rfl rfl 24 _ hR4.out iR.out rfl nR.out ?_; simp only [Act.put]) | (refine wpList_load_row rfl 24 (.tmp 10) rfl w5.heap.size rfl 24 _ (0, 0) _ hR5.out uWd rfl iR.out ?_; simp only [Act.put, pvA, pv0, pv1]) | (refine wpList_store_row rfl 24 (.tmp 6) (.tmp 35) rfl (w.heap.size + 3) _ rfl rfl 24 _ hD5.out iR.out rfl nR.out ?_; simp only [Act.put]))
    refine bodyPost_ret (results_cell_row rfl _ _ (w.heap.size + 3) 24 (cellsW r) (0, 0) _ rfl (heap_setRow' _ _ _ _ _ hD5.out) uWd rfl iR.out) rfl ⟨rfl, below_setRow' hb10 _ (by omega) _⟩
end Go.Proofs.YtejnnghfelpioaaGreat
namespace Go.Proofs.YtejnnghfelpioaaGreat
open Go.RowKit
theorem below_alloc (w : World) (o : Obj) : Below w.heap.size w (w.alloc o) := (Below.refl _ _).alloc (Nat.le_refl _) o
end Go.Proofs.YtejnnghfelpioaaGreat
namespace Go.Proofs.YtejnnghfelpioaaGreat
open Go.RowKit
theorem modW_lN (s : Nat) : modW s lN = s % lN := by unfold modW; rw [if_neg (by have := lN_pos; omega)]
set_option maxHeartbeats 1000000 in
theorem ladd_any (a b : Nat) (w : World) (ha : a < 2 ^ 256) (hb : b < 2 ^ 256) : Calls Tryz.prog 51 #[wd a, wd b] w fun e w' => e = .returned (wd ((a + b) % lN)) ∧ Below w.heap.size w w' := by
  have hL := hid fL_any
  have hM := hid (fun w => waddmod_any a b lN w ha hb lN_lt)
  rw [modW_lN] at hM
  obtain ⟨r, hr⟩ : ∃ r, r = (a + b) % lN := ⟨_, rfl⟩
  rw [← hr] at hM ⊢
  generalize lN = l at *
  clear ha hb hr
  unfold wd at *
  have iA := hid (iW a)
  have iB := hid (iW b)
  have iR := hid (iW r)
  have nR := hid (one_cellsW r)
  have hA0 := hid (show ArrW 24 (((w.alloc (.cells (cellsW a) 24)).alloc (.cells (cellsW b) 24)).alloc (.cells (cellsW 0) 24)) w.heap.size a from ((ArrW.new _ w a).alloc _).alloc _)
  have hB0 := hid (show ArrW 24 (((w.alloc (.cells (cellsW a) 24)).alloc (.cells (cellsW b) 24)).alloc (.cells (cellsW 0) 24)) (w.heap.size + 1) b by
    have := ArrW.new 24 (w.alloc (.cells (cellsW a) 24)) b
    rw [World.size_alloc] at this; exact this.alloc _)
  have hC0 := hid (show ArrW 24 (((w.alloc (.cells (cellsW a) 24)).alloc (.cells (cellsW b) 24)).alloc (.cells (cellsW 0) 24)) (w.heap.size + 2) 0 by
    have := ArrW.new 24 ((w.alloc (.cells (cellsW a) 24)).alloc (.cells (cellsW b) 24)) 0
    rw [World.size_alloc, World.size_alloc] at this; exact this)
  have hb0 : Below w.heap.size w (((w.alloc (.cells (cellsW a) 24)).alloc (.cells (cellsW b) 24)).alloc (.cells (cellsW 0) 24)) := (((Below.refl _ _).alloc (Nat.le_refl _) _).alloc (by simp) _).alloc (by simp; omega) _
  go_enter Tryz.func51, Tryz.ntmps51
  go_wp2_with (refine wpList_alloc_new rfl 24 rfl (cellsW 0) zWd ?_; simp only [Act.put, pvA, pv0, pv1, World.size_alloc])
  generalize ((w.alloc (.cells (cellsW a) 24)).alloc (.cells (cellsW b) 24)).alloc (.cells (cellsW 0) 24) = w1 at hA0 hB0 hC0 hb0 ⊢
  ((try simp only [World.size_alloc]); refine wp_region_ext_tail 4 (by kernel_rfl) (by kernel_rfl) ?_; simp only [List.take_succ_cons, List.take_zero, List.drop_succ_cons, List.drop_zero]; (repeat (first | (refine wpQuiet_load_want 24 (.tmp 2) rfl w.heap.size rfl 24 (cellsW _) _ hA0.out uWd rfl iA.out rfl ?_; simp only [Act.put, pvA, pv0, pv1]) | (refine wpQuiet_load_want 24 (.tmp 3) rfl (w.heap.size + 1) rfl 24 (cellsW _) _ hB0.out uWd rfl iB.out rfl ?_; simp only [Act.put, pvA, pv0, pv1]) | go_big_quiet_step (first | (go_at_call 93; with_reducible refine Calls.ext_of (hL.out _)) | (go_at_call 92; with_reducible refine Calls.ext_of (hM.out _))))); refine wpQuiet_nil ?_; rintro _ ⟨xw, rfl⟩)
  have hC1 := hid (hC0.out.ext xw)
  have hb1 := World.ext_below_of hb0 hb0.size xw
  generalize w1.ext xw = w2 at hC1 hb1 ⊢
  clear hA0 hB0 hC0 hb0
  (refine wpList_store_row rfl 24 (.tmp 4) (.tmp 8) rfl (w.heap.size + 2) _ rfl rfl 24 _ hC1.out iR.out rfl nR.out ?_; simp only [Act.put])
  go_wp2
  refine bodyPost_ret (results_cell_row rfl _ _ (w.heap.size + 2) 24 (cellsW r) (0, 0) _ rfl (heap_setRow' _ _ _ _ _ hC1.out) uWd rfl iR.out) rfl ⟨rfl, below_setRow' hb1 _ (by omega) _⟩
set_option maxHeartbeats 1000000 in
theorem lmul_any (a b : Nat) (w : World) (ha : a < 2 ^ 256) (hb : b < 2 ^ 256) : Calls Tryz.prog 52 #[wd a, wd b] w fun e w' => e = .returned (wd ((a * b) % lN)) ∧ Below w.heap.size w w' := by
  have hL := hid fL_any
  have hM := hid (fun w => wmulmod_any a b lN w ha hb lN_lt)
  rw [modW_lN] at hM
  obtain ⟨r, hr⟩ : ∃ r, r = (a * b) % lN := ⟨_, rfl⟩
  rw [← hr] at hM ⊢
  generalize lN = l at *
  clear ha hb hr
  unfold wd at *
  have iA := hid (iW a)
  have iB := hid (iW b)
  have iR := hid (iW r)
  have nR := hid (one_cellsW r)
  have hA0 := hid (show ArrW 24 (((w.alloc (.cells (cellsW a) 24)).alloc (.cells (cellsW b) 24)).alloc (.cells (cellsW 0) 24)) w.heap.size a from ((ArrW.new _ w a).alloc _).alloc _)
  have hB0 := hid (show ArrW 24 (((w.alloc (.cells (cellsW a) 24)).alloc (.cells (cellsW b) 24)).alloc (.cells (cellsW 0) 24)) (w.heap.size + 1) b by
    have := ArrW.new 24 (w.alloc (.cells (cellsW a) 24)) b
    rw [World.size_alloc] at this; exact this.alloc _)
  have hC0 := hid (show ArrW 24 (((w.alloc (.cells (cellsW a) 24)).alloc (.cells (cellsW b) 24)).alloc (.cells (cellsW 0) 24)) (w.heap.size + 2) 0 by
    have := ArrW.new 24 ((w.alloc (.cells (cellsW a) 24)).alloc (.cells (cellsW b) 24)) 0
    rw [World.size_alloc, World.size_alloc] at this; exact this)
  have hb0 : Below w.heap.size w (((w.alloc (.cells (cellsW a) 24)).alloc (.cells (cellsW b) 24)).alloc (.cells (cellsW 0) 24)) := (((Below.refl _ _).alloc (Nat.le_refl _) _).alloc (by simp) _).alloc (by simp; omega) _
  go_enter Tryz.func52, Tryz.ntmps52
  go_wp2_with (refine wpList_alloc_new rfl 24 rfl (cellsW 0) zWd ?_; simp only [Act.put, pvA, pv0, pv1, World.size_alloc])
  generalize ((w.alloc (.cells (cellsW a) 24)).alloc (.cells (cellsW b) 24)).alloc (.cells (cellsW 0) 24) = w1 at hA0 hB0 hC0 hb0 ⊢
  ((try simp only [World.size_alloc]); refine wp_region_ext_tail 4 (by kernel_rfl) (by kernel_rfl) ?_; simp only [List.take_succ_cons, List.take_zero, List.drop_succ_cons, List.drop_zero]; (repeat (first | (refine wpQuiet_load_want 24 (.tmp 2) rfl w.heap.size rfl 24 (cellsW _) _ hA0.out uWd rfl iA.out rfl ?_; simp only [Act.put, pvA, pv0, pv1]) | (refine wpQuiet_load_want 24 (.tmp 3) rfl (w.heap.size + 1) rfl 24 (cellsW _) _ hB0.out uWd rfl iB.out rfl ?_; simp only [Act.put, pvA, pv0, pv1]) | go_big_quiet_step (first | (go_at_call 93; with_reducible refine Calls.ext_of (hL.out _)) | (go_at_call 94; with_reducible refine Calls.ext_of (hM.out _))))); refine wpQuiet_nil ?_; rintro _ ⟨xw, rfl⟩)
  have hC1 := hid (hC0.out.ext xw)
  have hb1 := World.ext_below_of hb0 hb0.size xw
  generalize w1.ext xw = w2 at hC1 hb1 ⊢
  clear hA0 hB0 hC0 hb0
  (refine wpList_store_row rfl 24 (.tmp 4) (.tmp 8) rfl (w.heap.size + 2) _ rfl rfl 24 _ hC1.out iR.out rfl nR.out ?_; simp only [Act.put])
  go_wp2
  refine bodyPost_ret (results_cell_row rfl _ _ (w.heap.size + 2) 24 (cellsW r) (0, 0) _ rfl (heap_setRow' _ _ _ _ _ hC1.out) uWd rfl iR.out) rfl ⟨rfl, below_setRow' hb1 _ (by omega) _⟩
def leN (ys : List (BitVec 8)) : Nat := num (ys.map fun y => y.toNat)
theorem le_dig (ys : List (BitVec 8)) : Dig (ys.map fun y => y.toNat) := fun d hd => by
  obtain ⟨y, _, rfl⟩ := List.mem_map.1 hd
  exact y.isLt
theorem le_nd (ys : List (BitVec 8)) (i : Nat) : ((nd (ys.map fun y => y.toNat) i : Nat) : Int) = yv (ny ys i) := by
  unfold nd ny yv
  rw [List.getD_eq_getElem?_getD, List.getD_eq_getElem?_getD, List.getElem?_map]
  cases ys[i]? <;> rfl
theorem leN_lt (ys : List (BitVec 8)) (h : ys.length ≤ 32) : leN ys < 2 ^ 256 := by
  have h1 := num_lt _ (le_dig ys)
  have h2 : 256 ^ (ys.map fun y => y.toNat).length ≤ 256 ^ 32 := Nat.pow_le_pow_right (by omega) (by rw [List.length_map]; exact h)
  rw [pow256_32] at h2
  exact Nat.lt_of_lt_of_le h1 h2
set_option maxHeartbeats 2000000 in
theorem little_any (ys : List (BitVec 8)) (v : Value) (w : World) (hr : RdY w v ys) (hl : ys.length ≤ 32) : Calls Tryz.prog 109 #[v] w fun e w' => e = .returned (wd (leN ys)) ∧ Below w.heap.size w w' := by
  obtain ⟨a, cap, rfl, hc, hx⟩ := hr
  have HX := hid hx
  obtain ⟨l, hL⟩ : ∃ l, l = ys.map fun y => y.toNat := ⟨_, rfl⟩
  have hD : Dig l := by rw [hL]; exact le_dig ys
  have hnd : ∀ i, ((nd l i : Nat) : Int) = yv (ny ys i) := fun i => by rw [hL]; exact le_nd ys i
  have hll : l.length = ys.length := by rw [hL, List.length_map]
  have HLE := hid (show leN ys = num l by rw [hL]; rfl)
  rw [HLE.out]
  have HD := hid hD
  have HND := hid hnd
  clear hx hL hD hnd HLE
  unfold wd
  have hA0 := hid (ArrW.new 24 w 0)
  have hb0 : Below w.heap.size w (w.alloc (.cells (cellsW 0) 24)) := (Below.refl _ _).alloc (Nat.le_refl _) _
  go_enter Tryz.func109, Tryz.ntmps109
  go_wp2_with (refine wpList_alloc_new rfl 24 rfl (cellsW 0) zWd ?_; simp only [Act.put, pvA, pv0, pv1, World.size_alloc])
  generalize w.alloc (.cells (cellsW 0) 24) = w1 at hA0 hb0 ⊢
  go_loopw [7] (fun iv wr => ∃ i : Nat, i ≤ ys.length ∧ iv = .int .i64 (i : Int) ∧ Hid (ArrW 24 wr w.heap.size (num (l.take i))) ∧ Below w.heap.size w wr)
    (fun iv _ => ys.length - (intOf iv).toNat)
  case atStart => exact ⟨0, by omega, rfl, hA0, hb0⟩
  case round =>
    clear hA0 hb0
    obtain ⟨i, hi, rfl, hA, hb⟩ := hrel
    by_cases hlt : i < ys.length
    · obtain ⟨b, off, rfl, hbl, hcell⟩ := HX.out (by intro e; subst e; simp at hlt)
      have cx := (hb.cell (p := ⟨b, off + i, none⟩) hbl).trans (hcell i hlt)
      have gx := nd_dig HD.out i
      have c1 := hA.out.cell (i / 8) (by omega)
      have f1 := hA.out.free (i / 8)
      have l1 := hA.out.lt
      have lb : b < wr.heap.size := Nat.lt_of_lt_of_le hbl hb.size
      have hsh : (8 * ((i : Int) % 8)).toNat = 8 * (i % 8) := by omega
      have hxl := num_take_lt l HD.out i
      have hq := cellsW_add (num (l.take i)) (nd l i) i hxl gx (by omega)
      have hn := hid (show num (l.take (i + 1)) = num (l.take i) + 256 ^ i * nd l i from num_take_succ l i)
      have hle : nd l i * 2 ^ (8 * (i % 8)) < 18446744073709551616 := by
        have h1 : 2 ^ (8 * (i % 8)) ≤ 2 ^ 56 := Nat.pow_le_pow_right (by omega) (by omega)
        have h2 : nd l i * 2 ^ (8 * (i % 8)) ≤ 255 * 2 ^ 56 := Nat.mul_le_mul (by omega) h1
        omega
      have hv : bits .or .u64 (lm (num (l.take i)) (i / 8)) (IntKind.u64.wrap (((nd l i : Nat) : Int) * 2 ^ (8 * (i % 8)))) = ((lmN (num (l.take i)) (i / 8) ||| nd l i * 2 ^ (8 * (i % 8)) : Nat) : Int) := by
        rw [show ((nd l i : Nat) : Int) * 2 ^ (8 * (i % 8)) = ((nd l i * 2 ^ (8 * (i % 8)) : Nat) : Int) by rw [Int.natCast_mul, Int.natCast_pow]; rfl]
        rw [show IntKind.u64.wrap ((nd l i * 2 ^ (8 * (i % 8)) : Nat) : Int) = ((nd l i * 2 ^ (8 * (i % 8)) : Nat) : Int) by rw [IntKind.wrap_u64]; omega]
        exact u64_or_nat _ _ (lmN_lt _ _) hle
      rw [← HND.out i] at cx
      have HV := hid hv
      have HQ := hid hq
      clear hq hv hle hxl hcell
      obtain ⟨d, hd⟩ : ∃ d, d = nd l i := ⟨_, rfl⟩
      rw [← hd] at cx HV HQ hn gx
      clear hd
      go_wp2_with fail
      (refine wp_region_ext_tail 12 (by kernel_rfl) (by kernel_rfl) ?_; simp only [List.take_succ_cons, List.take_zero, List.drop_succ_cons, List.drop_zero]; (repeat (go_big_quiet_step (first | fail))); refine wpQuiet_nil ?_; rintro _ ⟨xw, rfl⟩)
      go_wp2
      go_roundw
      case rel =>
        rw [HV.out]
        refine ⟨i + 1, by omega, by go_num, hid ?_, (World.ext_below_of hb hb.size xw).setCell (p := ⟨w.heap.size, i / 8, none⟩) (Nat.le_refl _) _⟩
        rw [hn.out]
        exact (hA.out.ext xw).set _ _ HQ.out
      case measure => simp [intOf]; omega
    · obtain rfl : i = ys.length := by omega
      rw [List.take_of_length_le (by omega)] at hA
      obtain ⟨y, hy⟩ : ∃ y, y = num l := ⟨_, rfl⟩
      rw [← hy] at hA
      have HY := hid hy
      have iY := hid (iW y)
      have nY := hid (one_cellsW y)
      clear hy
      go_wp2_with (first | (refine wpList_load_row rfl 24 (.tmp 2) rfl w.heap.size rfl 24 _ (0, 0) _ hA.out uWd rfl iY.out ?_; simp only [Act.put, pvA, pv0, pv1]) | (refine wpList_store_row rfl 24 (.tmp 2) (.tmp 25) rfl w.heap.size _ rfl rfl 24 _ hA.out iY.out rfl nY.out ?_; simp only [Act.put]))
      refine bodyPost_ret (results_cell_row rfl _ _ w.heap.size 24 (cellsW y) (0, 0) _ rfl (heap_setRow' _ _ _ _ _ hA.out) uWd rfl iY.out) rfl ⟨by rw [HY.out], below_setRow' hb _ (Nat.le_refl _) _⟩
def fdN (m : Nat) (ys : List (BitVec 8)) : Nat := if ys.length = 32 ∧ leN ys < m then leN ys else 0
def fdE (m : Nat) (ys : List (BitVec 8)) : Int := if ys.length = 32 then (if leN ys < m then 0 else 20) else 1
theorem fdN_lt (m : Nat) (ys : List (BitVec 8)) : fdN m ys < 2 ^ 256 := by
  unfold fdN; split
  · rename_i h; exact leN_lt ys (by omega)
  · exact Nat.pow_pos (by omega)
set_option maxHeartbeats 2000000 in
theorem fread_any (ys : List (BitVec 8)) (m : Nat) (v : Value) (w : World) (hr : RdY w v ys) (hm : m < 2 ^ 256) : Calls Tryz.prog 72 #[v, wd m] w fun e w' => e = .returned (.tuple #[wd (fdN m ys), .int .i64 (fdE m ys)]) ∧ Below w.heap.size w w' := by
  have iM := hid (iW m)
  have iZ := hid (iW 0)
  have nZ := hid (one_cellsW 0)
  have hBn := hid nil_built
  have HM := hid hm
  clear hm
  have hA0 := hid (show ArrW 24 ((w.alloc (.cells (cellsW m) 24)).alloc (.cells (cellsW 0) 24)) w.heap.size m from (ArrW.new _ w m).alloc _)
  have hC0 := hid (show ArrW 24 ((w.alloc (.cells (cellsW m) 24)).alloc (.cells (cellsW 0) 24)) (w.heap.size + 1) 0 by
    have := ArrW.new 24 (w.alloc (.cells (cellsW m) 24)) 0
    rw [World.size_alloc] at this; exact this)
  have hb0 : Below w.heap.size w ((w.alloc (.cells (cellsW m) 24)).alloc (.cells (cellsW 0) 24)) := ((Below.refl _ _).alloc (Nat.le_refl _) _).alloc (by simp) _
  have hv0 := hid (hr.below hb0)
  clear hr
  obtain ⟨a, cap, rfl, hc, hx⟩ := hv0.out
  have HX := hid hx
  clear hx
  unfold wd
  by_cases hlen : ys.length = 32
  · have hll : (ys.length : Int) = 32 := by omega
    have HLt := hid (leN_lt ys (by omega))
    have hL := hid (fun w h => little_any ys (.slice a ys.length cap) w h (by omega))
    have HN := hid (show fdN m ys = if leN ys < m then leN ys else 0 by unfold fdN; simp only [hlen, true_and])
    have HE := hid (show fdE m ys = if leN ys < m then 0 else 20 by unfold fdE; rw [if_pos hlen])
    have hC := hid (fun w => wcmp_any (leN ys) m w HLt.out HM.out)
    obtain ⟨x, hx⟩ : ∃ x, x = leN ys := ⟨_, rfl⟩
    rw [← hx] at HN HE hL hC
    rw [hlen] at hL hv0
    have HV := hid hlen
    have hcond : ((x < m) ∧ cmpI x m < 0) ∨ (¬ x < m ∧ 0 ≤ cmpI x m) := by
      have := cmpI_neg x m
      by_cases h : x < m
      · exact .inl ⟨h, this.2 h⟩
      · exact .inr ⟨h, by omega⟩
    obtain ⟨c, hcc⟩ : ∃ c, c = cmpI x m := ⟨_, rfl⟩
    rw [← hcc] at hC hcond
    unfold wd at *
    have iX := hid (iW x)
    have nX := hid (one_cellsW x)
    clear hx hcc HLt
    rw [hlen]
    clear hlen hll
    go_enter Tryz.func72, Tryz.ntmps72
    go_wp2_with (refine wpList_alloc_new rfl 24 rfl (cellsW 0) zWd ?_; simp only [Act.put, pvA, pv0, pv1, World.size_alloc])
    refine (hL.out _ hv0.out).mono ?_
    rintro e w1 ⟨rfl, hb1⟩
    have hA1 := hid ((hA0.out.below hb1 hA0.out.lt).alloc (.cells (cellsW x) 24))
    have hC1 := hid ((hC0.out.below hb1 hC0.out.lt).alloc (.cells (cellsW x) 24))
    have hX1 := hid (ArrW.new 24 w1 x)
    have hb2 := hb0.trans (hb1.mono hb0.size)
    have hb3 := hb2.alloc hb2.size (.cells (cellsW x) 24)
    have hsz : w.heap.size + 2 ≤ w1.heap.size := by have := (hC0.out.below hb1 hC0.out.lt).lt; omega
    clear hA0 hC0 hb0 hb1 hb2 hv0
    obtain ⟨G, hG⟩ : ∃ G, G = w1.heap.size := ⟨_, rfl⟩
    go_wp2_with (first | (refine wpList_allocStore 24 12 6 (cellsW x) (cellsW 0) rfl rfl rfl rfl rfl rfl (by decide) (by simp) rfl (by kernel_rfl) rfl iX.out nX.out ?_; simp only [Act.put, pvA, pv0, pv1]) | (refine wpList_load_row rfl 24 (.tmp 6) rfl w1.heap.size rfl 24 _ (0, 0) _ hX1.out uWd rfl iX.out ?_; simp only [Act.put, pvA, pv0, pv1]) | (refine wpList_load_row rfl 24 (.tmp 3) rfl w.heap.size rfl 24 _ (0, 0) _ hA1.out uWd rfl iM.out ?_; simp only [Act.put, pvA, pv0, pv1]))
    rw [← hG] at hX1 hsz ⊢
    generalize w1.alloc (.cells (cellsW x) 24) = w2 at hA1 hC1 hX1 hb3 ⊢
    clear hG
    refine (hC.out _).mono ?_
    rintro e w3 ⟨rfl, hb4⟩
    have hC2 := hid (hC1.out.below hb4 hC1.out.lt)
    have hX2 := hid (hX1.out.below hb4 hX1.out.lt)
    have hb5 := hb3.trans (hb4.mono hb3.size)
    clear hA1 hC1 hX1 hb3 hb4
    rcases hcond with ⟨h1, h2⟩ | ⟨h1, h2⟩
    · have H1 := hid h1
      clear h1
      go_wp2_with (first | (refine wpList_load_row rfl 24 (.tmp 6) rfl G rfl 24 _ (0, 0) _ hX2.out uWd rfl iX.out ?_; simp only [Act.put, pvA, pv0, pv1]) | (refine wpList_store_row rfl 24 (.tmp 4) (.tmp 18) rfl (w.heap.size + 1) _ rfl rfl 24 _ hC2.out iX.out rfl nX.out ?_; simp only [Act.put]))
      refine bodyPost_ret (results_row_tmp rfl _ _ (w.heap.size + 1) 24 (cellsW x) (0, 0) _ rfl (heap_setRow' _ _ _ _ _ hC2.out) uWd rfl iX.out) rfl ⟨by rw [HN.out, HE.out, if_pos H1.out, if_pos H1.out]; rfl, below_setRow' hb5 _ (by omega) _⟩
    · have H1 := hid h1
      clear h1
      go_wp2_with (refine wpList_buildStore 24 _ (.tmp 4) 17 (cellsW 0) _ rfl rfl rfl rfl rfl rfl (by simp) (by first | exact hBn.out | (simp only [List.map_toArray, List.map_cons, List.map_nil]; exact hBn.out)) rfl 24 _ hC2.out iZ.out rfl nZ.out ?_; simp only [Act.put, pvA, pv0, pv1])
      refine bodyPost_ret (results_row_tmp rfl _ _ (w.heap.size + 1) 24 (cellsW 0) (0, 0) _ rfl (heap_setRow' _ _ _ _ _ hC2.out) uWd rfl iZ.out) rfl ⟨by rw [HN.out, HE.out, if_neg H1.out, if_neg H1.out]; rfl, below_setRow' hb5 _ (by omega) _⟩
  · have hll : ¬ (ys.length : Int) = 32 := by omega
    have HN := hid (show fdN m ys = 0 by unfold fdN; rw [if_neg (fun h => hlen h.1)])
    have HE := hid (show fdE m ys = 1 by unfold fdE; rw [if_neg hlen])
    rw [HN.out, HE.out]
    clear hlen
    go_enter Tryz.func72, Tryz.ntmps72
    go_wp2_with (first | (refine wpList_alloc_new rfl 24 rfl (cellsW 0) zWd ?_; simp only [Act.put, pvA, pv0, pv1, World.size_alloc]) | (refine wpList_buildStore 24 _ (.tmp 4) 10 (cellsW 0) _ rfl rfl rfl rfl rfl rfl (by simp) (by first | exact hBn.out | (simp only [List.map_toArray, List.map_cons, List.map_nil]; exact hBn.out)) rfl 24 _ hC0.out iZ.out rfl nZ.out ?_; simp only [Act.put, pvA, pv0, pv1]))
    refine bodyPost_ret (results_row_tmp rfl _ _ (w.heap.size + 1) 24 (cellsW 0) (0, 0) _ rfl (heap_setRow' _ _ _ _ _ hC0.out) uWd rfl iZ.out) rfl ⟨rfl, below_setRow' hb0 _ (by omega) _⟩
set_option maxHeartbeats 1000000 in
theorem fRead_any (ys : List (BitVec 8)) (v : Value) (w : World) (hr : RdY w v ys) : Calls Tryz.prog 28 #[v] w fun e w' => e = .returned (.tuple #[wd (fdN pN ys), .int .i64 (fdE pN ys)]) ∧ Below w.heap.size w w' := by
  have hP := hid fP_any
  have hR := hid (fun w h => fread_any ys pN v w h pN_lt)
  obtain ⟨x, hx⟩ : ∃ x, x = fdN pN ys := ⟨_, rfl⟩
  obtain ⟨y, hy⟩ : ∃ y, y = fdE pN ys := ⟨_, rfl⟩
  rw [← hx, ← hy] at hR ⊢
  generalize pN = k at *
  clear hx hy
  unfold wd at *
  have iX := hid (iW x)
  have nX := hid (one_cellsW x)
  have hC0 := hid (ArrW.new 24 w 0)
  have hb0 : Below w.heap.size w (w.alloc (.cells (cellsW 0) 24)) := (Below.refl _ _).alloc (Nat.le_refl _) _
  have hv0 := hid (hr.below hb0)
  clear hr
  go_enter Tryz.func28, Tryz.ntmps28
  go_wp2_with (refine wpList_alloc_new rfl 24 rfl (cellsW 0) zWd ?_; simp only [Act.put, pvA, pv0, pv1, World.size_alloc])
  refine (hP.out _).mono ?_
  rintro e w1 ⟨rfl, hb1⟩
  have hC1 := hid (hC0.out.below hb1 hC0.out.lt)
  have hv1 := hid (hv0.out.below hb1)
  have hb2 := hb0.trans (hb1.mono hb0.size)
  clear hC0 hv0 hb0 hb1
  go_wp2_with fail
  refine (hR.out _ hv1.out).mono ?_
  rintro e w2 ⟨rfl, hb3⟩
  have hC2 := hid (hC1.out.below hb3 hC1.out.lt)
  have hb4 := hb2.trans (hb3.mono hb2.size)
  clear hC1 hv1 hb2 hb3
  go_wp2_with (refine wpList_store_row rfl 24 (.tmp 2) (.tmp 7) rfl w.heap.size _ rfl rfl 24 _ hC2.out iX.out rfl nX.out ?_; simp only [Act.put])
  refine bodyPost_ret (results_row_tmp rfl _ _ w.heap.size 24 (cellsW x) (0, 0) _ rfl (heap_setRow' _ _ _ _ _ hC2.out) uWd rfl iX.out) rfl ⟨rfl, below_setRow' hb4 _ (Nat.le_refl _) _⟩
set_option maxHeartbeats 1000000 in
theorem fLread_any (ys : List (BitVec 8)) (v : Value) (w : World) (hr : RdY w v ys) : Calls Tryz.prog 54 #[v] w fun e w' => e = .returned (.tuple #[wd (fdN lN ys), .int .i64 (fdE lN ys)]) ∧ Below w.heap.size w w' := by
  have hP := hid fL_any
  have hR := hid (fun w h => fread_any ys lN v w h lN_lt)
  obtain ⟨x, hx⟩ : ∃ x, x = fdN lN ys := ⟨_, rfl⟩
  obtain ⟨y, hy⟩ : ∃ y, y = fdE lN ys := ⟨_, rfl⟩
  rw [← hx, ← hy] at hR ⊢
  generalize lN = k at *
  clear hx hy
  unfold wd at *
  have iX := hid (iW x)
  have nX := hid (one_cellsW x)
  have hC0 := hid (ArrW.new 24 w 0)
  have hb0 : Below w.heap.size w (w.alloc (.cells (cellsW 0) 24)) := (Below.refl _ _).alloc (Nat.le_refl _) _
  have hv0 := hid (hr.below hb0)
  clear hr
  go_enter Tryz.func54, Tryz.ntmps54
  go_wp2_with (refine wpList_alloc_new rfl 24 rfl (cellsW 0) zWd ?_; simp only [Act.put, pvA, pv0, pv1, World.size_alloc])
  refine (hP.out _).mono ?_
  rintro e w1 ⟨rfl, hb1⟩
  have hC1 := hid (hC0.out.below hb1 hC0.out.lt)
  have hv1 := hid (hv0.out.below hb1)
  have hb2 := hb0.trans (hb1.mono hb0.size)
  clear hC0 hv0 hb0 hb1
  go_wp2_with fail
  refine (hR.out _ hv1.out).mono ?_
  rintro e w2 ⟨rfl, hb3⟩
  have hC2 := hid (hC1.out.below hb3 hC1.out.lt)
  have hb4 := hb2.trans (hb3.mono hb2.size)
  clear hC1 hv1 hb2 hb3
  go_wp2_with (refine wpList_store_row rfl 24 (.tmp 2) (.tmp 7) rfl w.heap.size _ rfl rfl 24 _ hC2.out iX.out rfl nX.out ?_; simp only [Act.put])
  refine bodyPost_ret (results_row_tmp rfl _ _ w.heap.size 24 (cellsW x) (0, 0) _ rfl (heap_setRow' _ _ _ _ _ hC2.out) uWd rfl iX.out) rfl ⟨rfl, below_setRow' hb4 _ (Nat.le_refl _) _⟩
end Go.Proofs.YtejnnghfelpioaaGreat
namespace Go.Proofs.YtejnnghfelpioaaGreat
open Go.RowKit
def flN (ys : List (BitVec 8)) : Nat := if 64 < ys.length then 0 else leN ys % lN
def flE (ys : List (BitVec 8)) : Int := if 64 < ys.length then 1 else 0
end Go.Proofs.YtejnnghfelpioaaGreat
namespace Go.Proofs.YtejnnghfelpioaaGreat
open Go.RowKit
def leL (x : Nat) : List (BitVec 8) := (List.range 32).map fun i => b8 (x / 256 ^ i)
theorem leL_len (x : Nat) : (leL x).length = 32 := by simp [leL]
def lsY (x : Nat) : Nat → List (BitVec 8)
  | 0 => List.replicate 32 0
  | i + 1 => (lsY x i).set i (b8 (x / 256 ^ i))
theorem lsY_len (x i : Nat) : (lsY x i).length = 32 := by induction i <;> simp [lsY, *]
theorem lsY_at (x i j : Nat) (hi : i ≤ 32) (hj : j < 32) : (lsY x i)[j]? = some (if j < i then b8 (x / 256 ^ j) else 0) := by
  induction i with
  | zero => rw [if_neg (by omega)]; unfold lsY; rw [List.getElem?_replicate, if_pos hj]
  | succ i ih =>
    rw [lsY, List.getElem?_set, lsY_len]
    by_cases h : i = j
    · rw [if_pos h, if_pos (by omega), if_pos (by omega), h]
    · rw [if_neg h, ih (by omega)]
      by_cases h2 : j < i
      · rw [if_pos h2, if_pos (by omega)]
      · rw [if_neg h2, if_neg (by omega)]
theorem lsY_end (x : Nat) : lsY x 32 = leL x := by
  apply List.ext_getElem?
  intro j
  rcases Nat.lt_or_ge j 32 with hj | hj
  · rw [lsY_at x 32 j (by omega) hj, if_pos hj]; simp [leL, hj]
  · rw [List.getElem?_eq_none (by rw [lsY_len]; exact hj), List.getElem?_eq_none (by rw [leL_len]; exact hj)]
set_option maxHeartbeats 2000000 in
theorem fbytes_any (a : Nat) (w : World) (ha : a < 2 ^ 256) : Calls Tryz.prog 45 #[wd a] w fun e w' => ∃ v', e = .returned v' ∧ RdY w' v' (leL (a % pN)) ∧ Below w.heap.size w w' := by
  have hBl := hid (fun w => below_any a w ha)
  have hmk : ∀ w : World, (Instr.makeSlice 41 (.int .i64 32) (.int .i64 32)).run Tryz.prog w = .ok (.slice (some ⟨w.heap.size, 0, none⟩) 32 32) (w.alloc (.cells (cellsY (lsY 0 0)) 5)) := mkY 32 (by omega)
  obtain ⟨x, hx⟩ : ∃ x, x = a % pN := ⟨_, rfl⟩
  rw [← hx] at hBl ⊢
  have hend := hid (lsY_end x)
  clear ha hx
  unfold wd at *
  have iA := hid (iW a)
  have iX := hid (iW x)
  have nX := hid (one_cellsW x)
  have hA0 := hid (ArrW.new 24 w a)
  have hb0 : Below w.heap.size w (w.alloc (.cells (cellsW a) 24)) := (Below.refl _ _).alloc (Nat.le_refl _) _
  go_enter Tryz.func45, Tryz.ntmps45
  go_wp2_with (refine wpList_load_row rfl 24 (.tmp 1) rfl w.heap.size rfl 24 _ (0, 0) _ hA0.out uWd rfl iA.out ?_; simp only [Act.put, pvA, pv0, pv1])
  refine (hBl.out _).mono ?_
  rintro e w1 ⟨rfl, hb1⟩
  have hA1 := hid (hA0.out.step hb1)
  have hA2 := hid ((hA1.out.row x).alloc (.cells (cellsY (lsY 0 0)) 5))
  have hY2 := hid (ArrY.new 5 (w1.setRow w.heap.size (cellsW x)) (lsY 0 0))
  have hb2 := hb0.trans (hb1.mono hb0.size)
  have hb3 := below_setRow' hb2 w.heap.size (Nat.le_refl _) (cellsW x)
  have hb4 := hb3.alloc hb3.size (.cells (cellsY (lsY 0 0)) 5)
  have hsz : w.heap.size + 1 ≤ (w1.setRow w.heap.size (cellsW x)).heap.size := (hA1.out.row x).lt
  have hsr : (w1.setRow w.heap.size (cellsW x)).heap.size = w1.heap.size := by simp [World.setRow]
  rw [hsr] at hY2 hsz
  obtain ⟨G, hG⟩ : ∃ G, G = w1.heap.size := ⟨_, rfl⟩
  have HG := hid hG
  have HSR := hid hsr
  clear hG hsr
  go_wp2_with (refine wpList_store_row rfl 24 (.tmp 1) (.tmp 6) rfl w.heap.size _ rfl rfl 24 _ hA1.out iX.out (by rw [size_cellsW, size_cellsW]) nX.out ?_; simp only [Act.put])
  (try rw [HSR.out])
  rw [← HG.out] at hY2 hsz ⊢
  generalize (w1.setRow w.heap.size (cellsW x)).alloc (.cells (cellsY (lsY 0 0)) 5) = w3 at hA2 hY2 hb4 ⊢
  clear hA0 hb0 hb1 hA1 hb2 hb3 HG HSR
  have hY3 := hid (show ArrY 5 w3 G (lsY x 0) from hY2.out)
  go_loopw [10] (fun iv wr => ∃ i : Nat, i ≤ 32 ∧ iv = .int .i64 (i : Int) ∧ Hid (ArrW 24 wr w.heap.size x) ∧ Hid (ArrY 5 wr G (lsY x i)) ∧ Below w.heap.size w wr)
    (fun iv _ => 32 - (intOf iv).toNat)
  case atStart => exact ⟨0, by omega, rfl, hA2, hY3, hb4⟩
  case round =>
    clear hA2 hY2 hY3 hb4
    obtain ⟨i, hi, rfl, hA, hY, hb⟩ := hrel
    by_cases hlt : i < 32
    · have c1 := hA.out.cell (i / 8) (by omega)
      have c2 := hY.out.cell i (by rw [lsY_len]; omega)
      have f2 := hY.out.free i
      have l1 := hA.out.lt
      have l2 := hY.out.lt
      have n1 := lm_nonneg x (i / 8)
      have n2 := lm_lt x (i / 8)
      have hV := hid (lm_b8 x i hlt)
      have hsh : (8 * ((i : Int) % 8)).toNat = 8 * (i % 8) := by omega
      go_wp2
      go_roundw
      case rel =>
        rw [hV.out]
        exact ⟨i + 1, by omega, by go_num, hid (hA.out.other (by show w.heap.size ≠ G; omega) _), hid (hY.out.set _ _), hb.setCell (p := ⟨G, i, none⟩) (by show w.heap.size ≤ G; omega) _⟩
      case measure => simp [intOf]; omega
    · obtain rfl : i = 32 := by omega
      have hE := hY.out
      rw [hend.out] at hE
      have hR := hid (hE.rd 32 (by rw [leL_len]; exact Nat.le_refl _))
      rw [leL_len] at hR
      clear hY hE
      go_wp2
      go_ret
      exact ⟨_, rfl, hR.out, hb⟩
def valY (ys : List (BitVec 8)) : List Value := ys.map fun y => Value.int .u8 (yv y)
end Go.Proofs.YtejnnghfelpioaaGreat
namespace Go.Proofs.YtejnnghfelpioaaGreat
open Go.RowKit
def pmF (a : Nat) : Nat → Nat → Nat
  | 0, _ => 1
  | f + 1, e => if e = 0 then 1 else (fun h => if e % 2 = 1 then h * h % pN * a % pN else h * h % pN) (pmF a f (e / 2))
theorem pmF_eq (a : Nat) : ∀ f e, e < 2 ^ f → pmF a f e = powP a e
  | 0, e, h => by
    have : e = 0 := by simpa using h
    subst this; rw [powP_zero]; rfl
  | f + 1, e, h => by
    rw [pmF]
    by_cases h0 : e = 0
    · rw [if_pos h0, h0, powP_zero]
    · rw [if_neg h0, pmF_eq a f (e / 2) (by rw [Nat.pow_succ] at h; omega)]
      show (if e % 2 = 1 then powP a (e / 2) * powP a (e / 2) % pN * a % pN else powP a (e / 2) * powP a (e / 2) % pN) = powP a e
      rw [powP_double]
      by_cases h1 : e % 2 = 1
      · rw [if_pos h1, powP_succ]; congr 1; omega
      · rw [if_neg h1]; congr 1; omega
theorem pow2 (a e : Nat) (h : e < 2 ^ 256) : powP a e = pmF a 256 e := (pmF_eq a 256 e h).symm
theorem pow_i : powP 2 (pN / 4) = 19681161376707505956807079304988542015446066515923890162744021073123829784752 := by
  rw [pow2 2 _ (show pN / 4 < 2 ^ 256 by decide +kernel)]; decide +kernel
end Go.Proofs.YtejnnghfelpioaaGreat
namespace Go.Proofs.YtejnnghfelpioaaGreat
open Go.RowKit
def ni (xs : List Int) (j : Nat) : Int := xs.getD j 0
def val : List Int → Int
  | [] => 0
  | x :: l => x + 65536 * val l
theorem ni_cons_succ (x : Int) (l : List Int) (j : Nat) : ni (x :: l) (j + 1) = ni l j := by simp [ni]
theorem ni_out (l : List Int) (j : Nat) (h : l.length ≤ j) : ni l j = 0 := by simp [ni, List.getElem?_eq_none h]
theorem ni_set (l : List Int) (i j : Nat) (x : Int) (hi : i < l.length) : ni (l.set i x) j = if i = j then x else ni l j := by
  unfold ni
  rw [List.getD_eq_getElem?_getD, List.getElem?_set, List.getD_eq_getElem?_getD]
  split <;> simp_all
theorem ni_take (l : List Int) (i j : Nat) : ni (l.take i) j = if j < i then ni l j else 0 := by
  unfold ni
  rw [List.getD_eq_getElem?_getD, List.getD_eq_getElem?_getD, List.getElem?_take]
  split <;> rfl
theorem ni_drop (l : List Int) (i j : Nat) : ni (l.drop i) j = ni l (i + j) := by
  unfold ni
  rw [List.getD_eq_getElem?_getD, List.getD_eq_getElem?_getD, List.getElem?_drop]
theorem ni_ext {s t : List Int} (hl : s.length = t.length) (h : ∀ i, i < s.length → ni s i = ni t i) : s = t := by
  apply List.ext_getElem hl
  intro i h1 h2
  have := h i h1
  unfold ni at this
  simpa [List.getD_eq_getElem?_getD, h1, h2] using this
theorem val_app (a b : List Int) : val (a ++ b) = val a + 65536 ^ a.length * val b := by
  induction a with
  | nil => simp [val]
  | cons x a ih =>
    show x + 65536 * val (a ++ b) = x + 65536 * val a + 65536 ^ (a.length + 1) * val b
    rw [ih, Int.mul_add, Int.pow_succ, ← Int.mul_assoc, Int.mul_comm 65536 (65536 ^ a.length), Int.add_assoc]
theorem val_split (l : List Int) (i : Nat) (h : i ≤ l.length) : val l = val (l.take i) + 65536 ^ i * val (l.drop i) := by
  have := val_app (l.take i) (l.drop i)
  rw [List.take_append_drop, List.length_take, Nat.min_eq_left h] at this
  exact this
theorem val_drop (l : List Int) (i : Nat) : val (l.drop i) = ni l i + 65536 * val (l.drop (i + 1)) := by
  induction l generalizing i with
  | nil => simp [val, ni]
  | cons x l ih =>
    cases i with
    | zero => simp [val, ni]
    | succ i => rw [List.drop_succ_cons, List.drop_succ_cons, ni_cons_succ]; exact ih i
theorem val_take_succ (l : List Int) (i : Nat) (h : i < l.length) : val (l.take (i + 1)) = val (l.take i) + 65536 ^ i * ni l i := by
  have h1 : l.take (i + 1) = l.take i ++ [ni l i] := by
    rw [List.take_succ_eq_append_getElem h]; simp [ni, h]
  rw [h1, val_app, List.length_take, Nat.min_eq_left (by omega)]
  simp [val]
theorem val_set (l : List Int) (j : Nat) (x : Int) (h : j < l.length) : val (l.set j x) = val l + 65536 ^ j * (x - ni l j) := by
  induction l generalizing j with
  | nil => simp at h
  | cons y l ih =>
    cases j with
    | zero => simp [val, ni]; omega
    | succ j =>
      rw [List.set_cons_succ, ni_cons_succ]
      show y + 65536 * val (l.set j x) = y + 65536 * val l + 65536 ^ (j + 1) * (x - ni l j)
      rw [ih j (by simpa using h), Int.mul_add, Int.pow_succ, ← Int.mul_assoc, Int.mul_comm 65536 (65536 ^ j), Int.add_assoc]
theorem drop_set_le (l : List Int) (i j : Nat) (x : Int) (h : i < j) : (l.set i x).drop j = l.drop j := by
  rw [List.drop_set, if_pos h]
theorem drop_set_eq (l : List Int) (i j : Nat) (x : Int) (h : j ≤ i) : (l.set i x).drop j = (l.drop j).set (i - j) x := by
  rw [List.drop_set, if_neg (by omega)]
def dgI (V : Int) (i : Nat) : Int := V / 65536 ^ i % 65536
theorem dgI_bd (V : Int) (i : Nat) : 0 ≤ dgI V i ∧ dgI V i ≤ 65535 := by unfold dgI; omega
def dgL (V : Int) : List Int := (List.range 16).map (dgI V)
theorem dgL_len (V : Int) : (dgL V).length = 16 := by simp [dgL]
theorem dgL_ni (V : Int) (i : Nat) (h : i < 16) : ni (dgL V) i = dgI V i := by simp [ni, dgL, h]
theorem pow_div_succ (V : Int) (i : Nat) : V / 65536 ^ (i + 1) = V / 65536 ^ i / 65536 := by
  have hp : (0 : Int) ≤ 65536 ^ i := Int.pow_nonneg (by omega)
  rw [Int.pow_succ, ← Int.ediv_ediv_of_nonneg hp]
theorem mod_succ (V : Int) (i : Nat) : V % 65536 ^ (i + 1) = V % 65536 ^ i + 65536 ^ i * dgI V i := by
  have h1 := Int.emod_add_mul_ediv V (65536 ^ (i + 1))
  have h2 := Int.emod_add_mul_ediv V (65536 ^ i)
  have h3 := Int.emod_add_mul_ediv (V / 65536 ^ i) 65536
  rw [← pow_div_succ] at h3
  unfold dgI
  rw [← h3] at h2
  have h4 : (65536 : Int) ^ (i + 1) * (V / 65536 ^ (i + 1)) = 65536 ^ i * (65536 * (V / 65536 ^ (i + 1))) := by rw [Int.pow_succ, Int.mul_assoc]
  rw [Int.mul_add] at h2
  omega
theorem val_digits (s : List Int) (V : Int) (i : Nat) (hi : i ≤ s.length) (h : ∀ j, j < i → ni s j = dgI V j) : val (s.take i) = V % 65536 ^ i := by
  induction i with
  | zero => simp [val, Int.emod_one]
  | succ i ih => rw [val_take_succ _ _ (by omega), ih (by omega) (fun j hj => h j (by omega)), h i (by omega), mod_succ]
theorem val_dgL (V : Int) : val (dgL V) = V % 65536 ^ 16 := by
  have := val_digits (dgL V) V 16 (by rw [dgL_len]; omega) (fun j hj => dgL_ni V j hj)
  rwa [List.take_of_length_le (by rw [dgL_len]; omega)] at this
def carL (V : Int) : List Int := (dgL V).set 0 (dgI V 0 + 38 * (V / 65536 ^ 16))
def carV (V : Int) : Int := V % 65536 ^ 16 + 38 * (V / 65536 ^ 16)
theorem carL_len (V : Int) : (carL V).length = 16 := by simp [carL, dgL_len]
theorem carL_val (V : Int) : val (carL V) = carV V := by
  unfold carL carV
  rw [val_set _ _ _ (by rw [dgL_len]; omega), val_dgL, dgL_ni _ _ (by omega)]
  simp; omega
theorem carL_ni (V : Int) (i : Nat) (h : i < 16) : ni (carL V) i = if 0 = i then dgI V 0 + 38 * (V / 65536 ^ 16) else dgI V i := by
  unfold carL
  rw [ni_set _ _ _ _ (by rw [dgL_len]; omega), dgL_ni _ _ h]
structure CarI (V : Int) (s : List Int) (i : Nat) : Prop where
  len : s.length = 16
  low : ∀ j, j < i → ni s j = dgI V j
  high : val (s.drop i) = V / 65536 ^ i
  big : ∀ j, i < j → -1152921504606846976 ≤ ni s j ∧ ni s j ≤ 1152921504606846976
  here : -1153062242095202304 ≤ ni s i ∧ ni s i ≤ 1153062242095202304
theorem CarI.start (o : List Int) (hl : o.length = 16) (hb : ∀ j, -1152921504606846976 ≤ ni o j ∧ ni o j ≤ 1152921504606846976) : CarI (val o) o 0 :=
  ⟨hl, fun j hj => absurd hj (by omega), by simp, fun j _ => hb j, by have := hb 0; omega⟩
theorem CarI.digit {V : Int} {s : List Int} {i : Nat} (h : CarI V s i) : ni s i % 65536 = dgI V i := by
  have h1 := h.high
  rw [val_drop] at h1
  unfold dgI
  rw [← h1, Int.add_mul_emod_self_left]
theorem CarI.step {V : Int} {s : List Int} {i : Nat} (h : CarI V s i) (hi : i < 15) :
    CarI V ((s.set i (ni s i - ni s i / 65536 * 65536)).set (i + 1) (ni s (i + 1) + ni s i / 65536)) (i + 1) := by
  have hd := h.digit
  have hl := h.len
  have e : ni s i - ni s i / 65536 * 65536 = ni s i % 65536 := by omega
  rw [e]
  have hn : ∀ j, ni ((s.set i (ni s i % 65536)).set (i + 1) (ni s (i + 1) + ni s i / 65536)) j = if i + 1 = j then ni s (i + 1) + ni s i / 65536 else if i = j then ni s i % 65536 else ni s j := fun j => by
    rw [ni_set _ _ _ _ (by simp; omega), ni_set _ _ _ _ (by omega)]
  refine ⟨by simp [hl], fun j hj => ?_, ?_, fun j hj => ?_, ?_⟩
  · rw [hn, if_neg (by omega)]
    by_cases hij : i = j
    · rw [if_pos hij, ← hij, hd]
    · rw [if_neg hij]; exact h.low j (by omega)
  · rw [drop_set_eq _ _ _ _ (Nat.le_refl _), drop_set_le _ _ _ _ (by omega), val_set _ _ _ (by simp; omega), ni_drop, Nat.sub_self, Nat.add_zero]
    have h1 := h.high
    rw [val_drop] at h1
    rw [pow_div_succ, ← h1]
    simp
    omega
  · rw [hn, if_neg (by omega), if_neg (by omega)]; exact h.big j (by omega)
  · rw [hn, if_pos rfl]
    have h1 := h.big (i + 1) (by omega)
    have h2 := h.here
    omega
theorem CarI.stop {V : Int} {s : List Int} (h : CarI V s 15) :
    ((s.set 15 (ni s 15 - ni s 15 / 65536 * 65536)).set 0 (ni s 0 + 38 * (ni s 15 / 65536))) = carL V ∧ ni s 0 = dgI V 0 ∧ ni s 15 / 65536 = V / 65536 ^ 16 := by
  have hd := h.digit
  have hl := h.len
  have e : ni s 15 - ni s 15 / 65536 * 65536 = ni s 15 % 65536 := by omega
  have h1 := h.high
  rw [val_drop, show s.drop (15 + 1) = [] from List.drop_eq_nil_of_le (by omega)] at h1
  have h2 : ni s 15 / 65536 = V / 65536 ^ 16 := by
    rw [show (16 : Nat) = 15 + 1 from rfl, pow_div_succ, ← h1]; simp [val]
  refine ⟨ni_ext (by simp [hl, carL_len]) fun j hj => ?_, h.low 0 (by omega), h2⟩
  simp [hl] at hj
  rw [ni_set _ _ _ _ (by simp; omega), ni_set _ _ _ _ (by omega), carL_ni _ _ hj, e, hd, h2, h.low 0 (by omega)]
  by_cases h0 : 0 = j
  · rw [if_pos h0, if_pos h0]
  · rw [if_neg h0, if_neg h0]
    by_cases h15 : 15 = j
    · rw [if_pos h15, h15]
    · rw [if_neg h15]; exact h.low j (by omega)
def Gd (B : Int) (o : List Int) : Prop := o.length = 16 ∧ ∀ j, -B ≤ ni o j ∧ ni o j ≤ B
theorem val_bd (l : List Int) (B : Int) (hB : 0 ≤ B) (h : ∀ j, -B ≤ ni l j ∧ ni l j ≤ B) : -(2 * (B * 65536 ^ l.length) - B) ≤ val l ∧ val l ≤ 2 * (B * 65536 ^ l.length) - B := by
  induction l with
  | nil => simp [val]; omega
  | cons x l ih =>
    have h0 := h 0
    have ih := ih (fun j => by have := h (j + 1); rwa [ni_cons_succ] at this)
    have hx : ni (x :: l) 0 = x := by simp [ni]
    rw [hx] at h0
    have e : B * 65536 ^ (x :: l).length = 65536 * (B * 65536 ^ l.length) := by
      rw [List.length_cons, Int.pow_succ, ← Int.mul_assoc, Int.mul_comm 65536]
    rw [e]
    show _ ≤ x + 65536 * val l ∧ x + 65536 * val l ≤ _
    generalize B * 65536 ^ l.length = K at *
    omega
theorem T16 : (65536 : Int) ^ 16 = 115792089237316195423570985008687907853269984665640564039457584007913129639936 := by decide +kernel
theorem carV_two (T V : Int) (hT : 100000000000000000000 ≤ T) (h1 : -(2 * (18014398509481984 * T)) ≤ V) (h2 : V ≤ 2 * (18014398509481984 * T)) :
    0 ≤ (V % T + 38 * (V / T)) % T + 38 * ((V % T + 38 * (V / T)) / T) ∧ (V % T + 38 * (V / T)) % T + 38 * ((V % T + 38 * (V / T)) / T) < T := by
  have e1 := Int.emod_add_mul_ediv V T
  have e2 := Int.emod_nonneg V (show T ≠ 0 by omega)
  have e3 := Int.emod_lt_of_pos V (show 0 < T by omega)
  have c1 : V / T ≤ 36028797018963968 := Int.ediv_le_of_le_mul (by omega) (by omega)
  have c2 : -36028797018963968 ≤ V / T := Int.le_ediv_of_mul_le (by omega) (by omega)
  generalize V / T = c at *
  generalize V % T = u at *
  have f1 := Int.emod_add_mul_ediv (u + 38 * c) T
  have f2 := Int.emod_nonneg (u + 38 * c) (show T ≠ 0 by omega)
  have f3 := Int.emod_lt_of_pos (u + 38 * c) (show 0 < T by omega)
  have d1 : (u + 38 * c) / T < 2 := Int.ediv_lt_of_lt_mul (by omega) (by omega)
  have d2 : -1 ≤ (u + 38 * c) / T := Int.le_ediv_of_mul_le (by omega) (by omega)
  generalize (u + 38 * c) / T = d at *
  generalize (u + 38 * c) % T = z at *
  have hd : d = -1 ∨ d = 0 ∨ d = 1 := by omega
  rcases hd with rfl | rfl | rfl <;> omega
theorem carV_range (V : Int) (B : Int) (hB : 0 ≤ B) (hB2 : B ≤ 18014398509481984) (h1 : -(2 * (B * 65536 ^ 16)) ≤ V) (h2 : V ≤ 2 * (B * 65536 ^ 16)) : 0 ≤ carV (carV V) ∧ carV (carV V) < 65536 ^ 16 := by
  unfold carV
  have hT := T16
  have h3 : B * 65536 ^ 16 ≤ 18014398509481984 * 65536 ^ 16 := Int.mul_le_mul_of_nonneg_right hB2 (Int.pow_nonneg (by omega))
  refine carV_two (65536 ^ 16) V (by omega) (by omega) (by omega)
theorem carL_small (V : Int) (h1 : 0 ≤ V) (h2 : V < 65536 ^ 16) : carL V = dgL V := by
  unfold carL
  rw [Int.ediv_eq_zero_of_lt h1 h2]
  refine ni_ext (by simp) fun i hi => ?_
  simp [dgL_len] at hi
  rw [ni_set _ _ _ _ (by rw [dgL_len]; omega)]
  split
  · rename_i h; subst h; rw [dgL_ni _ _ (by omega)]; omega
  · rfl
theorem carL_gd (V : Int) (B : Int) (h1 : -B ≤ V / 65536 ^ 16) (h2 : V / 65536 ^ 16 ≤ B) (hB : 65535 ≤ B) : Gd (39 * B) (carL V) := by
  refine ⟨carL_len V, fun j => ?_⟩
  by_cases hj : j < 16
  · rw [carL_ni _ _ hj]
    have := dgI_bd V 0
    have := dgI_bd V j
    split <;> omega
  · rw [ni_out _ _ (by rw [carL_len]; omega)]; omega
theorem Gd.mono {B C : Int} {o : List Int} (h : Gd B o) (hc : B ≤ C) : Gd C o := ⟨h.1, fun j => by have := h.2 j; omega⟩
theorem carL_gd3 (V : Int) (h1 : -1 ≤ V / 65536 ^ 16) (h2 : V / 65536 ^ 16 ≤ 1) : Gd 65600 (carL V) := by
  refine ⟨carL_len V, fun j => ?_⟩
  by_cases hj : j < 16
  · rw [carL_ni _ _ hj]
    have := dgI_bd V 0
    have := dgI_bd V j
    split <;> omega
  · rw [ni_out _ _ (by rw [carL_len]; omega)]; omega
theorem carL_gd2 (V : Int) (h1 : -1 ≤ V / 65536 ^ 16) (h2 : V / 65536 ^ 16 ≤ 1) : Gd 1048576 (carL V) := by
  refine ⟨carL_len V, fun j => ?_⟩
  by_cases hj : j < 16
  · rw [carL_ni _ _ hj]
    have := dgI_bd V 0
    have := dgI_bd V j
    split <;> omega
  · rw [ni_out _ _ (by rw [carL_len]; omega)]; omega
theorem carV_div (V : Int) (h1 : -(2 * (10995116277760000 * 65536 ^ 16)) ≤ V) (h2 : V ≤ 2 * (10995116277760000 * 65536 ^ 16)) : -1 ≤ carV V / 65536 ^ 16 ∧ carV V / 65536 ^ 16 ≤ 1 ∧ -21990232555520000 ≤ V / 65536 ^ 16 ∧ V / 65536 ^ 16 ≤ 21990232555520000 := by
  unfold carV
  have hT := T16
  have hT2 : (100000000000000000000 : Int) ≤ 65536 ^ 16 := by omega
  generalize (65536 : Int) ^ 16 = T at *
  have e1 := Int.emod_add_mul_ediv V T
  have e2 := Int.emod_nonneg V (show T ≠ 0 by omega)
  have e3 := Int.emod_lt_of_pos V (show 0 < T by omega)
  have c1 : V / T ≤ 21990232555520000 := Int.ediv_le_of_le_mul (by omega) (by omega)
  have c2 : -21990232555520000 ≤ V / T := Int.le_ediv_of_mul_le (by omega) (by omega)
  generalize V / T = c at *
  generalize V % T = u at *
  have d1 : (u + 38 * c) / T < 2 := Int.ediv_lt_of_lt_mul (by omega) (by omega)
  have d2 : -1 ≤ (u + 38 * c) / T := Int.le_ediv_of_mul_le (by omega) (by omega)
  omega
def pI : Int := 57896044618658097711785492504343953926634992332820282019728792003956564819949
theorem pI_two : (65536 : Int) ^ 16 = 2 * pI + 38 := by decide +kernel
theorem carV_mod (V : Int) : carV V % pI = V % pI := by
  unfold carV
  have h := Int.emod_add_mul_ediv V (65536 ^ 16)
  have h2 := pI_two
  generalize V / 65536 ^ 16 = c at *
  generalize V % 65536 ^ 16 = u at *
  generalize (65536 : Int) ^ 16 = T at *
  subst h2
  have e : V = u + 38 * c + pI * (2 * c) := by
    rw [← h, Int.add_mul, Int.mul_comm 2 pI, Int.mul_assoc]; omega
  rw [e, Int.add_mul_emod_self_left]
def timT (a b : List Int) : Nat → List Int
  | 0 => List.replicate 31 0
  | n + 1 => (timT a b n).set (n / 16 + n % 16) (ni (timT a b n) (n / 16 + n % 16) + ni a (n / 16) * ni b (n % 16))
structure TimI (a b : List Int) (i k : Nat) (t : List Int) : Prop where
  len : t.length = 31
  ex : t = timT a b (16 * i + k)
  eq : val t = val (a.take i) * val b + 65536 ^ i * (ni a i * val (b.take k))
  bd : ∀ j, -((16 * i + k) * 1099511627776) ≤ ni t j ∧ ni t j ≤ (16 * i + k) * 1099511627776
theorem val_zeros (n : Nat) : val (List.replicate n 0) = 0 := by
  induction n with
  | zero => rfl
  | succ n ih => rw [List.replicate_succ]; show 0 + 65536 * val _ = 0; rw [ih]; rfl
theorem ni_zeros (n j : Nat) : ni (List.replicate n 0) j = 0 := by
  unfold ni
  rw [List.getD_eq_getElem?_getD, List.getElem?_replicate]
  split <;> rfl
theorem TimI.start (a b : List Int) : TimI a b 0 0 (List.replicate 31 0) :=
  ⟨by simp, rfl, by rw [val_zeros]; simp [val], fun j => by rw [ni_zeros]; simp⟩
theorem mul_bd (x y : Int) (h1 : -1048576 ≤ x ∧ x ≤ 1048576) (h2 : -1048576 ≤ y ∧ y ≤ 1048576) : -1099511627776 ≤ x * y ∧ x * y ≤ 1099511627776 := by
  have h3 : x.natAbs ≤ 1048576 := by omega
  have h4 : y.natAbs ≤ 1048576 := by omega
  have h5 : (x * y).natAbs ≤ 1048576 * 1048576 := by rw [Int.natAbs_mul]; exact Nat.mul_le_mul h3 h4
  omega
theorem TimI.step {a b : List Int} {i k : Nat} {t : List Int} (h : TimI a b i k t) (ha : Gd 1048576 a) (hb : Gd 1048576 b) (hi : i < 16) (hk : k < 16) : TimI a b i (k + 1) (t.set (i + k) (ni t (i + k) + ni a i * ni b k)) := by
  have hm := mul_bd _ _ (ha.2 i) (hb.2 k)
  refine ⟨by simp [h.len], ?_, ?_, fun j => ?_⟩
  · rw [show 16 * i + (k + 1) = (16 * i + k) + 1 by omega, timT, ← h.ex, show (16 * i + k) / 16 = i by omega, show (16 * i + k) % 16 = k by omega]
  · rw [val_set _ _ _ (by rw [h.len]; omega), h.eq, val_take_succ _ _ (by rw [hb.1]; omega)]
    have e : (65536 : Int) ^ (i + k) = 65536 ^ i * 65536 ^ k := Int.pow_add ..
    rw [e, Int.mul_add, Int.mul_add]
    rw [show ni t (i + k) + ni a i * ni b k - ni t (i + k) = ni a i * ni b k by omega]
    rw [show ni a i * (65536 ^ k * ni b k) = 65536 ^ k * (ni a i * ni b k) by rw [← Int.mul_assoc, ← Int.mul_assoc, Int.mul_comm (ni a i)]]
    rw [Int.mul_assoc (65536 ^ i)]
    omega
  · rw [ni_set _ _ _ _ (by rw [h.len]; omega)]
    have h1 := h.bd j
    have h2 := h.bd (i + k)
    push_cast
    split <;> omega
theorem TimI.next {a b : List Int} {i : Nat} {t : List Int} (h : TimI a b i 16 t) (ha : a.length = 16) (hb : b.length = 16) (hi : i < 16) : TimI a b (i + 1) 0 t := by
  refine ⟨h.len, by rw [h.ex]; congr 1, ?_, fun j => by have := h.bd j; push_cast at *; omega⟩
  rw [h.eq, val_take_succ a i (by omega), List.take_of_length_le (show b.length ≤ 16 by omega), Int.add_mul, Int.mul_assoc]
  simp [val]
theorem TimI.stop {a b : List Int} {t : List Int} (h : TimI a b 16 0 t) (ha : a.length = 16) : val t = val a * val b := by
  rw [h.eq, List.take_of_length_le (by omega)]; simp [val]
def folT (t : List Int) : Nat → List Int
  | 0 => List.replicate 16 0
  | i + 1 => if i < 15 then (folT t i).set i (ni t i + 38 * ni t (i + 16)) else (folT t i).set 15 (ni t 15)
structure FolI (t : List Int) (i : Nat) (o : List Int) : Prop where
  len : o.length = 16
  ex : o = folT t i
  eq : val (o.take i) = val (t.take i) + 38 * val ((t.drop 16).take (if i < 16 then i else 15))
  bd : ∀ j, -10995116277760000 ≤ ni o j ∧ ni o j ≤ 10995116277760000
theorem FolI.start (t : List Int) : FolI t 0 (List.replicate 16 0) := ⟨by simp, rfl, by simp [val], fun j => by rw [ni_zeros]; omega⟩
theorem FolI.step {t o : List Int} {i : Nat} (h : FolI t i o) (ht : t.length = 31) (hi : i < 15) (hb : ∀ j, -281474976710656 ≤ ni t j ∧ ni t j ≤ 281474976710656) : FolI t (i + 1) (o.set i (ni t i + 38 * ni t (i + 16))) := by
  refine ⟨by simp [h.len], by rw [folT, if_pos hi, ← h.ex], ?_, fun j => ?_⟩
  · rw [val_take_succ _ _ (by simp [h.len]; omega), val_take_succ _ _ (by omega), ni_set _ _ _ _ (by rw [h.len]; omega), if_pos rfl, List.take_set_of_le (Nat.le_refl _), h.eq, if_pos (by omega), if_pos (by omega)]
    rw [val_take_succ _ _ (by simp [ht]; omega), ni_drop, Nat.add_comm 16 i, Int.mul_add]
    generalize ni t (i + 16) = x
    generalize (65536 : Int) ^ i = P
    rw [Int.mul_add, Int.mul_left_comm P 38 x]
    omega
  · rw [ni_set _ _ _ _ (by rw [h.len]; omega)]
    have := h.bd j
    have := hb i
    have := hb (i + 16)
    split <;> omega
theorem FolI.last {t o : List Int} (h : FolI t 15 o) (ht : t.length = 31) (hb : ∀ j, -281474976710656 ≤ ni t j ∧ ni t j ≤ 281474976710656) : FolI t 16 (o.set 15 (ni t 15)) := by
  refine ⟨by simp [h.len], by rw [folT, if_neg (by omega), ← h.ex], ?_, fun j => ?_⟩
  · rw [val_take_succ (o.set 15 (ni t 15)) 15 (by simp [h.len]), val_take_succ t 15 (by omega), ni_set _ _ _ _ (by rw [h.len]; omega), if_pos rfl, List.take_set_of_le (Nat.le_refl _), h.eq, if_pos (by omega), if_neg (by omega)]
    omega
  · rw [ni_set _ _ _ _ (by rw [h.len]; omega)]
    have := h.bd j
    have := hb 15
    split <;> omega
theorem FolI.stop {t o : List Int} (h : FolI t 16 o) (ht : t.length = 31) : val o % pI = val t % pI ∧ Gd 10995116277760000 o := by
  refine ⟨?_, h.len, fun j => h.bd j⟩
  have h1 := h.eq
  rw [show o.take 16 = o from List.take_of_length_le (by rw [h.len]; omega), if_neg (by omega), show (t.drop 16).take 15 = t.drop 16 from List.take_of_length_le (by simp [ht])] at h1
  have h2 := val_split t 16 (by omega)
  have h3 := pI_two
  rw [h1, h2]
  generalize val (t.drop 16) = y
  generalize val (t.take 16) = x
  generalize (65536 : Int) ^ 16 = T at *
  subst h3
  rw [show x + (2 * pI + 38) * y = x + 38 * y + pI * (2 * y) by rw [Int.add_mul, Int.mul_comm 2 pI, Int.mul_assoc]; omega, Int.add_mul_emod_self_left]
theorem dig_unique (s : List Int) (hl : s.length = 16) (h : ∀ j, j < 16 → 0 ≤ ni s j ∧ ni s j ≤ 65535) : s = dgL (val s) := by
  have key : ∀ i, i ≤ 16 → val (s.drop i) = val s / 65536 ^ i := by
    intro i hi
    induction i with
    | zero => simp
    | succ i ih =>
      have h1 := ih (by omega)
      have h2 := h i (by omega)
      rw [val_drop] at h1
      rw [pow_div_succ, ← h1]
      omega
  refine ni_ext (by rw [hl, dgL_len]) fun j hj => ?_
  rw [hl] at hj
  have h1 := key j (by omega)
  have h2 := h j hj
  rw [val_drop] at h1
  rw [dgL_ni _ _ hj]
  unfold dgI
  rw [← h1]
  omega
def pD (i : Nat) : Int := if i = 0 then 65517 else if i < 15 then 65535 else 32767
structure SubI (V : Int) (i : Nat) (m : List Int) : Prop where
  len : m.length = 16
  low : ∀ j, j + 1 < i → 0 ≤ ni m j ∧ ni m j ≤ 65535
  raw : -65536 ≤ ni m (i - 1) ∧ ni m (i - 1) ≤ 65535
  rest : ∀ j, i ≤ j → j < 16 → ni m j = dgI V j
  eq : val (m.take i) = val ((dgL V).take i) - val ((dgL pI).take i)
theorem pI_dg : ∀ i, i < 16 → ni (dgL pI) i = pD i := by decide +kernel
theorem SubI.start (V : Int) : SubI V 1 ((dgL V).set 0 (dgI V 0 - 65517)) := by
  have h0 := dgI_bd V 0
  refine ⟨by simp [dgL_len], fun j hj => by omega, ?_, fun j h1 h2 => ?_, ?_⟩
  · rw [ni_set _ _ _ _ (by rw [dgL_len]; omega), if_pos rfl]; omega
  · rw [ni_set _ _ _ _ (by rw [dgL_len]; omega), if_neg (by omega), dgL_ni _ _ h2]
  · rw [val_take_succ _ 0 (by simp [dgL_len]), val_take_succ _ 0 (by simp [dgL_len]), val_take_succ _ 0 (by simp [dgL_len]), pI_dg 0 (by omega), ni_set _ _ _ _ (by rw [dgL_len]; omega), if_pos rfl, dgL_ni _ _ (by omega)]
    simp [val, pD]
theorem SubI.step {V : Int} {i : Nat} {m : List Int} (h : SubI V i m) (h1 : 1 ≤ i) (hi : i < 16) : SubI V (i + 1) ((m.set i (ni m i - pD i - ni m (i - 1) / 65536 % 2)).set (i - 1) (ni m (i - 1) % 65536)) := by
  have hl := h.len
  have hr := h.raw
  have hd := dgI_bd V i
  have hm := h.rest i (Nat.le_refl _) hi
  have hp : 0 ≤ pD i ∧ pD i ≤ 65535 := by unfold pD; split <;> (try split) <;> omega
  have hn : ∀ j, ni ((m.set i (ni m i - pD i - ni m (i - 1) / 65536 % 2)).set (i - 1) (ni m (i - 1) % 65536)) j = if i - 1 = j then ni m (i - 1) % 65536 else if i = j then ni m i - pD i - ni m (i - 1) / 65536 % 2 else ni m j := fun j => by
    rw [ni_set _ _ _ _ (by simp; omega), ni_set _ _ _ _ (by omega)]
  refine ⟨by simp [hl], fun j hj => ?_, ?_, fun j g1 g2 => ?_, ?_⟩
  · rw [hn]
    by_cases e : i - 1 = j
    · rw [if_pos e]; omega
    · rw [if_neg e, if_neg (by omega)]; exact h.low j (by omega)
  · rw [Nat.add_sub_cancel, hn, if_neg (by omega), if_pos rfl]; omega
  · rw [hn, if_neg (by omega), if_neg (by omega)]; exact h.rest j (by omega) g2
  · rw [val_take_succ _ i (by simp [hl]; omega), hn, if_neg (by omega), if_pos rfl, val_take_succ _ i (by rw [dgL_len]; omega), val_take_succ _ i (by rw [dgL_len]; omega), pI_dg _ hi, dgL_ni _ _ hi]
    have e1 : ((m.set i (ni m i - pD i - ni m (i - 1) / 65536 % 2)).set (i - 1) (ni m (i - 1) % 65536)).take i = (m.take i).set (i - 1) (ni m (i - 1) % 65536) := by
      rw [List.take_set, List.take_set_of_le (Nat.le_refl _)]
    rw [e1, val_set _ _ _ (by simp [hl]; omega), h.eq, ni_take, if_pos (by omega), hm]
    have e2 : (65536 : Int) ^ i = 65536 ^ (i - 1) * 65536 := by
      have := Int.pow_succ (65536 : Int) (i - 1)
      rwa [show (i - 1).succ = i by omega] at this
    rw [e2]
    generalize (65536 : Int) ^ (i - 1) = P
    generalize ni m (i - 1) = r at *
    have hb : r % 65536 - r = 65536 * (r / 65536 % 2) := by omega
    rw [hb, Int.mul_sub, Int.mul_sub, Int.mul_assoc P 65536, Int.mul_assoc P 65536, Int.mul_assoc P 65536]
    omega
theorem SubI.stop {V : Int} {m : List Int} (h : SubI V 16 m) (h0 : 0 ≤ V) (hT : V < 65536 ^ 16) : val m = V - pI ∧ (0 ≤ ni m 15 → pI ≤ V ∧ m = dgL (V - pI)) ∧ (ni m 15 < 0 → V < pI) := by
  have e := h.eq
  rw [List.take_of_length_le (by rw [h.len]; omega), List.take_of_length_le (by rw [dgL_len]; omega), List.take_of_length_le (by rw [dgL_len]; omega), val_dgL, val_dgL, Int.emod_eq_of_lt h0 hT, show pI % 65536 ^ 16 = pI by decide +kernel] at e
  have hs := val_split m 15 (by rw [h.len]; omega)
  have hd : val (m.drop 15) = ni m 15 := by rw [val_drop, show m.drop (15 + 1) = [] from List.drop_eq_nil_of_le (by rw [h.len]; omega)]; simp [val]
  rw [hd] at hs
  have hlow : ∀ j, j < 15 → 0 ≤ ni m j ∧ ni m j ≤ 65535 := fun j hj => h.low j (by omega)
  have ht : 0 ≤ val (m.take 15) ∧ val (m.take 15) < 65536 ^ 15 := by
    have key : ∀ i, i ≤ 15 → 0 ≤ val (m.take i) ∧ val (m.take i) < 65536 ^ i := by
      intro i hi
      induction i with
      | zero => simp [val]
      | succ i ih =>
        have h1 := ih (by omega)
        have h2 := hlow i (by omega)
        rw [val_take_succ _ _ (by rw [h.len]; omega), Int.pow_succ]
        have hp : (0 : Int) < 65536 ^ i := Int.pow_pos (by omega)
        generalize (65536 : Int) ^ i = P at *
        have h3 : 0 ≤ P * ni m i := Int.mul_nonneg (by omega) h2.1
        have h4 : P * ni m i ≤ P * 65535 := Int.mul_le_mul_of_nonneg_left h2.2 (by omega)
        omega
    exact key 15 (by omega)
  refine ⟨e, fun h15 => ?_, fun h15 => ?_⟩
  · have h1 : 0 ≤ (65536 : Int) ^ 15 * ni m 15 := Int.mul_nonneg (Int.pow_nonneg (by omega)) h15
    refine ⟨by omega, ?_⟩
    rw [← e]
    refine dig_unique m h.len fun j hj => ?_
    by_cases hj2 : j < 15
    · exact hlow j hj2
    · obtain rfl : j = 15 := by omega
      exact ⟨h15, by have hr : -65536 ≤ ni m 15 ∧ ni m 15 ≤ 65535 := h.raw; omega⟩
  · have h1 : (65536 : Int) ^ 15 * ni m 15 ≤ 65536 ^ 15 * (-1) := Int.mul_le_mul_of_nonneg_left (by omega) (Int.pow_nonneg (by omega))
    omega
def cellsI (xs : List Int) : Array Value := (xs.map (Value.int .i64)).toArray
def ArrI (t : TypeId) (w : World) (b : Nat) (xs : List Int) : Prop := w.heap[b]? = some (.cells (cellsI xs) t (0, 0))
theorem ArrI.cell {t : TypeId} {w : World} {b : Nat} {xs : List Int} (h : ArrI t w b xs) (j : Nat) (hj : j < xs.length) : w.cell? ⟨b, j, none⟩ = some (.int .i64 (ni xs j)) := by
  unfold ArrI at h
  simp [World.cell?, h, cellsI, ni, hj]
theorem ArrI.free {t : TypeId} {w : World} {b : Nat} {xs : List Int} (h : ArrI t w b xs) (j : Nat) : w.frozen? ⟨b, j, none⟩ = false := by
  unfold ArrI at h
  simp [World.frozen?, h]
theorem ArrI.lt {t : TypeId} {w : World} {b : Nat} {xs : List Int} (h : ArrI t w b xs) : b < w.heap.size := by
  unfold ArrI at h
  exact (Array.getElem?_eq_some_iff.1 h).1
theorem ArrI.set {t : TypeId} {w : World} {b : Nat} {xs : List Int} (h : ArrI t w b xs) (j : Nat) (x : Int) : ArrI t (w.setCell ⟨b, j, none⟩ (.int .i64 x)) b (xs.set j x) := by
  unfold ArrI at *
  simp [World.setCell, Array.getElem?_modify, h, cellsI, List.map_set]
theorem ArrI.other {t : TypeId} {w : World} {b : Nat} {xs : List Int} (h : ArrI t w b xs) {a : Addr} (ha : b ≠ a.block) (v : Value) : ArrI t (w.setCell a v) b xs := by
  unfold ArrI at *
  rw [Below.heap_setCell _ _ _ _ ha]; exact h
theorem ArrI.below {t : TypeId} {w w' : World} {b B : Nat} {xs : List Int} (h : ArrI t w b xs) (hb : Below B w w') (hB : b < B) : ArrI t w' b xs := by
  unfold ArrI at *
  rw [hb.block b hB]; exact h
theorem ArrI.alloc {t : TypeId} {w : World} {b : Nat} {xs : List Int} (h : ArrI t w b xs) (o : Obj) : ArrI t (w.alloc o) b xs := by
  unfold ArrI at *
  rw [Below.heap_alloc _ _ _ (ArrI.lt h)]; exact h
theorem ArrI.drew {t : TypeId} {w : World} {b : Nat} {xs : List Int} (h : ArrI t w b xs) : ArrI t w.drew b xs := h
theorem ArrI.ext {t : TypeId} {w : World} {b : Nat} {xs : List Int} (h : ArrI t w b xs) (x : World) : ArrI t (w.ext x) b xs := h.below (w.ext_below x) h.lt
theorem ArrI.new (t : TypeId) (w : World) (xs : List Int) : ArrI t (w.alloc (.cells (cellsI xs) t)) w.heap.size xs := by
  unfold ArrI
  show (w.heap.push _)[w.heap.size]? = _
  simp
theorem size_cellsI (s : List Int) : (cellsI s).size = s.length := by simp [cellsI]
theorem one_cellsI (s : List Int) : (cellsI s).all (·.oneCell') = true := by
  rw [Array.all_eq_true_iff_forall_mem]
  intro v hv
  simp [cellsI] at hv
  obtain ⟨x, _, rfl⟩ := hv
  rfl
theorem cellsI_set (s : List Int) (i : Nat) (x : Int) : (cellsI s).setIfInBounds i (.int .i64 x) = cellsI (s.set i x) := by simp [cellsI, List.map_set]
theorem ArrI.row {t : TypeId} {w : World} {b : Nat} {xs : List Int} (h : ArrI t w b xs) (ys : List Int) : ArrI t (w.setRow b (cellsI ys)) b ys := heap_setRow' _ _ _ _ _ h
theorem ArrI.otherRow {t : TypeId} {w : World} {b g : Nat} {xs : List Int} (h : ArrI t w b xs) (hg : b ≠ g) (cs : Array Value) : ArrI t (w.setRow g cs) b xs := by
  unfold ArrI at *
  simp only [World.setRow, Array.getElem?_modify]
  rw [if_neg (by omega)]; exact h
theorem uGF : Tryz.prog.underlying 68 = some (.array 16 2) := by kernel_rfl
theorem iGF : (Tryz.prog.info? 68).map (·.size) = some 16 := by kernel_rfl
theorem zGF : (Tryz.prog.info? 68).bind (·.zero) = some (.agg (cellsI (List.replicate 16 0))) := by kernel_rfl
theorem iGFx (o : List Int) (h : o.length = 16) : (Tryz.prog.info? 68).map (·.size) = some (cellsI o).size := by rw [size_cellsI, h]; exact iGF
theorem zT31 : (Tryz.prog.info? 116).bind (·.zero) = some (.agg (cellsI (List.replicate 31 0))) := by kernel_rfl
theorem i64_and65535 (n : Int) : bits .and .i64 n 65535 = n % 65536 := by
  have h1 : (BitVec.ofInt 64 65535).toNat = 2 ^ 16 - 1 := by decide
  have key : (BitVec.ofInt 64 n &&& BitVec.ofInt 64 65535).toNat = (n % ((2 ^ 64 : Nat) : Int)).toNat % 2 ^ 16 := by
    rw [BitVec.toNat_and, BitVec.toNat_ofInt, h1, Nat.and_two_pow_sub_one_eq_mod]
  show IntKind.i64.wrap ((BitVec.ofInt 64 n &&& BitVec.ofInt 64 65535).toNat : Nat) = n % 65536
  rw [key, IntKind.wrap_i64]
  omega
end Go.Proofs.YtejnnghfelpioaaGreat
namespace Go.Proofs.YtejnnghfelpioaaGreat
open Go.RowKit
set_option maxHeartbeats 4000000 in
theorem carry_any (o : List Int) (w : World) (hl : o.length = 16) (hb : ∀ j, -1152921504606846976 ≤ ni o j ∧ ni o j ≤ 1152921504606846976) :
    Calls Tryz.prog 41 #[.agg (cellsI o)] w fun e w' => e = .returned (.agg (cellsI (carL (val o)))) ∧ Below w.heap.size w w' := by
  have hst := hid (CarI.start o hl hb)
  obtain ⟨V, hV⟩ : ∃ V, V = val o := ⟨_, rfl⟩
  rw [← hV] at hst ⊢
  have iO := hid (iGFx o hl)
  clear hl hb hV
  have hA0 := hid (show ArrI 68 ((w.alloc (.cells (cellsI o) 68)).alloc (.cells (cellsI (List.replicate 16 0)) 68)) w.heap.size o from (ArrI.new _ w o).alloc _)
  have hC0 := hid (show ArrI 68 ((w.alloc (.cells (cellsI o) 68)).alloc (.cells (cellsI (List.replicate 16 0)) 68)) (w.heap.size + 1) (List.replicate 16 0) by
    have := ArrI.new 68 (w.alloc (.cells (cellsI o) 68)) (List.replicate 16 0)
    rw [World.size_alloc] at this; exact this)
  have hb0 : Below w.heap.size w ((w.alloc (.cells (cellsI o) 68)).alloc (.cells (cellsI (List.replicate 16 0)) 68)) := ((Below.refl _ _).alloc (Nat.le_refl _) _).alloc (by simp) _
  obtain ⟨z, hz⟩ : ∃ z : List Int, z = List.replicate 16 0 := ⟨_, rfl⟩
  have zZ := hid zGF
  have hzl : z.length = 16 := by rw [hz]; simp
  rw [← hz] at hA0 hC0 hb0 zZ
  clear hz
  go_enter Tryz.func41, Tryz.ntmps41
  go_wp2_with (refine wpList_alloc_new rfl 68 rfl (cellsI z) zZ.out ?_; simp only [Act.put, pvA, pv0, pv1, World.size_alloc])
  generalize (w.alloc (.cells (cellsI o) 68)).alloc (.cells (cellsI z) 68) = w1 at hA0 hC0 hb0 ⊢
  go_loopw [3] (fun iv wr => ∃ (i : Nat) (s : List Int), i ≤ 16 ∧ iv = .int .i64 (i : Int) ∧ Hid ((i < 16 → CarI V s i) ∧ (i = 16 → s = carL V)) ∧ Hid (ArrI 68 wr w.heap.size s) ∧ Hid (ArrI 68 wr (w.heap.size + 1) z) ∧ Below w.heap.size w wr)
    (fun iv _ => 16 - (intOf iv).toNat)
  case atStart => exact ⟨0, o, by omega, rfl, hid ⟨fun _ => hst.out, fun h => by omega⟩, hA0, hC0, hb0⟩
  case round =>
    clear hA0 hC0 hb0 hst
    obtain ⟨i, s, hi, rfl, hI, hA, hC, hb⟩ := hrel
    by_cases hlt : i < 16
    · have hc := hid (hI.out.1 hlt)
      clear hI
      have hsl := hc.out.len
      have hh := hc.out.here
      have cx := hA.out.cell i (by omega)
      have fx := hA.out.free i
      have lx := hA.out.lt
      obtain ⟨x, hx⟩ : ∃ x, x = ni s i := ⟨_, rfl⟩
      rw [← hx] at cx hh
      have HX := hid hx
      clear hx
      obtain ⟨q, hq⟩ : ∃ q, q = x / 65536 := ⟨_, rfl⟩
      have q1 : -17600000000000 ≤ q := by omega
      have q2 : q ≤ 17600000000000 := by omega
      have q3 : 0 ≤ x - q * 65536 ∧ x - q * 65536 ≤ 65535 := by omega
      have q4 : x / 65536 = q := hq.symm
      have HQ := hid hq
      clear hq
      by_cases h15 : i < 15
      · have cy := hA.out.cell (i + 1) (by omega)
        have fy := hA.out.free (i + 1)
        have hy2 := hc.out.big (i + 1) (by omega)
        have hstep := hid (hc.out.step h15)
        obtain ⟨y, hy⟩ : ∃ y, y = ni s (i + 1) := ⟨_, rfl⟩
        rw [← hy] at cy hy2 hstep
        rw [← HX.out, ← HQ.out] at hstep
        have h15i : (i : Int) < 15 := by omega
        clear hy hc h15
        go_wp2
        go_roundw
        case rel =>
          exact ⟨i + 1, _, by omega, by go_num, hid ⟨fun _ => hstep.out, fun h => by omega⟩, hid ((hA.out.set i _).set (i + 1) _), hid ((hC.out.other (by show w.heap.size + 1 ≠ w.heap.size; omega) _).other (by show w.heap.size + 1 ≠ w.heap.size; omega) _), (hb.setCell (p := ⟨w.heap.size, i, none⟩) (Nat.le_refl _) _).setCell (p := ⟨w.heap.size, i + 1, none⟩) (Nat.le_refl _) _⟩
        case measure => simp [intOf]; omega
      · obtain rfl : i = 15 := by omega
        have cy := hA.out.cell 0 (by omega)
        have fy := hA.out.free 0
        have hd0 := dgI_bd V 0
        have hstop := hid hc.out.stop
        obtain ⟨y, hy⟩ : ∃ y, y = ni s 0 := ⟨_, rfl⟩
        rw [← hy] at cy hstop
        rw [← HX.out, ← HQ.out] at hstop
        have hy2 : 0 ≤ y ∧ y ≤ 65535 := by have := hstop.out.2.1; omega
        clear hy hc h15
        go_wp2
        go_roundw
        case rel =>
          exact ⟨16, _, by omega, by go_num, hid ⟨fun h => by omega, fun _ => hstop.out.1⟩, hid ((hA.out.set 15 _).set 0 _), hid ((hC.out.other (by show w.heap.size + 1 ≠ w.heap.size; omega) _).other (by show w.heap.size + 1 ≠ w.heap.size; omega) _), (hb.setCell (p := ⟨w.heap.size, 15, none⟩) (Nat.le_refl _) _).setCell (p := ⟨w.heap.size, 0, none⟩) (Nat.le_refl _) _⟩
        case measure => simp [intOf]
    · obtain rfl : i = 16 := by omega
      have hs := hI.out.2 rfl
      have HS := hid hs
      have iS := hid (iGFx s (by rw [hs]; exact carL_len V))
      have zS := hid (show (cellsI z).size = (cellsI s).size by rw [size_cellsI, size_cellsI, hzl, hs, carL_len])
      have nS := hid (one_cellsI s)
      clear hs hI hlt hi
      go_wp2_with (first | (refine wpList_load_row rfl 68 (.tmp 1) rfl w.heap.size rfl 68 _ (0, 0) _ hA.out uGF rfl iS.out ?_; simp only [Act.put, pvA, pv0, pv1]) | (refine wpList_store_row rfl 68 (.tmp 2) (.tmp 38) rfl (w.heap.size + 1) _ rfl rfl 68 _ hC.out iS.out zS.out nS.out ?_; simp only [Act.put]))
      refine bodyPost_ret (results_cell_row rfl _ _ (w.heap.size + 1) 68 (cellsI s) (0, 0) _ rfl (heap_setRow' _ _ _ _ _ hC.out) uGF rfl iS.out) rfl ⟨by rw [HS.out], below_setRow' hb _ (by omega) _⟩
end Go.Proofs.YtejnnghfelpioaaGreat
namespace Go.Proofs.YtejnnghfelpioaaGreat
open Go.RowKit
def timL (a b : List Int) : List Int := carL (carV (val (folT (timT a b 256) 16)))
set_option maxHeartbeats 4000000 in
theorem times16_ex (a b : List Int) (w : World) (ha : Gd 1048576 a) (hb : Gd 1048576 b) :
    Calls Tryz.prog 36 #[.agg (cellsI a), .agg (cellsI b)] w fun e w' => ∃ o, e = .returned (.agg (cellsI o)) ∧ Gd 65600 o ∧ val o % pI = val a * val b % pI ∧ o = timL a b ∧ Below w.heap.size w w' := by
  have HA := hid ha
  have HB := hid hb
  have iA := hid (iGFx a ha.1)
  have iB := hid (iGFx b hb.1)
  clear ha hb
  obtain ⟨z, hz⟩ : ∃ z : List Int, z = List.replicate 16 0 := ⟨_, rfl⟩
  have zZ := hid zGF
  have hzl : z.length = 16 := by rw [hz]; simp
  have hF0 := hid (fun t => FolI.start t)
  rw [← hz] at zZ hF0
  clear hz
  obtain ⟨y, hy⟩ : ∃ y : List Int, y = List.replicate 31 0 := ⟨_, rfl⟩
  have zY := hid zT31
  have hT0 := hid (TimI.start a b)
  rw [← hy] at zY hT0
  clear hy
  obtain ⟨W0, hW0⟩ : ∃ W0, W0 = (((w.alloc (.cells (cellsI a) 68)).alloc (.cells (cellsI b) 68)).alloc (.cells (cellsI z) 68)).alloc (.cells (cellsI y) 116) := ⟨_, rfl⟩
  have hA0 := hid (show ArrI 68 W0 w.heap.size a by rw [hW0]; exact (((ArrI.new _ w a).alloc _).alloc _).alloc _)
  have hB0 := hid (show ArrI 68 W0 (w.heap.size + 1) b by
    have := ArrI.new 68 (w.alloc (.cells (cellsI a) 68)) b
    rw [World.size_alloc] at this; rw [hW0]; exact (this.alloc _).alloc _)
  have hC0 := hid (show ArrI 68 W0 (w.heap.size + 2) z by
    have := ArrI.new 68 ((w.alloc (.cells (cellsI a) 68)).alloc (.cells (cellsI b) 68)) z
    rw [World.size_alloc, World.size_alloc] at this; rw [hW0]; exact this.alloc _)
  have hT1 := hid (show ArrI 116 W0 (w.heap.size + 3) y by
    have := ArrI.new 116 (((w.alloc (.cells (cellsI a) 68)).alloc (.cells (cellsI b) 68)).alloc (.cells (cellsI z) 68)) y
    rw [World.size_alloc, World.size_alloc, World.size_alloc] at this; rw [hW0]; exact this)
  have hb0 : Below w.heap.size w W0 := by rw [hW0]; exact ((((Below.refl _ _).alloc (Nat.le_refl _) _).alloc (by simp) _).alloc (by simp; omega) _).alloc (by simp; omega) _
  go_enter Tryz.func36, Tryz.ntmps36
  go_wp2_with (first | (refine wpList_alloc_new rfl 68 rfl (cellsI z) zZ.out ?_; simp only [Act.put, pvA, pv0, pv1, World.size_alloc]) | (refine wpList_alloc_new rfl 116 rfl (cellsI y) zY.out ?_; simp only [Act.put, pvA, pv0, pv1, World.size_alloc]))
  rw [← hW0]
  clear hW0
  go_loopw [6] (fun iv wr => ∃ (i : Nat) (t : List Int), i ≤ 16 ∧ iv = .int .i64 (i : Int) ∧ Hid (TimI a b i 0 t) ∧ Hid (ArrI 68 wr w.heap.size a) ∧ Hid (ArrI 68 wr (w.heap.size + 1) b) ∧ Hid (ArrI 68 wr (w.heap.size + 2) z) ∧ Hid (ArrI 116 wr (w.heap.size + 3) t) ∧ Below w.heap.size w wr)
    (fun iv _ => 16 - (intOf iv).toNat)
  case atStart => exact ⟨0, y, by omega, rfl, hT0, hA0, hB0, hC0, hT1, hb0⟩
  case round =>
    clear hA0 hB0 hC0 hT0 hT1 hb0
    obtain ⟨i, t, hi, rfl, hI, hA, hB, hC, hT, hb⟩ := hrel
    by_cases hlt : i < 16
    · go_wp2
      go_loopw [7] (fun kv wr => ∃ (k : Nat) (t : List Int), k ≤ 16 ∧ kv = .int .i64 (k : Int) ∧ Hid (TimI a b i k t) ∧ Hid (ArrI 68 wr w.heap.size a) ∧ Hid (ArrI 68 wr (w.heap.size + 1) b) ∧ Hid (ArrI 68 wr (w.heap.size + 2) z) ∧ Hid (ArrI 116 wr (w.heap.size + 3) t) ∧ Below w.heap.size w wr)
        (fun kv _ => 16 - (intOf kv).toNat)
      case atStart => exact ⟨0, t, by omega, rfl, hI, hA, hB, hC, hT, hb⟩
      case round =>
        clear hI hA hB hC hT hb
        obtain ⟨k, t, hk, rfl, hI, hA, hB, hC, hT, hb⟩ := hrel
        by_cases hklt : k < 16
        · have ca := hA.out.cell i (by rw [HA.out.1]; exact hlt)
          have cb := hB.out.cell k (by rw [HB.out.1]; exact hklt)
          have ct := hT.out.cell (i + k) (by rw [hI.out.len]; omega)
          have ft := hT.out.free (i + k)
          have la := hA.out.lt
          have lb := hB.out.lt
          have lt := hT.out.lt
          have hst := hid (hI.out.step HA.out HB.out hlt hklt)
          have hm := mul_bd _ _ (HA.out.2 i) (HB.out.2 k)
          have hbd := hI.out.bd (i + k)
          obtain ⟨x, hx⟩ : ∃ x, x = ni a i := ⟨_, rfl⟩
          obtain ⟨u, hu⟩ : ∃ u, u = ni b k := ⟨_, rfl⟩
          obtain ⟨v, hv⟩ : ∃ v, v = ni t (i + k) := ⟨_, rfl⟩
          rw [← hx] at ca hm hst
          rw [← hu] at cb hm hst
          rw [← hv] at ct hbd hst
          obtain ⟨m, hm2⟩ : ∃ m, m = x * u := ⟨_, rfl⟩
          rw [← hm2] at hm hst
          have hv1 : -281474976710656 ≤ v ∧ v ≤ 281474976710656 := by omega
          have hw1 : IntKind.i64.wrap (x * u) = m := by rw [← hm2, IntKind.wrap_i64]; omega
          have hw2 : wrap64 (x * u) = m := by rw [← hm2]; unfold wrap64; omega
          have hw3 : IntKind.i64.wrap (v + m) = v + m := by rw [IntKind.wrap_i64]; omega
          clear hx hu hv hm2 hbd hI
          go_wp2_with fail
          (refine wp_region_ext_tail 17 (by kernel_rfl) (by kernel_rfl) ?_; simp only [List.take_succ_cons, List.take_zero, List.drop_succ_cons, List.drop_zero]; (repeat (go_big_quiet_step (first | fail))); refine wpQuiet_nil ?_; rintro _ ⟨xw, rfl⟩)
          go_wp2
          go_roundw
          case rel =>
            exact ⟨k + 1, _, by omega, by go_num, hst, hid ((hA.out.ext xw).other (by show w.heap.size ≠ w.heap.size + 3; omega) _), hid ((hB.out.ext xw).other (by show w.heap.size + 1 ≠ w.heap.size + 3; omega) _), hid ((hC.out.ext xw).other (by show w.heap.size + 2 ≠ w.heap.size + 3; omega) _), hid ((hT.out.ext xw).set (i + k) _), (World.ext_below_of hb hb.size xw).setCell (p := ⟨w.heap.size + 3, i + k, none⟩) (by show w.heap.size ≤ w.heap.size + 3; omega) _⟩
          case measure => simp [intOf]; omega
        · obtain rfl : k = 16 := by omega
          have hn := hid (hI.out.next HA.out.1 HB.out.1 hlt)
          go_wp2
          go_roundw
          case rel => exact ⟨i + 1, t, by omega, by go_num, hn, hA, hB, hC, hT, hb⟩
          case measure => simp [intOf]; omega
    · obtain rfl : i = 16 := by omega
      have hval := hid (hI.out.stop HA.out.1)
      have htl := hI.out.len
      have htx := hid (show t = timT a b 256 from hI.out.ex)
      have htb := hid (fun j => (show -281474976710656 ≤ ni t j ∧ ni t j ≤ 281474976710656 by have := hI.out.bd j; omega))
      clear hI hA hB hlt hi
      go_wp2_with (refine wpList_alloc_new rfl 68 rfl (cellsI z) zZ.out ?_; simp only [Act.put, pvA, pv0, pv1, World.size_alloc])
      have hC2 := hid (hC.out.alloc (.cells (cellsI z) 68))
      have hT2 := hid (hT.out.alloc (.cells (cellsI z) 68))
      have hO2 := hid (ArrI.new 68 wr z)
      have hb2 := hb.alloc hb.size (.cells (cellsI z) 68)
      have hG4 : w.heap.size + 4 ≤ wr.heap.size := by have := hT.out.lt; omega
      obtain ⟨G, hG⟩ : ∃ G, G = wr.heap.size := ⟨_, rfl⟩
      rw [← hG] at hO2 hG4 ⊢
      generalize wr.alloc (.cells (cellsI z) 68) = w2 at hC2 hT2 hO2 hb2 ⊢
      clear hG hC hT hb
      go_loopw [9] (fun iv wr => ∃ (i : Nat) (o : List Int), i ≤ 16 ∧ iv = .int .i64 (i : Int) ∧ Hid (FolI t i o) ∧ Hid (ArrI 68 wr (w.heap.size + 2) z) ∧ Hid (ArrI 116 wr (w.heap.size + 3) t) ∧ Hid (ArrI 68 wr G o) ∧ Below w.heap.size w wr)
        (fun iv _ => 16 - (intOf iv).toNat)
      case atStart => exact ⟨0, z, by omega, rfl, hid (hF0.out t), hC2, hT2, hO2, hb2⟩
      case round =>
        clear hC2 hT2 hO2 hb2 hF0
        obtain ⟨i, o, hi, rfl, hI, hC, hT, hO, hb⟩ := hrel
        by_cases hlt : i < 16
        · have c1 := hT.out.cell i (by omega)
          have l1 := hT.out.lt
          have c2 := hO.out.cell i (by rw [hI.out.len]; exact hlt)
          have f2 := hO.out.free i
          have l2 := hO.out.lt
          have b1 := htb.out i
          have hol := hI.out.len
          by_cases h15 : i < 15
          · have hst := hid (hI.out.step htl h15 htb.out)
            have b2 := htb.out (i + 16)
            obtain ⟨x, hx⟩ : ∃ x, x = ni t i := ⟨_, rfl⟩
            obtain ⟨u, hu⟩ : ∃ u, u = ni t (i + 16) := ⟨_, rfl⟩
            rw [← hx] at c1 b1 hst
            rw [← hu] at b2 hst
            have h15i : (i : Int) < 15 := by omega
            clear hx h15
            go_wp2_with fail
            have hC3 := hid (hC.out.other (show w.heap.size + 2 ≠ (⟨G, i, none⟩ : Addr).block by show w.heap.size + 2 ≠ G; omega) (.int .i64 x))
            have hT3 := hid (hT.out.other (show w.heap.size + 3 ≠ (⟨G, i, none⟩ : Addr).block by show w.heap.size + 3 ≠ G; omega) (.int .i64 x))
            have hO3 := hid (hO.out.set i x)
            have hb3 : Below w.heap.size w (wr.setCell ⟨G, i, none⟩ (.int .i64 x)) := hb.setCell (p := ⟨G, i, none⟩) (by show w.heap.size ≤ G; omega) _
            generalize wr.setCell ⟨G, i, none⟩ (.int .i64 x) = w3 at hC3 hT3 hO3 hb3 ⊢
            clear hC hT hO hb c1 c2 f2 l1 l2
            have c3 := hT3.out.cell (i + 16) (by omega)
            rw [← hu] at c3
            have l3 := hT3.out.lt
            have c4 := hO3.out.cell i (by simp [hol]; omega)
            rw [ni_set _ _ _ _ (by omega), if_pos rfl] at c4
            have f4 := hO3.out.free i
            have l4 := hO3.out.lt
            have hw1 : IntKind.i64.wrap (38 * u) = 38 * u := by rw [IntKind.wrap_i64]; omega
            have hw3 : IntKind.i64.wrap (x + 38 * u) = x + 38 * u := by rw [IntKind.wrap_i64]; omega
            clear hu
            (refine wp_region_ext_tail 11 (by kernel_rfl) (by kernel_rfl) ?_; simp only [List.take_succ_cons, List.take_zero, List.drop_succ_cons, List.drop_zero]; (repeat (go_big_quiet_step (first | fail))); refine wpQuiet_nil ?_; rintro _ ⟨xw, rfl⟩)
            go_wp2
            go_roundw
            case rel =>
              refine ⟨i + 1, _, by omega, by go_num, hst, hid ((hC3.out.ext xw).other (by show w.heap.size + 2 ≠ G; omega) _), hid ((hT3.out.ext xw).other (by show w.heap.size + 3 ≠ G; omega) _), hid ?_, (World.ext_below_of hb3 hb3.size xw).setCell (p := ⟨G, i, none⟩) (by show w.heap.size ≤ G; omega) _⟩
              have := (hO3.out.ext xw).set i (x + 38 * u)
              rw [List.set_set] at this
              exact this
            case measure => simp [intOf]; omega
          · obtain rfl : i = 15 := by omega
            have hst := hid (hI.out.last htl htb.out)
            go_wp2
            go_roundw
            case rel =>
              exact ⟨16, _, by omega, rfl, hst, hid (hC.out.other (by show w.heap.size + 2 ≠ G; omega) _), hid (hT.out.other (by show w.heap.size + 3 ≠ G; omega) _), hid (hO.out.set 15 _), hb.setCell (p := ⟨G, 15, none⟩) (by show w.heap.size ≤ G; omega) _⟩
            case measure => simp [intOf]
        · obtain rfl : i = 16 := by omega
          obtain ⟨hm, hgd⟩ := hI.out.stop htl
          have hox := hid (show carL (carV (val o)) = timL a b by unfold timL; rw [← htx.out, ← hI.out.ex])
          have iO := hid (iGFx o hgd.1)
          have hbd := val_bd o 10995116277760000 (by omega) hgd.2
          rw [hgd.1] at hbd
          have hdv := carV_div (val o) (by omega) (by omega)
          have h1 := hid (fun w => carry_any o w hgd.1 (fun j => by have := hgd.2 j; omega))
          have g1 := carL_gd (val o) 21990232555520000 (by omega) (by omega) (by omega)
          have h2 := hid (fun w => carry_any (carL (val o)) w (carL_len _) (fun j => by have := g1.2 j; omega))
          rw [carL_val] at h2
          have g2 := carL_gd3 (carV (val o)) hdv.1 hdv.2.1
          have HG := hid g2
          have HV := hid (show val (carL (carV (val o))) % pI = val a * val b % pI by rw [carL_val, carV_mod, carV_mod, hm, hval.out])
          obtain ⟨o1, ho1⟩ : ∃ o1, o1 = carL (val o) := ⟨_, rfl⟩
          rw [← ho1] at h1 h2
          obtain ⟨o2, ho2⟩ : ∃ o2, o2 = carL (carV (val o)) := ⟨_, rfl⟩
          rw [← ho2] at h2 HG HV hox
          have i2 := hid (iGFx o2 HG.out.1)
          have z2 := hid (show (cellsI z).size = (cellsI o2).size by rw [size_cellsI, size_cellsI, hzl, HG.out.1])
          have n2 := hid (one_cellsI o2)
          clear hm hgd hbd hdv g1 g2 ho1 ho2 hI hT hlt hi htl htb hval
          go_wp2_with (refine wpList_load_row rfl 68 (.tmp 8) rfl G rfl 68 _ (0, 0) _ hO.out uGF rfl iO.out ?_; simp only [Act.put, pvA, pv0, pv1])
          refine (h1.out _).mono ?_
          rintro e w3 ⟨rfl, hb3⟩
          have hC3 := hid (hC.out.below hb3 hC.out.lt)
          have hb4 := hb.trans (hb3.mono hb.size)
          clear hC hb hb3 hO
          go_wp2_with fail
          refine (h2.out _).mono ?_
          rintro e w4 ⟨rfl, hb5⟩
          have hC4 := hid (hC3.out.below hb5 hC3.out.lt)
          have hb6 := hb4.trans (hb5.mono hb4.size)
          clear hC3 hb4 hb5
          go_wp2_with (refine wpList_store_row rfl 68 (.tmp 4) (.tmp 59) rfl (w.heap.size + 2) _ rfl rfl 68 _ hC4.out i2.out z2.out n2.out ?_; simp only [Act.put])
          refine bodyPost_ret (results_cell_row rfl _ _ (w.heap.size + 2) 68 (cellsI o2) (0, 0) _ rfl (heap_setRow' _ _ _ _ _ hC4.out) uGF rfl i2.out) rfl ⟨o2, rfl, HG.out, HV.out, hox.out, below_setRow' hb6 _ (by omega) _⟩
theorem timL_any (a b : List Int) (w : World) (ha : Gd 1048576 a) (hb : Gd 1048576 b) :
    Calls Tryz.prog 36 #[.agg (cellsI a), .agg (cellsI b)] w fun e w' => e = .returned (.agg (cellsI (timL a b))) ∧ Below w.heap.size w w' :=
  (times16_ex a b w ha hb).mono fun e w' ⟨o, h1, _, _, h4, h5⟩ => ⟨by rw [h1, h4], h5⟩
theorem timL_law (w : World) (a b : List Int) (ha : Gd 1048576 a) (hb : Gd 1048576 b) : Gd 65600 (timL a b) ∧ val (timL a b) % pI = val a * val b % pI := by
  obtain ⟨e, w', fr, ⟨o, _, h2, h3, h4, _⟩, _⟩ := times16_ex a b w ha hb []
  rw [← h4]; exact ⟨h2, h3⟩
end Go.Proofs.YtejnnghfelpioaaGreat
namespace Go.Proofs.YtejnnghfelpioaaGreat
open Go.RowKit
theorem lmN_add16 (x d i j : Nat) (hx : x < 65536 ^ i) (hd : d < 65536) (hj : j < 4) : lmN (x + 65536 ^ i * d) j = (if j = i / 4 then lmN x j + d * 2 ^ (16 * (i % 4)) else lmN x j) ∧ (j = i / 4 → lmN x j < 2 ^ (16 * (i % 4))) := by
  have e65536 : (65536 : Nat) ^ i = 2 ^ (64 * (i / 4)) * 2 ^ (16 * (i % 4)) := by
    rw [show (65536 : Nat) = 2 ^ 16 from rfl, ← Nat.pow_mul, ← Nat.pow_add]; congr 1; omega
  unfold lmN
  by_cases h : j = i / 4
  · subst h
    rw [if_pos rfl]
    have hp : 0 < 2 ^ (64 * (i / 4)) := Nat.pow_pos (by omega)
    have h1 : x / 2 ^ (64 * (i / 4)) < 2 ^ (16 * (i % 4)) := by rw [Nat.div_lt_iff_lt_mul hp, Nat.mul_comm, ← e65536]; exact hx
    have h2 : 2 ^ (16 * (i % 4)) * 65536 ≤ 2 ^ 64 := by
      rw [show (65536 : Nat) = 2 ^ 16 from rfl, ← Nat.pow_add]; exact Nat.pow_le_pow_right (by omega) (by omega)
    have h3 : 2 ^ (16 * (i % 4)) * d ≤ 2 ^ (16 * (i % 4)) * 65535 := Nat.mul_le_mul_left _ (by omega)
    have m1 : (x / 2 ^ (64 * (i / 4)) + 2 ^ (16 * (i % 4)) * d) % 2 ^ 64 = x / 2 ^ (64 * (i / 4)) + 2 ^ (16 * (i % 4)) * d := Nat.mod_eq_of_lt (by omega)
    have m2 : x / 2 ^ (64 * (i / 4)) % 2 ^ 64 = x / 2 ^ (64 * (i / 4)) := Nat.mod_eq_of_lt (by omega)
    rw [e65536, Nat.mul_assoc, Nat.add_mul_div_left _ _ hp, m1, m2, Nat.mul_comm d]
    exact ⟨rfl, fun _ => h1⟩
  · rw [if_neg h]
    refine ⟨?_, fun e => absurd e h⟩
    rcases Nat.lt_or_ge j (i / 4) with hlt | hge
    · have e2 : (65536 : Nat) ^ i * d = 2 ^ (64 * j) * (2 ^ 64 * (2 ^ (16 * i - 64 * j - 64) * d)) := by
        rw [show (65536 : Nat) = 2 ^ 16 from rfl, ← Nat.pow_mul, ← Nat.mul_assoc, ← Nat.mul_assoc, ← Nat.pow_add, ← Nat.pow_add]; congr 2; omega
      rw [e2, Nat.add_mul_div_left _ _ (Nat.pow_pos (by omega)), Nat.add_mul_mod_self_left]
    · have h4 : 65536 ^ (i + 1) ≤ 2 ^ (64 * j) := by
        rw [show (65536 : Nat) = 2 ^ 16 from rfl, ← Nat.pow_mul]; exact Nat.pow_le_pow_right (by omega) (by omega)
      have h5 : 65536 ^ i * d ≤ 65536 ^ i * 65535 := Nat.mul_le_mul_left _ (by omega)
      rw [Nat.pow_succ] at h4
      rw [Nat.div_eq_of_lt (by omega), Nat.div_eq_of_lt (by omega)]
theorem lmN_half (x i : Nat) (hi : i < 16) : lmN x (i / 4) / 2 ^ (16 * (i % 4)) % 65536 = x / 65536 ^ i % 65536 := by
  have e65536 : (65536 : Nat) ^ i = 2 ^ (64 * (i / 4)) * 2 ^ (16 * (i % 4)) := by
    rw [show (65536 : Nat) = 2 ^ 16 from rfl, ← Nat.pow_mul, ← Nat.pow_add]; congr 1; omega
  rw [e65536, ← Nat.div_div_eq_div_mul]
  unfold lmN
  generalize x / 2 ^ (64 * (i / 4)) = y
  have hc : i % 4 = 0 ∨ i % 4 = 1 ∨ i % 4 = 2 ∨ i % 4 = 3 := by omega
  rcases hc with h | h | h | h <;> rw [h] <;> omega
theorem cellsW_add16 (x d i : Nat) (hx : x < 65536 ^ i) (hd : d < 65536) (hi : i < 16) : (cellsW x).setIfInBounds (i / 4) (.int .u64 ((lmN x (i / 4) ||| d * 2 ^ (16 * (i % 4)) : Nat) : Int)) = cellsW (x + 65536 ^ i * d) := by
  have hj : i / 4 < 4 := by omega
  have h := fun j hj => lmN_add16 x d i j hx hd hj
  rw [or_add _ _ _ ((h _ hj).2 rfl)]
  have hc : i / 4 = 0 ∨ i / 4 = 1 ∨ i / 4 = 2 ∨ i / 4 = 3 := by omega
  have h0 := (h 0 (by omega)).1
  have h1 := (h 1 (by omega)).1
  have h2 := (h 2 (by omega)).1
  have h3 := (h 3 (by omega)).1
  unfold cellsW lm
  rw [h0, h1, h2, h3]
  rcases hc with e | e | e | e <;> simp [e]
theorem dgI_nat (x i : Nat) : dgI (x : Int) i = ((x / 65536 ^ i % 65536 : Nat) : Int) := by
  unfold dgI
  rw [Int.natCast_emod, Int.natCast_ediv, Int.natCast_pow]; rfl
theorem lm_half (x i : Nat) (hi : i < 16) : bits .and .u64 (lm x (i / 4) / 2 ^ (16 * (i % 4))) 65535 = dgI (x : Int) i := by
  rw [dgI_nat, ← lmN_half x i hi]
  unfold lm
  rw [show ((lmN x (i / 4) : Nat) : Int) / 2 ^ (16 * (i % 4)) = ((lmN x (i / 4) / 2 ^ (16 * (i % 4)) : Nat) : Int) by rw [Int.natCast_ediv, Int.natCast_pow]; rfl]
  rw [show (65535 : Int) = ((65535 : Nat) : Int) from rfl, u64_and_nat _ _ (Nat.lt_of_le_of_lt (Nat.div_le_self _ _) (lmN_lt _ _)) (by decide), show (65535 : Nat) = 2 ^ 16 - 1 from rfl, Nat.and_two_pow_sub_one_eq_mod]
set_option maxHeartbeats 2000000 in
theorem digits_any (x : Nat) (w : World) (hx : x < 2 ^ 256) : Calls Tryz.prog 37 #[wd x] w fun e w' => e = .returned (.agg (cellsI (dgL (x : Int)))) ∧ Below w.heap.size w w' := by
  clear hx
  obtain ⟨z, hz⟩ : ∃ z : List Int, z = List.replicate 16 0 := ⟨_, rfl⟩
  have zZ := hid zGF
  have hzl : z.length = 16 := by rw [hz]; simp
  rw [← hz] at zZ
  clear hz
  unfold wd
  obtain ⟨W0, hW0⟩ : ∃ W0, W0 = ((w.alloc (.cells (cellsW x) 24)).alloc (.cells (cellsI z) 68)).alloc (.cells (cellsI z) 68) := ⟨_, rfl⟩
  have hA0 := hid (show ArrW 24 W0 w.heap.size x by rw [hW0]; exact ((ArrW.new _ w x).alloc _).alloc _)
  have hR0 := hid (show ArrI 68 W0 (w.heap.size + 1) z by
    have := ArrI.new 68 (w.alloc (.cells (cellsW x) 24)) z
    rw [World.size_alloc] at this; rw [hW0]; exact this.alloc _)
  have hO0 := hid (show ArrI 68 W0 (w.heap.size + 2) z by
    have := ArrI.new 68 ((w.alloc (.cells (cellsW x) 24)).alloc (.cells (cellsI z) 68)) z
    rw [World.size_alloc, World.size_alloc] at this; rw [hW0]; exact this)
  have hb0 : Below w.heap.size w W0 := by rw [hW0]; exact (((Below.refl _ _).alloc (Nat.le_refl _) _).alloc (by simp) _).alloc (by simp; omega) _
  go_enter Tryz.func37, Tryz.ntmps37
  go_wp2_with (refine wpList_alloc_new rfl 68 rfl (cellsI z) zZ.out ?_; simp only [Act.put, pvA, pv0, pv1, World.size_alloc])
  rw [← hW0]
  clear hW0
  go_loopw [4] (fun iv wr => ∃ (i : Nat) (s : List Int), i ≤ 16 ∧ iv = .int .i64 (i : Int) ∧ Hid (s.length = 16 ∧ ∀ j, j < i → ni s j = dgI (x : Int) j) ∧ Hid (ArrW 24 wr w.heap.size x) ∧ Hid (ArrI 68 wr (w.heap.size + 1) z) ∧ Hid (ArrI 68 wr (w.heap.size + 2) s) ∧ Below w.heap.size w wr)
    (fun iv _ => 16 - (intOf iv).toNat)
  case atStart => exact ⟨0, z, by omega, rfl, hid ⟨hzl, fun j hj => by omega⟩, hA0, hR0, hO0, hb0⟩
  case round =>
    clear hA0 hR0 hO0 hb0
    obtain ⟨i, s, hi, rfl, hS, hA, hR, hO, hb⟩ := hrel
    by_cases hlt : i < 16
    · have c1 := hA.out.cell (i / 4) (by omega)
      have l1 := hA.out.lt
      have n1 := lm_nonneg x (i / 4)
      have n2 := lm_lt x (i / 4)
      have c2 := hO.out.cell i (by rw [hS.out.1]; exact hlt)
      have f2 := hO.out.free i
      have l2 := hO.out.lt
      have hV := lm_half x i hlt
      have hd := dgI_bd (x : Int) i
      have hsh : (16 * ((i : Int) % 4)).toNat = 16 * (i % 4) := by omega
      have hnew := hid (show (s.set i (dgI (x : Int) i)).length = 16 ∧ ∀ j, j < i + 1 → ni (s.set i (dgI (x : Int) i)) j = dgI (x : Int) j from ⟨by simp [hS.out.1], fun j hj => by
        rw [ni_set _ _ _ _ (by rw [hS.out.1]; exact hlt)]
        by_cases e : i = j
        · rw [if_pos e, e]
        · rw [if_neg e]; exact hS.out.2 j (by omega)⟩)
      obtain ⟨d, hd2⟩ : ∃ d, d = dgI (x : Int) i := ⟨_, rfl⟩
      rw [← hd2] at hV hd hnew
      clear hd2 hS
      go_wp2
      go_roundw
      case rel =>
        exact ⟨i + 1, _, by omega, by go_num, hnew, hid (hA.out.other (by show w.heap.size ≠ w.heap.size + 2; omega) _), hid (hR.out.other (by show w.heap.size + 1 ≠ w.heap.size + 2; omega) _), hid (hO.out.set i _), hb.setCell (p := ⟨w.heap.size + 2, i, none⟩) (by show w.heap.size ≤ w.heap.size + 2; omega) _⟩
      case measure => simp [intOf]; omega
    · obtain rfl : i = 16 := by omega
      have hs : s = dgL (x : Int) := ni_ext (by rw [hS.out.1, dgL_len]) fun j hj => by
        rw [hS.out.1] at hj
        rw [hS.out.2 j hj, dgL_ni _ _ hj]
      have HS := hid hs
      have hsl := hS.out.1
      have iS := hid (iGFx s hsl)
      have zS := hid (show (cellsI z).size = (cellsI s).size by rw [size_cellsI, size_cellsI, hzl, hsl])
      have nS := hid (one_cellsI s)
      clear hs hS hlt hi hA
      go_wp2_with (first | (refine wpList_load_row rfl 68 (.tmp 3) rfl (w.heap.size + 2) rfl 68 _ (0, 0) _ hO.out uGF rfl iS.out ?_; simp only [Act.put, pvA, pv0, pv1]) | (refine wpList_store_row rfl 68 (.tmp 2) (.tmp 22) rfl (w.heap.size + 1) _ rfl rfl 68 _ hR.out iS.out zS.out nS.out ?_; simp only [Act.put]))
      refine bodyPost_ret (results_cell_row rfl _ _ (w.heap.size + 1) 68 (cellsI s) (0, 0) _ rfl (heap_setRow' _ _ _ _ _ hR.out) uGF rfl iS.out) rfl ⟨by rw [HS.out], below_setRow' hb _ (by omega) _⟩
end Go.Proofs.YtejnnghfelpioaaGreat
namespace Go.Proofs.YtejnnghfelpioaaGreat
open Go.RowKit
theorem T16n : (65536 : Int) ^ 16 = ((65536 ^ 16 : Nat) : Int) := by decide +kernel
def lessV (V : Int) : Nat → Int
  | 0 => V
  | k + 1 => if pI ≤ lessV V k then lessV V k - pI else lessV V k
theorem lessV_bd (V : Int) (h0 : 0 ≤ V) (hT : V < 65536 ^ 16) (k : Nat) : 0 ≤ lessV V k ∧ lessV V k < 65536 ^ 16 := by
  induction k with
  | zero => exact ⟨h0, hT⟩
  | succ k ih =>
    rw [lessV]
    have hp : 0 < pI := by decide +kernel
    split <;> omega
theorem lessV_two (V : Int) (h0 : 0 ≤ V) (hT : V < 65536 ^ 16) : lessV V 2 = V % pI := by
  have h2 := pI_two
  have hp : 38 < pI := by decide +kernel
  have e1 : lessV V 1 = if pI ≤ V then V - pI else V := rfl
  have e2 : lessV V 2 = if pI ≤ lessV V 1 then lessV V 1 - pI else lessV V 1 := rfl
  rw [e2, e1]
  by_cases h1 : pI ≤ V
  · rw [if_pos h1]
    by_cases h3 : pI ≤ V - pI
    · rw [if_pos h3, show V = (V - pI - pI) + pI * 2 by omega, Int.add_mul_emod_self_left, Int.emod_eq_of_lt (by omega) (by omega)]; omega
    · rw [if_neg h3, show V = (V - pI) + pI * 1 by omega, Int.add_mul_emod_self_left, Int.emod_eq_of_lt (by omega) (by omega)]; omega
  · rw [if_neg h1, if_neg h1, Int.emod_eq_of_lt h0 (by omega)]
set_option maxHeartbeats 8000000 in
set_option maxRecDepth 100000 in
theorem small16_any (a : List Int) (w : World) (ha : Gd 1048576 a) : Calls Tryz.prog 44 #[.agg (cellsI a)] w fun e w' => e = .returned (wd (val a % pI).toNat) ∧ Below w.heap.size w w' := by
  have iA := hid (iGFx a ha.1)
  have hbd := val_bd a 1048576 (by omega) ha.2
  rw [ha.1] at hbd
  have hr2 := carV_range (val a) 1048576 (by omega) (by omega) (by omega) (by omega)
  have hdv := carV_div (val a) (by have := T16; omega) (by have := T16; omega)
  have h1 := hid (fun w => carry_any a w ha.1 (fun j => by have := ha.2 j; omega))
  have g1 := carL_gd (val a) 21990232555520000 (by omega) (by omega) (by omega)
  have h2 := hid (fun w => carry_any (carL (val a)) w (carL_len _) (fun j => by have := g1.2 j; omega))
  rw [carL_val] at h2
  have g2 := carL_gd2 (carV (val a)) hdv.1 hdv.2.1
  have h3 := hid (fun w => carry_any (carL (carV (val a))) w (carL_len _) (fun j => by have := g2.2 j; omega))
  rw [carL_val, carL_small _ hr2.1 hr2.2] at h3
  have hVm : carV (carV (val a)) % pI = val a % pI := by rw [carV_mod, carV_mod]
  have hlast := lessV_two _ hr2.1 hr2.2
  rw [hVm] at hlast
  have hLB := hid (fun k => lessV_bd _ hr2.1 hr2.2 k)
  obtain ⟨V, hV⟩ : ∃ V, V = carV (carV (val a)) := ⟨_, rfl⟩
  obtain ⟨o1, ho1⟩ : ∃ o, o = carL (val a) := ⟨_, rfl⟩
  obtain ⟨o2, ho2⟩ : ∃ o, o = carL (carV (val a)) := ⟨_, rfl⟩
  rw [← hV] at h3 hlast hLB
  rw [← ho1] at h1 h2
  rw [← ho2] at h2 h3
  obtain ⟨R, hR⟩ : ∃ R, R = val a % pI := ⟨_, rfl⟩
  rw [← hR] at hlast ⊢
  have HL := hid hlast
  have z1 := hid (show (cellsI a).size = (cellsI (dgL V)).size by rw [size_cellsI, size_cellsI, ha.1, dgL_len])
  have iV := hid (fun X => iGFx (dgL X) (dgL_len X))
  have nV := hid (fun X => one_cellsI (dgL X))
  have sV := hid (fun X Y => show (cellsI (dgL X)).size = (cellsI (dgL Y)).size by rw [size_cellsI, size_cellsI, dgL_len, dgL_len])
  have zs := hid (fun X => show (cellsI (List.replicate 16 0)).size = (cellsI (dgL X)).size by rw [size_cellsI, size_cellsI, dgL_len]; rfl)
  clear ha hbd hr2 hdv g1 g2 hVm hlast hV ho1 ho2 hR
  unfold wd
  have hA0 := hid (show ArrI 68 ((w.alloc (.cells (cellsI a) 68)).alloc (.cells (cellsW 0) 24)) w.heap.size a from (ArrI.new _ w a).alloc _)
  have hC0 := hid (show ArrW 24 ((w.alloc (.cells (cellsI a) 68)).alloc (.cells (cellsW 0) 24)) (w.heap.size + 1) 0 by
    have := ArrW.new 24 (w.alloc (.cells (cellsI a) 68)) 0
    rw [World.size_alloc] at this; exact this)
  have hb0 : Below w.heap.size w ((w.alloc (.cells (cellsI a) 68)).alloc (.cells (cellsW 0) 24)) := ((Below.refl _ _).alloc (Nat.le_refl _) _).alloc (by simp) _
  go_enter Tryz.func44, Tryz.ntmps44
  go_wp2_with (first | (refine wpList_alloc_new rfl 24 rfl (cellsW 0) zWd ?_; simp only [Act.put, pvA, pv0, pv1, World.size_alloc]) | (refine wpList_load_row rfl 68 (.tmp 1) rfl w.heap.size rfl 68 _ (0, 0) _ hA0.out uGF rfl iA.out ?_; simp only [Act.put, pvA, pv0, pv1]))
  generalize (w.alloc (.cells (cellsI a) 68)).alloc (.cells (cellsW 0) 24) = w1 at hA0 hC0 hb0 ⊢
  refine (h1.out _).mono ?_
  rintro e w2 ⟨rfl, hb2⟩
  have hA2 := hid (hA0.out.below hb2 hA0.out.lt)
  have hC2 := hid (hC0.out.below hb2 hC0.out.lt)
  have hb3 := hb0.trans (hb2.mono hb0.size)
  clear hA0 hC0 hb0 hb2 h1
  go_wp2_with fail
  refine (h2.out _).mono ?_
  rintro e w3 ⟨rfl, hb4⟩
  have hA3 := hid (hA2.out.below hb4 hA2.out.lt)
  have hC3 := hid (hC2.out.below hb4 hC2.out.lt)
  have hb5 := hb3.trans (hb4.mono hb3.size)
  clear hA2 hC2 hb3 hb4 h2
  go_wp2_with fail
  refine (h3.out _).mono ?_
  rintro e w4 ⟨rfl, hb6⟩
  have hA4 := hid (hA3.out.below hb6 hA3.out.lt)
  have hC4 := hid ((hC3.out.below hb6 hC3.out.lt).otherRow (show w.heap.size + 1 ≠ w.heap.size by omega) (cellsI (dgL V)))
  have hb7 := below_setRow' (hb5.trans (hb6.mono hb5.size)) w.heap.size (Nat.le_refl _) (cellsI (dgL V))
  have hA5 := hid (hA4.out.row (dgL V))
  clear hA3 hC3 hb5 hb6 h3
  go_wp2_with (refine wpList_store_row rfl 68 (.tmp 1) (.tmp 12) rfl w.heap.size _ rfl rfl 68 _ hA4.out (iV.out V) z1.out (nV.out V) ?_; simp only [Act.put])
  generalize w4.setRow w.heap.size (cellsI (dgL V)) = w5 at hA5 hC4 hb7 ⊢
  clear hA4 z1
  go_loopw [3] (fun kv wr => ∃ k : Nat, k ≤ 2 ∧ kv = .int .i64 (k : Int) ∧ Hid (ArrI 68 wr w.heap.size (dgL (lessV V k))) ∧ Hid (ArrW 24 wr (w.heap.size + 1) 0) ∧ Below w.heap.size w wr)
    (fun kv _ => 2 - (intOf kv).toNat)
  case atStart => exact ⟨0, by omega, rfl, hA5, hC4, hb7⟩
  case round =>
    clear hA5 hC4 hb7
    obtain ⟨k, hk, rfl, hA, hC, hb⟩ := hrel
    obtain ⟨X, hX⟩ : ∃ X, X = lessV V k := ⟨_, rfl⟩
    have hXb := hLB.out k
    rw [← hX] at hA hXb
    have HX := hid hX
    clear hX
    have hXB := hid hXb
    clear hXb
    by_cases hlt : k < 2
    · have hst := hid (SubI.start X)
      have hM1 := ArrI.new 68 wr (dgL X)
      have c0 := hM1.cell 0 (by rw [dgL_len]; omega)
      rw [dgL_ni _ _ (by omega)] at c0
      have f0 := hM1.free 0
      have l0 := hM1.lt
      have d0 := dgI_bd X 0
      obtain ⟨x0, hx0⟩ : ∃ x0, x0 = dgI X 0 := ⟨_, rfl⟩
      rw [← hx0] at c0 d0 hst
      obtain ⟨l0', hl0⟩ : ∃ l, l = (dgL X).set 0 (x0 - 65517) := ⟨_, rfl⟩
      have eW : wr.alloc (.cells ((cellsI (dgL X)).setIfInBounds 0 (.int .i64 (x0 - 65517))) 68) = wr.alloc (.cells (cellsI l0') 68) := by rw [cellsI_set, hl0]
      rw [← hl0] at hst
      have EW := hid eW
      have hM2 := hid (ArrI.new 68 wr l0')
      have hA2 := hid (hA.out.alloc (.cells (cellsI l0') 68))
      have hC2 := hid (hC.out.alloc (.cells (cellsI l0') 68))
      have hb2 := hb.alloc hb.size (.cells (cellsI l0') 68)
      clear eW hl0
      have hG2 : w.heap.size + 2 ≤ wr.heap.size := by have := hC.out.lt; omega
      obtain ⟨G, hG⟩ : ∃ G, G = wr.heap.size := ⟨_, rfl⟩
      clear hx0 hM1
      go_wp2_with (first | (refine wpList_load_row rfl 68 (.tmp 1) rfl w.heap.size rfl 68 _ (0, 0) _ hA.out uGF rfl (iV.out X) ?_; simp only [Act.put, pvA, pv0, pv1]) | (refine wpList_allocStore 68 17 4 (cellsI (dgL X)) (cellsI (List.replicate 16 0)) rfl rfl rfl rfl rfl rfl (by decide) (by simp) rfl (by kernel_rfl) (zs.out X) (iV.out X) (nV.out X) ?_; simp only [Act.put, pvA, pv0, pv1]))
      rw [EW.out]
      rw [← hG] at hM2 hG2 ⊢
      generalize wr.alloc (.cells (cellsI l0') 68) = w6 at hM2 hA2 hC2 hb2 ⊢
      clear c0 f0 l0 d0 hA hC hb hG EW
      go_loopw [5] (fun iv wr => ∃ (i : Nat) (m : List Int), i ≤ 14 ∧ iv = .int .i64 ((i : Int) + 1) ∧ Hid (SubI X (i + 1) m) ∧ Hid (ArrI 68 wr w.heap.size (dgL X)) ∧ Hid (ArrW 24 wr (w.heap.size + 1) 0) ∧ Hid (ArrI 68 wr G m) ∧ Below w.heap.size w wr)
        (fun iv _ => 16 - (intOf iv).toNat)
      case atStart => exact ⟨0, _, by omega, rfl, hst, hA2, hC2, hM2, hb2⟩
      case round =>
        clear hst hA2 hC2 hM2 hb2
        obtain ⟨i, m, hi, rfl, hS, hA, hC, hM, hb⟩ := hrel
        have hml := hS.out.len
        have hraw := hS.out.raw
        rw [Nat.add_sub_cancel] at hraw
        have cr := hM.out.cell i (by omega)
        have fr := hM.out.free i
        have lr := hM.out.lt
        have cn := hM.out.cell (i + 1) (by omega)
        have fn := hM.out.free (i + 1)
        have hrest := hS.out.rest (i + 1) (Nat.le_refl _) (by omega)
        have hdn := dgI_bd X (i + 1)
        rw [← hrest] at hdn
        have hst := hid (hS.out.step (by omega) (by omega))
        rw [Nat.add_sub_cancel] at hst
        obtain ⟨r, hr⟩ : ∃ r, r = ni m i := ⟨_, rfl⟩
        obtain ⟨x, hx⟩ : ∃ x, x = ni m (i + 1) := ⟨_, rfl⟩
        rw [← hr] at hraw cr hst
        rw [← hx] at cn hdn hst
        have HRr := hid hr
        clear hrest hS hr hx
        obtain ⟨bq, hbq⟩ : ∃ bq, bq = r / 65536 % 2 := ⟨_, rfl⟩
        rw [← hbq] at hst
        have hb01 : 0 ≤ bq ∧ bq ≤ 1 := by omega
        have hand : bits .and .i64 (r / 65536) 1 = bq := by rw [i64_and1, hbq]
        have hand2 : bits .and .i64 r 65535 = r % 65536 := i64_and65535 r
        obtain ⟨rm, hrm⟩ : ∃ rm, rm = r % 65536 := ⟨_, rfl⟩
        rw [← hrm] at hst hand2
        have hrm2 : 0 ≤ rm ∧ rm ≤ 65535 := by omega
        by_cases hlt14 : i < 14
        · have hpd : pD (i + 1) = 65535 := by unfold pD; rw [if_neg (by omega), if_pos (by omega)]
          rw [hpd] at hst
          have hw1 : IntKind.i64.wrap (x - 65535) = x - 65535 := by rw [IntKind.wrap_i64]; omega
          have hw2 : IntKind.i64.wrap (x - 65535 - bq) = x - 65535 - bq := by rw [IntKind.wrap_i64]; omega
          have hw4 : IntKind.i64.wrap ((i : Int) + 1 - 1) = (i : Int) := by rw [IntKind.wrap_i64]; omega
          have h14i : (i : Int) + 1 < 15 := by omega
          clear hbq hrm hpd
          go_wp2_with fail
          (refine wp_region_ext_tail 13 (by kernel_rfl) (by kernel_rfl) ?_; simp only [List.take_succ_cons, List.take_zero, List.drop_succ_cons, List.drop_zero]; (repeat (go_big_quiet_step (first | fail))); refine wpQuiet_nil ?_; rintro _ ⟨xw, rfl⟩)
          have hA3 := hid ((hA.out.ext xw).other (show w.heap.size ≠ (⟨G, i + 1, none⟩ : Addr).block by show w.heap.size ≠ G; omega) (.int .i64 (x - 65535 - bq)))
          have hC3 := hid ((hC.out.ext xw).other (show w.heap.size + 1 ≠ (⟨G, i + 1, none⟩ : Addr).block by show w.heap.size + 1 ≠ G; omega) (.int .i64 (x - 65535 - bq)))
          have hM3 := hid ((hM.out.ext xw).set (i + 1) (x - 65535 - bq))
          have hb3 : Below w.heap.size w ((wr.ext xw).setCell ⟨G, i + 1, none⟩ (.int .i64 (x - 65535 - bq))) := (World.ext_below_of hb hb.size xw).setCell (p := ⟨G, i + 1, none⟩) (by show w.heap.size ≤ G; omega) _
          have cr3 := hM3.out.cell i (by simp [hml]; omega)
          rw [ni_set _ _ _ _ (by omega), if_neg (by omega)] at cr3
          have fr3 := hM3.out.free i
          have lr3 := hM3.out.lt
          rw [← HRr.out] at cr3
          generalize hw7 : (wr.ext xw).setCell ⟨G, i + 1, none⟩ (.int .i64 (x - 65535 - bq)) = w7 at hA3 hC3 hM3 hb3 cr3 fr3 lr3
          clear hA hC hM hb cr fr
          have hA4 := hid (hA3.out.other (show w.heap.size ≠ (⟨G, i, none⟩ : Addr).block by show w.heap.size ≠ G; omega) (.int .i64 rm))
          have hC4 := hid (hC3.out.other (show w.heap.size + 1 ≠ (⟨G, i, none⟩ : Addr).block by show w.heap.size + 1 ≠ G; omega) (.int .i64 rm))
          have hM4 := hid (hM3.out.set i rm)
          have hb4 : Below w.heap.size w (w7.setCell ⟨G, i, none⟩ (.int .i64 rm)) := hb3.setCell (p := ⟨G, i, none⟩) (by show w.heap.size ≤ G; omega) _
          go_wp2_with fail
          go_roundw
          case rel => exact ⟨i + 1, _, by omega, by go_num, hst, hA4, hC4, hM4, hb4⟩
          case measure => simp [intOf]; omega
        · obtain rfl : i = 14 := by omega
          have hpd : pD (14 + 1) = 32767 := by decide
          rw [hpd] at hst
          have cn' : wr.cell? ⟨G, 15, none⟩ = some (.int .i64 x) := cn
          have fn' : wr.frozen? ⟨G, 15, none⟩ = false := fn
          obtain ⟨y, hy⟩ : ∃ y, y = x - 32767 - bq := ⟨_, rfl⟩
          have hst' : Hid (SubI X 16 ((m.set 15 y).set 14 rm)) := hid (by rw [hy]; exact hst.out)
          have hyb : -32768 ≤ y ∧ y ≤ 32768 := by omega
          have hyw : x - 32767 - bq = y := hy.symm
          have hn15 : ni ((m.set 15 y).set 14 rm) 15 = y := by rw [ni_set _ _ _ _ (by simp; omega), if_neg (by omega), ni_set _ _ _ _ (by omega), if_pos rfl]
          have hXb := hXB.out
          have hstop := hst'.out.stop hXb.1 hXb.2
          rw [hn15] at hstop
          have hM3 := hid (hM.out.set 15 y)
          have cr3 := hM3.out.cell 14 (by simp [hml])
          rw [ni_set _ _ _ _ (by omega), if_neg (by omega), ← HRr.out] at cr3
          have cy3 := hM3.out.cell 15 (by simp [hml])
          rw [ni_set _ _ _ _ (by omega), if_pos rfl] at cy3
          have fr3 := hM3.out.free 14
          have lr3 := hM3.out.lt
          have hA3 := hid (hA.out.other (show w.heap.size ≠ (⟨G, 15, none⟩ : Addr).block by show w.heap.size ≠ G; omega) (.int .i64 y))
          have hC3 := hid (hC.out.other (show w.heap.size + 1 ≠ (⟨G, 15, none⟩ : Addr).block by show w.heap.size + 1 ≠ G; omega) (.int .i64 y))
          have hb3 : Below w.heap.size w (wr.setCell ⟨G, 15, none⟩ (.int .i64 y)) := hb.setCell (p := ⟨G, 15, none⟩) (by show w.heap.size ≤ G; omega) _
          have hA4 := hid (hA3.out.other (show w.heap.size ≠ (⟨G, 14, none⟩ : Addr).block by show w.heap.size ≠ G; omega) (.int .i64 rm))
          have hC4 := hid (hC3.out.other (show w.heap.size + 1 ≠ (⟨G, 14, none⟩ : Addr).block by show w.heap.size + 1 ≠ G; omega) (.int .i64 rm))
          have hM4 := hid (hM3.out.set 14 rm)
          have hb4 : Below w.heap.size w ((wr.setCell ⟨G, 15, none⟩ (.int .i64 y)).setCell ⟨G, 14, none⟩ (.int .i64 rm)) := hb3.setCell (p := ⟨G, 14, none⟩) (by show w.heap.size ≤ G; omega) _
          obtain ⟨mm, hmm⟩ : ∃ mm, mm = (m.set 15 y).set 14 rm := ⟨_, rfl⟩
          rw [← hmm] at hM4 hstop hst'
          clear cn fn hst hst' hpd hy hbq hrm hn15 hmm hXb
          by_cases hy0 : 0 ≤ y
          · have hand3 : bits .and .i64 (y / 65536) 1 = 0 := by rw [i64_and1]; omega
            obtain ⟨g1, g2⟩ := hstop.2.1 hy0
            have HS := hid (show X - pI = lessV V (k + 1) by rw [lessV, ← HX.out, if_pos g1])
            have hM5 := hid (show ArrI 68 ((wr.setCell ⟨G, 15, none⟩ (.int .i64 y)).setCell ⟨G, 14, none⟩ (.int .i64 rm)) G (dgL (X - pI)) by rw [← g2]; exact hM4.out)
            obtain ⟨Y, hY⟩ : ∃ Y, Y = X - pI := ⟨_, rfl⟩
            rw [← hY] at HS hM5
            have hA5 := hid (hA4.out.row (dgL Y))
            have hC5 := hid (hC4.out.otherRow (show w.heap.size + 1 ≠ w.heap.size by omega) (cellsI (dgL Y)))
            have hb5 := below_setRow' hb4 w.heap.size (Nat.le_refl _) (cellsI (dgL Y))
            clear hstop g1 g2 hY hM4
            go_wp2_with (first | (refine wpList_load_row rfl 68 (.tmp 4) rfl G rfl 68 _ (0, 0) _ hM5.out uGF rfl (iV.out Y) ?_; simp only [Act.put, pvA, pv0, pv1]) | (refine wpList_store_row rfl 68 (.tmp 1) (.tmp 66) rfl w.heap.size _ rfl rfl 68 _ hA4.out (iV.out Y) (sV.out X Y) (nV.out Y) ?_; simp only [Act.put]))
            go_roundw
            case rel => exact ⟨k + 1, by omega, by go_num, by rw [← HS.out]; exact hA5, hC5, hb5⟩
            case measure => simp [intOf]; omega
          · have hand3 : bits .and .i64 (y / 65536) 1 = 1 := by rw [i64_and1]; omega
            have HS := hid (show X = lessV V (k + 1) by rw [lessV, ← HX.out, if_neg (by have := hstop.2.2 (by omega); omega)])
            clear hstop hy0 hM4
            go_wp2
            go_roundw
            case rel => exact ⟨k + 1, by omega, by go_num, by rw [← HS.out]; exact hA4, hC4, hb4⟩
            case measure => simp [intOf]; omega
    · obtain rfl : k = 2 := by omega
      have hXR := HX.out.trans HL.out
      have hXb := hXB.out
      subst hXR
      obtain ⟨v, hv⟩ : ∃ v : Nat, X = (v : Int) := ⟨X.toNat, by omega⟩
      subst hv
      have hvl : v < 65536 ^ 16 := by have h := hXb.2; rw [T16n] at h; exact Int.ofNat_lt.1 h
      have HV := hid hvl
      clear hlt hk hXb hXB HX HL hvl
      go_wp2_with (refine wpList_alloc_new rfl 24 rfl (cellsW 0) zWd ?_; simp only [Act.put, pvA, pv0, pv1, World.size_alloc])
      have hA2 := hid (hA.out.alloc (.cells (cellsW 0) 24))
      have hC2 := hid (hC.out.alloc (.cells (cellsW 0) 24))
      have hW2 := hid (ArrW.new 24 wr 0)
      have hb2 := hb.alloc hb.size (.cells (cellsW 0) 24)
      have hG2 : w.heap.size + 2 ≤ wr.heap.size := by have := hC.out.lt; omega
      obtain ⟨G, hG⟩ : ∃ G, G = wr.heap.size := ⟨_, rfl⟩
      rw [← hG] at hW2 hG2 ⊢
      generalize wr.alloc (.cells (cellsW 0) 24) = w6 at hA2 hC2 hW2 hb2 ⊢
      clear hA hC hb hG
      go_loopw [8] (fun iv wr => ∃ i : Nat, i ≤ 16 ∧ iv = .int .i64 (i : Int) ∧ Hid (ArrI 68 wr w.heap.size (dgL (v : Int))) ∧ Hid (ArrW 24 wr (w.heap.size + 1) 0) ∧ Hid (ArrW 24 wr G (v % 65536 ^ i)) ∧ Below w.heap.size w wr)
        (fun iv _ => 16 - (intOf iv).toNat)
      case atStart => exact ⟨0, by omega, rfl, hA2, hC2, by rw [Nat.pow_zero, Nat.mod_one]; exact hW2, hb2⟩
      case round =>
        clear hA2 hC2 hW2 hb2
        obtain ⟨i, hi, rfl, hA, hC, hW, hb⟩ := hrel
        by_cases hlt : i < 16
        · have c1 := hA.out.cell i (by rw [dgL_len]; exact hlt)
          rw [dgL_ni _ _ hlt, dgI_nat] at c1
          have l1 := hA.out.lt
          obtain ⟨X, hX⟩ : ∃ X, X = v % 65536 ^ i := ⟨_, rfl⟩
          have hXl : X < 65536 ^ i := by rw [hX]; exact Nat.mod_lt _ (Nat.pow_pos (by omega))
          rw [← hX] at hW
          have c2 := hW.out.cell (i / 4) (by omega)
          have f2 := hW.out.free (i / 4)
          have l2 := hW.out.lt
          have hdl : v / 65536 ^ i % 65536 < 65536 := Nat.mod_lt _ (by omega)
          have hnx := hid (show v % 65536 ^ (i + 1) = X + 65536 ^ i * (v / 65536 ^ i % 65536) by rw [hX, Nat.pow_succ, Nat.mod_mul])
          obtain ⟨d, hd⟩ : ∃ d, d = v / 65536 ^ i % 65536 := ⟨_, rfl⟩
          rw [← hd] at c1 hdl hnx
          have hq := cellsW_add16 X d i hXl hdl hlt
          have hsh : (16 * ((i : Int) % 4)).toNat = 16 * (i % 4) := by omega
          have hle : d * 2 ^ (16 * (i % 4)) < 18446744073709551616 := by
            have h1 : 2 ^ (16 * (i % 4)) ≤ 2 ^ 48 := Nat.pow_le_pow_right (by omega) (by omega)
            have h2 : d * 2 ^ (16 * (i % 4)) ≤ 65535 * 2 ^ 48 := Nat.mul_le_mul (by omega) h1
            omega
          have hand : bits .and .i64 (d : Int) 65535 = (d : Int) := by rw [i64_and65535]; omega
          have hv2 : bits .or .u64 (lm X (i / 4)) (IntKind.u64.wrap ((d : Int) * 2 ^ (16 * (i % 4)))) = ((lmN X (i / 4) ||| d * 2 ^ (16 * (i % 4)) : Nat) : Int) := by
            rw [show (d : Int) * 2 ^ (16 * (i % 4)) = ((d * 2 ^ (16 * (i % 4)) : Nat) : Int) by rw [Int.natCast_mul, Int.natCast_pow]; rfl]
            rw [show IntKind.u64.wrap ((d * 2 ^ (16 * (i % 4)) : Nat) : Int) = ((d * 2 ^ (16 * (i % 4)) : Nat) : Int) by rw [IntKind.wrap_u64]; omega]
            exact u64_or_nat _ _ (lmN_lt _ _) hle
          have HV2 := hid hv2
          have HQ := hid hq
          clear hq hv2 hle hXl hX hd
          go_wp2_with fail
          (refine wp_region_ext_tail 18 (by kernel_rfl) (by kernel_rfl) ?_; simp only [List.take_succ_cons, List.take_zero, List.drop_succ_cons, List.drop_zero]; (repeat (go_big_quiet_step (first | fail))); refine wpQuiet_nil ?_; rintro _ ⟨xw, rfl⟩)
          go_wp2
          go_roundw
          case rel =>
            rw [HV2.out]
            refine ⟨i + 1, by omega, by go_num, hid ((hA.out.ext xw).other (by show w.heap.size ≠ G; omega) _), hid ((hC.out.ext xw).other (by show w.heap.size + 1 ≠ G; omega) _), hid ?_, (World.ext_below_of hb hb.size xw).setCell (p := ⟨G, i / 4, none⟩) (by show w.heap.size ≤ G; omega) _⟩
            rw [hnx.out]
            exact (hW.out.ext xw).set _ _ HQ.out
          case measure => simp [intOf]; omega
        · obtain rfl : i = 16 := by omega
          rw [Nat.mod_eq_of_lt HV.out] at hW
          have i2 := hid (iW v)
          have n2 := hid (one_cellsW v)
          clear hA hlt hi
          go_wp2_with (first | (refine wpList_load_row rfl 24 (.tmp 7) rfl G rfl 24 _ (0, 0) _ hW.out uWd rfl i2.out ?_; simp only [Act.put, pvA, pv0, pv1]) | (refine wpList_store_row rfl 24 (.tmp 2) (.tmp 89) rfl (w.heap.size + 1) _ rfl rfl 24 _ hC.out i2.out rfl n2.out ?_; simp only [Act.put]))
          refine bodyPost_ret (results_cell_row rfl _ _ (w.heap.size + 1) 24 (cellsW v) (0, 0) _ rfl (heap_setRow' _ _ _ _ _ hC.out) uWd rfl i2.out) rfl ⟨by rw [Int.toNat_natCast], below_setRow' hb _ (by omega) _⟩
end Go.Proofs.YtejnnghfelpioaaGreat
namespace Go
open Go.RowKit
theorem wp_alloc_fresh {P : Program} {o : Oper} {a : Act} {w : World} {K : Act → World → Prop} {Q : Exit → Act → World → Prop} {T : TypeId} (ho : o.op = .alloc T) (zs : Array Value) (hz : (P.info? T).bind (·.zero) = some (.agg zs))
    (h : o.wp P a w K Q) : K (a.put o.dst (.pointer (some ⟨w.heap.size, 0, none⟩))) (w.alloc (.cells zs T)) := by
  cases hq : P.info? T with
  | none => simp [hq] at hz
  | some i =>
    have hz' : i.zero = some (.agg zs) := by simpa [hq] using hz
    unfold Oper.wp execOp at h
    simp only [ho, Instr.alloc, zeroValue, typeInfo, hq, hz', newVar, newRow, Sem.run_bind, Result.andThen_ok, Value.cells] at h
    simp [hq, hz', Sem.run, Oper.upon] at h
    exact h
def newB (P : Program) (o : Oper) : Bool := match o.op with
  | .alloc T => match (P.info? T).bind (·.zero) with
    | some (.agg _) => o.dst.isSome
    | _ => false
  | _ => false
theorem newB_spec {P : Program} {o : Oper} (h : newB P o = true) : ∃ T zs, o.op = .alloc T ∧ (P.info? T).bind (·.zero) = some (.agg zs) := by
  unfold newB at h
  split at h
  · rename_i T hT
    split at h
    · rename_i zs hz; exact ⟨T, zs, hT, hz⟩
    · cases h
  · cases h
section
variable {P : Program} {l : List Oper} {Φ : Nat → Value → World → Prop} {w0 : World} {a0 : Act}
structure Apart (P : Program) (l : List Oper) (n : Nat) (listed : Array Bool) (a : Act) (w : World) : Prop where
  old : ∀ (i : Nat) (o : Oper) (d : Nat), i < n → l[i]? = some o → newB P o = true → listed.getD i false = true → o.dst = some d → d < a.tmps.size → ∃ g, a.tmps.getD d undef = .pointer (some ⟨g, 0, none⟩) ∧ g < w.heap.size
  two : ∀ (i j : Nat) (oi oj : Oper) (di dj : Nat), i < n → j < n → i ≠ j → l[i]? = some oi → l[j]? = some oj → newB P oi = true → newB P oj = true → listed.getD i false = true → listed.getD j false = true →
    oi.dst = some di → oj.dst = some dj → di < a.tmps.size → dj < a.tmps.size → a.tmps.getD di undef ≠ a.tmps.getD dj undef
theorem putd_at {a : Act} {v : Value} {d : Nat} (h : d < a.tmps.size) : (a.put (some d) v).tmps.getD d undef = v := by
  rw [Array.getD_eq_getD_getElem?, Act.putd_get_eq, if_pos h]; rfl
theorem putd_ne {a : Act} {o : Option Tmp} {v : Value} {d : Nat} (h : o ≠ some d) : (a.put o v).tmps.getD d undef = a.tmps.getD d undef := by
  rw [Array.getD_eq_getD_getElem?, Array.getD_eq_getD_getElem?, Act.putd_get_ne _ _ _ _ h]
theorem Apart.step {n i : Nat} {o : Oper} {listed : Array Bool} {a : Act} {w w' : World} {v : Value} (h : Apart P l n listed a w) (hnd : (l.filterMap (·.dst)).Nodup) (ho : l[i]? = some o) (hb : Below w.heap.size w w')
    (hv : newB P o = true → v = .pointer (some ⟨w.heap.size, 0, none⟩) ∧ w.heap.size < w'.heap.size) : Apart P l n (listed.setIfInBounds i true) (a.put o.dst v) w' := by
  have key : ∀ (j : Nat) (oj : Oper) (d : Nat), l[j]? = some oj → oj.dst = some d → j ≠ i → o.dst ≠ some d := fun j oj d hj hd hne e => hne (filterMap_nodup_inj l hnd j i oj o d hj ho hd e)
  refine ⟨fun j oj d hjn hj hnew hl hd hs => ?_, fun j k oj ok dj dk hjn hkn hjk hj hk hnj hnk hlj hlk hdj hdk hsj hsk => ?_⟩
  · rw [Act.putd_size] at hs
    by_cases hji : j = i
    · subst hji
      rw [ho] at hj; cases hj
      obtain ⟨h1, h2⟩ := hv hnew
      exact ⟨w.heap.size, by rw [hd, putd_at hs, h1], h2⟩
    · rw [getD_set_ne false (Ne.symm hji)] at hl
      obtain ⟨g, h1, h2⟩ := h.old j oj d hjn hj hnew hl hd hs
      exact ⟨g, by rw [putd_ne (key j oj d hj hd hji), h1], Nat.lt_of_lt_of_le h2 hb.size⟩
  · rw [Act.putd_size] at hsj hsk
    by_cases hji : j = i
    · subst hji
      rw [ho] at hj; cases hj
      have hki : k ≠ j := Ne.symm hjk
      rw [getD_set_ne false (Ne.symm hki)] at hlk
      obtain ⟨g, h1, h2⟩ := h.old k ok dk hkn hk hnk hlk hdk hsk
      rw [putd_ne (key k ok dk hk hdk hki), h1, hdj, putd_at hsj, (hv hnj).1]
      intro e
      injection e with e; injection e with e; injection e with e
      omega
    · by_cases hki : k = i
      · subst hki
        rw [ho] at hk; cases hk
        rw [getD_set_ne false (Ne.symm hji)] at hlj
        obtain ⟨g, h1, h2⟩ := h.old j oj dj hjn hj hnj hlj hdj hsj
        rw [putd_ne (key j oj dj hj hdj hji), h1, hdk, putd_at hsk, (hv hnk).1]
        intro e
        injection e with e; injection e with e; injection e with e
        omega
      · rw [getD_set_ne false (Ne.symm hji)] at hlj
        rw [getD_set_ne false (Ne.symm hki)] at hlk
        rw [putd_ne (key j oj dj hj hdj hji), putd_ne (key k ok dk hk hdk hki)]
        exact h.two j k oj ok dj dk hjn hkn hjk hj hk hnj hnk hlj hlk hdj hdk hsj hsk
theorem Oper.wp_and {o : Oper} {a : Act} {w : World} {K : Act → World → Prop} {Q : Exit → Act → World → Prop} (h : o.wp P a w K Q) : o.wp P a w (fun a' w' => K a' w' ∧ (newB P o = true → a' = a.put o.dst (.pointer (some ⟨w.heap.size, 0, none⟩)) ∧ w.heap.size < w'.heap.size)) Q := by
  by_cases hn : newB P o = true
  · obtain ⟨T, zs, ho, hz⟩ := newB_spec hn
    refine wp_alloc_new T ho zs hz ⟨wp_alloc_fresh ho zs hz h, fun _ => ⟨rfl, by rw [World.size_alloc]; omega⟩⟩
  · exact Oper.wp_mono (fun a' w' h => ⟨h, fun e => absurd e hn⟩) h
theorem wpAny_of_specP {n : Nat} {Q : Exit → Act → World → Prop} (hB : specTailB l n = true)
    (stable : ∀ i v w w', Φ i v w → Below w.heap.size w w' → Φ i v w')
    (each : ∀ (i : Nat) (o : Oper), i < n → l[i]? = some o → ∀ a w, Leans l Φ w0 a0 o a w → (newB P o = true → o.guard = none) ∧
      if Region.wanted o (yielded l.toArray a.tmps) then o.wp P a w (fun a' w' => ∃ v, a' = a.put o.dst v ∧ Below w.heap.size w w' ∧ Φ i v w') Q else Φ i undef w)
    (fin : ∀ (f : Nat → Value) (w : World), Below w0.heap.size w0 w → (∀ (i : Nat) (o : Oper) (d : Nat), i < n → l[i]? = some o → o.dst = some d → d < a0.tmps.size → Φ i (f i) w) →
      Apart P l n (Array.replicate n true) (putAll (l.take n) f 0 a0) w → wpList P l.toArray Q (l.drop n) (putAll (l.take n) f 0 a0) w) :
    ∀ (fuel : Nat) (listed : Array Bool) (a : Act) (w : World), unheaded n listed = fuel → HeadInv .any l.toArray n listed → RInv l Φ w0 a0 listed a w → Apart P l n listed a w → wpAny P .any l.toArray Q (fuel + (l.length - n)) listed a w := by
  simp only [specTailB, Bool.and_eq_true, decide_eq_true_eq] at hB
  obtain ⟨⟨⟨⟨hB, hnl⟩, hsink⟩, hchain⟩, hseq⟩ := hB
  have hnd : (l.filterMap (·.dst)).Nodup := by
    simp only [specB, Bool.and_eq_true] at hB
    exact of_decide_eq_true hB.2
  have close : ∀ (listed : Array Bool) (a : Act) (w : World), HeadInv .any l.toArray n listed → RInv l Φ w0 a0 listed a w → Apart P l n listed a w → (∀ i, i < n → listed.getD i true = true) → wpAny P .any l.toArray Q (l.length - n) listed a w := by
    intro listed a w inv h hA hall
    have hform : listed = Array.replicate n true ++ Array.replicate (l.length - n) false := listed_form h.size (by omega) hall (fun i h1 h2 => inv.tail i h1 (by simpa using h2))
    have e : putAll (l.take n) (fun i => match (l[i]?).bind (·.dst) with | some d => a.tmps.getD d undef | none => undef) 0 a0 = a := by
      refine putAll_eq a (l.take n) _ 0 a0 h.defers.symm h.tsize.symm (fun d hn => ?_) (fun i o d hi ho => ?_)
      · refine (h.same d (fun i o hi ho => ?_)).symm
        by_cases hin : i < n
        · exact absurd ho (hn o (List.mem_of_getElem? (i := i) (by rw [List.getElem?_take, if_pos hin]; exact hi)))
        · exact inv.tail i (by omega) (by
            rcases Nat.lt_or_ge i l.length with h' | h'
            · simpa using h'
            · rw [List.getElem?_eq_none h'] at hi; cases hi)
      · rw [List.getElem?_take] at hi
        split at hi
        · rw [Nat.zero_add, hi]; simp [ho]
        · cases hi
    have hdl : (l.drop n).length = l.length - n := by simp
    have hlt : ∀ i, i < n → listed.getD i false = true := fun i hi => by
      have hl := hall i hi
      have hs := h.size
      simp [Array.getD, show i < listed.size by omega] at hl ⊢; exact hl
    have := wpAny_of_seq (md := .any) (ops := l.toArray) (Q' := Q) (P := P) (l.drop n) n listed a w (fun j => by simp [List.getElem?_drop]) (by rw [hdl, hform]; exact hseq) (by
      rw [← e]
      refine fin _ w h.below (fun i o d hin hi ho hds => ?_) ?_
      · have := h.made i o d hi (hlt i hin) ho hds
        simp only [hi, Option.bind_some, ho]
        exact this
      · rw [e]
        exact ⟨fun i o d hin hi hnew _ hd hs => hA.old i o d hin hi hnew (hlt i hin) hd hs,
          fun i j oi oj di dj hin hjn hij hi hj hni hnj _ _ hdi hdj hsi hsj => hA.two i j oi oj di dj hin hjn hij hi hj hni hnj (hlt i hin) (hlt j hjn) hdi hdj hsi hsj⟩)
    rwa [hdl] at this
  intro fuel
  induction fuel with
  | zero =>
    intro listed a w hu inv h hA
    rw [Nat.zero_add]
    refine close listed a w inv h hA (fun i hi => ?_)
    have hs := h.size
    have hlt : i < listed.size := by omega
    by_cases hb : listed[i] = true
    · simp [Array.getD, hlt, hb]
    · exfalso
      have : 0 < (listed.toList.take n).count false := List.count_pos_iff.2 (by
        have hf : listed[i] = false := by simpa using hb
        have hlt' : i < (listed.toList.take n).length := by simp; omega
        have : (listed.toList.take n)[i] = false := by simpa using hf
        rw [← this]; exact List.getElem_mem _)
      unfold unheaded at hu
      omega
  | succ fuel ih =>
    intro listed a w hu inv h hA
    rw [show fuel + 1 + (l.length - n) = (fuel + (l.length - n)) + 1 by omega]
    have hsome : ∃ i, i < n ∧ listed.getD i true = false := by
      have : 0 < (listed.toList.take n).count false := by unfold unheaded at hu; omega
      obtain ⟨i, hi, he⟩ := List.getElem_of_mem (List.count_pos_iff.1 this)
      have hi' := hi
      simp at hi'
      exact ⟨i, by omega, by simp at he; simp [Array.getD, show i < listed.size by omega, he]⟩
    obtain ⟨i0, hi0, hun0⟩ := hsome
    refine ⟨fun hn => ?_, fun i hi => ?_⟩
    · have := all_listed_of_ready_nil hB h.size hn i0 (by omega)
      rw [this] at hun0; cases hun0
    have hin : i < n := by
      rcases Nat.lt_or_ge i n with h' | h'
      · exact h'
      · exact absurd hi (tail_waits hsink hchain (by simpa using hnl) inv _ i0 rfl hi0 hun0 i h')
    have hi' := hi
    rw [mem_ready] at hi
    obtain ⟨hun, o, ho, hafter⟩ := hi
    have ho' : l[i]? = some o := by simpa using ho
    have hl : i < l.length := by omega
    have lean : Leans l Φ w0 a0 o a w := ⟨h.below, fun d hn => h.same d (fun i o hi ho => absurd ho (hn o (List.mem_of_getElem? hi))),
      fun e he hb o' d hi' hd hds => h.made e.on o' d hi' (hafter e he hb) hd hds, h.tsize⟩
    have step : ∀ v w', Below w.heap.size w w' → Φ i v w' → RInv l Φ w0 a0 (listed.setIfInBounds i true) (a.put o.dst v) w' := fun v w' hb hv => by
      refine ⟨by rw [Array.size_setIfInBounds]; exact h.size, h.below.trans (hb.mono h.below.size), by rw [Act.putd_defers]; exact h.defers, by rw [Act.putd_size]; exact h.tsize, fun d hd => ?_, fun j oj d hj hlj hdj hds => ?_⟩
      · by_cases hod : o.dst = some d
        · have := hd i o ho' hod
          simp [Array.getD, show i < listed.size by have := h.size; omega] at this
        · rw [Act.putd_get_ne _ _ _ _ hod]
          refine h.same d (fun j oj hj hdj => ?_)
          have h1 := hd j oj hj hdj
          have hne : j ≠ i := fun e => by subst e; rw [ho'] at hj; cases hj; exact hod hdj
          rw [getD_set_ne true (Ne.symm hne)] at h1
          exact h1
      · by_cases hji : j = i
        · subst hji
          rw [ho'] at hj; cases hj
          have hlt : d < a.tmps.size := by have := h.tsize; omega
          have : (a.put o.dst v).tmps.getD d undef = v := by rw [hdj]; exact putd_at hlt
          rw [this]; exact hv
        · have hne : o.dst ≠ some d := fun e => hji (filterMap_nodup_inj l hnd j i oj o d hj ho' hdj e)
          have h1 := h.made j oj d hj (by rw [getD_set_ne false (Ne.symm hji)] at hlj; exact hlj) hdj hds
          rw [putd_ne hne]
          exact stable _ _ _ _ h1 hb
    have hu' : unheaded n (listed.setIfInBounds i true) = fuel := by have := unheaded_set hun hin; omega
    have inv' := inv.set hi' hin
    obtain ⟨hg, he⟩ := each i o hin ho' a w lean
    unfold wpOp
    simp only [ho]
    split
    · rename_i hw
      rw [if_pos hw] at he
      refine .inl (Oper.wp_mono (fun a' w' hx => ?_) (Oper.wp_and he))
      obtain ⟨⟨v, ha', hb, hv⟩, hnew⟩ := hx
      subst ha'
      by_cases hn : newB P o = true
      · obtain ⟨h1, h2⟩ := hnew hn
        have hs := step v w' hb hv
        rw [h1] at hs ⊢
        exact ih _ _ _ hu' inv' hs (hA.step hnd ho' hb fun _ => ⟨rfl, h2⟩)
      · exact ih _ _ _ hu' inv' (step v w' hb hv) (hA.step hnd ho' hb fun e => absurd e hn)
    · rename_i hw
      rw [if_neg hw] at he
      refine ih _ _ _ hu' inv' (step undef w (Below.refl _ _) he) (hA.step hnd ho' (Below.refl _ _) fun e => ?_)
      exact absurd (by simp [Region.wanted, hg e]) hw
theorem wp_region_spec_apart {id : Nat} {Q : Exit → Act → World → Prop} (n : Nat) (hm : P.follows .mixedOrders = true) (Φ : Nat → Value → World → Prop) (hB : specTailB l n = true)
    (stable : ∀ i v w w', Φ i v w → Below w.heap.size w w' → Φ i v w')
    (each : ∀ (i : Nat) (o : Oper), i < n → l[i]? = some o → ∀ a w, Leans l Φ w0 a0 o a w → (newB P o = true → o.guard = none) ∧
      if Region.wanted o (yielded l.toArray a.tmps) then o.wp P a w (fun a' w' => ∃ v, a' = a.put o.dst v ∧ Below w.heap.size w w' ∧ Φ i v w') Q else Φ i undef w)
    (fin : ∀ (f : Nat → Value) (w : World), Below w0.heap.size w0 w → (∀ (i : Nat) (o : Oper) (d : Nat), i < n → l[i]? = some o → o.dst = some d → d < a0.tmps.size → Φ i (f i) w) →
      Apart P l n (Array.replicate n true) (putAll (l.take n) f 0 a0) w → wpList P l.toArray Q (l.drop n) (putAll (l.take n) f 0 a0) w) :
    (Code.region id l.toArray true).wp P Q a0 w0 := by
  have hnl : n < l.length := by
    simp only [specTailB, Bool.and_eq_true, decide_eq_true_eq] at hB
    exact hB.1.1.1.2
  refine wp_region_any hm ?_
  have := wpAny_of_specP (w0 := w0) (a0 := a0) (P := P) (Q := Q) hB stable each fin _ (Array.replicate l.toArray.size false) a0 w0.drew rfl
    ⟨by simp, fun j oj _ hl => (by rw [getD_replicate_false] at hl; cases hl), fun t _ ht => getD_in (by simpa using ht) (getD_replicate_false _ _)⟩
    ⟨by simp, (Below.refl _ _).drew, rfl, rfl, fun d _ => rfl, fun i o d hi hl _ _ => (by rw [getD_replicate_false] at hl; cases hl)⟩
    ⟨fun i o d _ _ _ hl _ _ => (by rw [getD_replicate_false] at hl; cases hl), fun i j oi oj di dj _ _ _ _ _ _ _ hl _ _ _ _ _ => (by rw [getD_replicate_false] at hl; cases hl)⟩
  have hu : unheaded n (Array.replicate l.toArray.size false) = n := by
    unfold unheaded
    simp
    omega
  rw [hu, show n + (l.length - n) = l.toArray.size by simp; omega] at this
  exact this
def ApartEnd (P : Program) (l : List Oper) (n : Nat) (a : Act) : Prop :=
  ∀ (i j : Nat) (oi oj : Oper) (di dj : Nat), i < n → j < n → i ≠ j → l[i]? = some oi → l[j]? = some oj → newB P oi = true → newB P oj = true → oi.dst = some di → oj.dst = some dj → di < a.tmps.size → dj < a.tmps.size → a.tmps.getD di undef ≠ a.tmps.getD dj undef
theorem wp_region_loose_apart {es : List Ent} {id : Nat} {Q : Exit → Act → World → Prop} (n : Nat) (hm : P.follows .mixedOrders = true) (hB : looseB l n = true) (hS : specTailB l n = true) (hk : keepsAll es)
    (hnew : ((l.take n).all fun o => !newB P o || o.guard.isNone) = true)
    (h : looseL P l es w0 n (fun a w => ApartEnd P l n a → wpList P l.toArray Q (l.drop n) a w) 0 (l.take n) a0) : (Code.region id l.toArray true).wp P Q a0 w0 := by
  have hS2 := hS
  simp only [specTailB, Bool.and_eq_true, decide_eq_true_eq] at hS2
  have hn : n ≤ l.length := Nat.le_of_lt hS2.1.1.1.2
  refine wp_region_spec_apart n hm (phiOf es) hS (phiOf_keeps es hk) (fun i o hi ho a w hl => ⟨fun hb => ?_, loose_each hB hS2.1.1.1.1 hn h i o hi ho a w hl⟩) (fun f w hb hf hA => loose_fin hS2.1.1.1.1 hn h f w hb hf ?_)
  · have hm2 : o ∈ l.take n := List.mem_of_getElem? (i := i) (by rw [List.getElem?_take, if_pos hi]; exact ho)
    have := List.all_eq_true.1 hnew o hm2
    rw [hb] at this
    simpa using this
  · intro i j oi oj di dj hi hj hij h1 h2 h3 h4 h5 h6 h7 h8
    exact hA.two i j oi oj di dj hi hj hij h1 h2 h3 h4 (by simp [hi]) (by simp [hj]) h5 h6 h7 h8
end
end Go
