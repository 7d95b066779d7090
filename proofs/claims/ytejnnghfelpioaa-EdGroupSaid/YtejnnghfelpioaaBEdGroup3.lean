import Derived.Test.YtejnnghfelpioaaBEdGroup2
set_option maxRecDepth 4000
set_option linter.unusedVariables false
set_option linter.unusedSimpArgs false
namespace Go.Proofs.Ytejnnghfelpioaa
open Go.RowKit
theorem infoU : (Try.prog.info? 23).map (fun i => (i.zero, i.size, i.bytes)) = some (some (.int .u64 0), 1, 8) := by kernel_rfl
theorem uUs : Try.prog.underlying 99 = some (.slice 23) := by kernel_rfl
theorem mkM (N : Nat) (hN : N ≤ 1048576) (w : World) : (Instr.makeSlice 99 (.int .i64 (N : Int)) (.int .i64 (N : Int))).run Try.prog w = .ok (.slice (some ⟨w.heap.size, 0, none⟩) N N) (w.alloc (.cells (cellsM N 0) 23)) := by
  obtain ⟨i0, hi0, hz0, hz1, hz2⟩ := info_parts infoU
  have h := run_make (P := Try.prog) w 99 23 i0 (.int .u64 0) uUs hi0 hz0 .i64 .i64 (N : Int) (N : Int) (by omega) (Int.le_refl _) (by rw [hz2]; omega) (by omega)
  rw [h, Int.toNat_natCast, hz1, Nat.mul_one]
  congr 3
  apply Array.ext
  · simp [madeCells, cellsM]
  · intro j h1 h2
    simp [madeCells, Value.cells, Nat.mod_one, cellsM, lmN]
theorem div1_step (U d j : Nat) (hd : 0 < d) :
    (U / 2 ^ (64 * (j + 1)) % d * 2 ^ 64 + lmN U j) / d < 2 ^ 64 ∧ (U / 2 ^ (64 * (j + 1)) % d * 2 ^ 64 + lmN U j) % d = U / 2 ^ (64 * j) % d ∧
    setL (U / 2 ^ (64 * (j + 1)) / d * 2 ^ (64 * (j + 1))) j ((U / 2 ^ (64 * (j + 1)) % d * 2 ^ 64 + lmN U j) / d) = U / 2 ^ (64 * j) / d * 2 ^ (64 * j) := by
  have hs := div_succ U j
  have hl := lmN_lt U j
  rw [hs]
  generalize U / 2 ^ (64 * (j + 1)) = A
  generalize lmN U j = u at hl ⊢
  have hdm := Nat.div_add_mod A d
  have hml := Nat.mod_lt A hd
  generalize A / d = q at hdm ⊢
  generalize A % d = r at hdm hml ⊢
  have hB : (2 : Nat) ^ 64 = 18446744073709551616 := by decide
  have e : A * 2 ^ 64 + u = r * 2 ^ 64 + u + d * (q * 2 ^ 64) := by
    rw [← hdm, Nat.add_mul, Nat.mul_assoc]; omega
  have hq : (r * 2 ^ 64 + u) / d < 2 ^ 64 := by
    rw [Nat.div_lt_iff_lt_mul hd]
    have : (r + 1) * 2 ^ 64 ≤ d * 2 ^ 64 := Nat.mul_le_mul_right _ hml
    rw [Nat.mul_comm (2 ^ 64)]
    omega
  refine ⟨hq, by rw [e, Nat.add_mul_mod_self_left], ?_⟩
  rw [e, Nat.add_mul_div_left _ _ hd]
  have h1 := setL_eq (q * 2 ^ (64 * (j + 1))) j ((r * 2 ^ 64 + u) / d)
  have h0 : lmN (q * 2 ^ (64 * (j + 1))) j = 0 := by
    unfold lmN
    rw [pow64_succ, ← Nat.mul_assoc, Nat.mul_right_comm, Nat.mul_div_cancel _ (Nat.pow_pos (by omega)), Nat.mul_mod_left]
  rw [h0, Nat.mul_zero, Nat.add_zero] at h1
  rw [h1, pow64_succ, Nat.add_mul, Nat.mul_comm ((r * 2 ^ 64 + u) / d), Nat.mul_assoc q, Nat.mul_comm (2 ^ 64) (2 ^ (64 * j))]
  omega
set_option maxRecDepth 100000 in
set_option maxHeartbeats 4000000 in
theorem divide1_any (n U d : Nat) (v : Value) (w : World) (hr : RdM w v n U) (hU : U < 2 ^ (64 * n)) (hn : n ≤ 9) (hd : 0 < d) (hd2 : d < 2 ^ 64) :
    Calls Try.prog 63 #[v, wd d] w fun e w' => ∃ gq, e = .returned (.tuple #[.slice (some ⟨gq, 0, none⟩) n n, wd (U % d)]) ∧ ArrM 23 n w' gq (U / d) ∧ w.heap.size ≤ gq ∧ Below w.heap.size w w' := by
  have hd256 : d < 2 ^ 256 := Nat.lt_of_lt_of_le hd2 (by decide)
  have hW := hid (fun v w hr => width_any 4 d v w hr hd256 (by omega))
  have hb1 := (bl_spec d (by omega)).1
  have hb2 := bl_le d 64 hd2
  have hO := hid (fun w => wof_any (U % d) (Nat.lt_trans (Nat.mod_lt _ hd) hd2) w)
  have hmk := mkM n (by omega)
  have hl0 : lm d 0 = (d : Int) := by unfold lm; rw [lmN_zero', Nat.mod_eq_of_lt hd2]
  have H0 := hid (show U / 2 ^ (64 * n) = 0 from Nat.div_eq_of_lt hU)
  obtain ⟨a, cap, rfl, hc, hr⟩ := hr
  have HR := hid hr
  obtain ⟨bd, hbd⟩ : ∃ b, b = bl d := ⟨_, rfl⟩
  rw [← hbd] at hW hb1 hb2
  have HD := hid hd
  clear hr hbd hU
  unfold wd at *
  have hA0 := hid (show ArrW 25 (((w.alloc (.cells (cellsW d) 25)).alloc (.cells (cellsW 0) 25)).alloc (.cells (cellsM n 0) 23)) w.heap.size d from ((ArrW.new _ w d).alloc _).alloc _)
  have hrd := hid (show RdM ((w.alloc (.cells (cellsW d) 25)).alloc (.cells (cellsW 0) 25)) (.slice (some ⟨w.heap.size, 0, none⟩) 4 4) 4 d from ((ArrW.new _ w d).alloc _).toM.rd 4 (by omega))
  have hB0 := hid (show ArrW 25 (((w.alloc (.cells (cellsW d) 25)).alloc (.cells (cellsW 0) 25)).alloc (.cells (cellsM n 0) 23)) (w.heap.size + 1) 0 by
    have := ArrW.new 25 (w.alloc (.cells (cellsW d) 25)) 0
    rw [World.size_alloc] at this; exact this.alloc _)
  have hC0 := hid (show ArrM 23 n (((w.alloc (.cells (cellsW d) 25)).alloc (.cells (cellsW 0) 25)).alloc (.cells (cellsM n 0) 23)) (w.heap.size + 2) 0 by
    have := ArrM.new 23 n ((w.alloc (.cells (cellsW d) 25)).alloc (.cells (cellsW 0) 25)) 0
    rw [World.size_alloc, World.size_alloc] at this; exact this)
  have hb0 : Below w.heap.size w (((w.alloc (.cells (cellsW d) 25)).alloc (.cells (cellsW 0) 25)).alloc (.cells (cellsM n 0) 23)) := (((Below.refl _ _).alloc (Nat.le_refl _) _).alloc (by simp) _).alloc (by simp; omega) _
  go_enter Try.func63, Try.ntmps63
  go_wp2_with (refine wpList_alloc_new rfl 25 rfl (cellsW 0) zWd ?_; simp only [Act.put, pvA, pv0, pv1, World.size_alloc])
  refine (hW.out _ _ hrd.out).mono ?_
  rintro e w1 ⟨rfl, rfl⟩
  have hne : (((bd : Int) + 63) / 64) = 1 := by omega
  go_wp2_with fail
  (try simp only [World.size_alloc])
  generalize ((w.alloc (.cells (cellsW d) 25)).alloc (.cells (cellsW 0) 25)).alloc (.cells (cellsM n 0) 23) = w1 at hA0 hB0 hC0 hb0 ⊢
  (try simp only [hne])
  clear hW hrd
  go_loopw [8, 9] (fun rv iv wr => ∃ i : Nat, i ≤ n ∧ rv = .int .u64 ((U / 2 ^ (64 * i) % d : Nat) : Int) ∧ iv = .int .i64 ((i : Int) - 1) ∧ Hid (ArrW 25 wr w.heap.size d) ∧ Hid (ArrW 25 wr (w.heap.size + 1) 0) ∧ Hid (ArrM 23 n wr (w.heap.size + 2) (U / 2 ^ (64 * i) / d * 2 ^ (64 * i))) ∧ Below w.heap.size w wr)
    (fun _ iv _ => (intOf iv + 1).toNat)
  case atStart => exact ⟨n, by omega, by rw [H0.out, Nat.zero_mod]; rfl, by go_num, hA0, hB0, by rw [H0.out, Nat.zero_div, Nat.zero_mul]; exact hC0, hb0⟩
  case round =>
    clear hA0 hB0 hC0 hb0
    obtain ⟨i, hi, rfl, rfl, hA, hB, hC, hb⟩ := hrel
    by_cases h0 : i = 0
    · subst h0
      have hQ := hC.out
      have hr0 := hid (show U / 2 ^ (64 * 0) % d = U % d by rw [Nat.mul_zero, Nat.pow_zero, Nat.div_one])
      rw [show U / 2 ^ (64 * 0) / d * 2 ^ (64 * 0) = U / d by rw [Nat.mul_zero, Nat.pow_zero, Nat.div_one, Nat.mul_one]] at hQ
      rw [hr0.out]
      obtain ⟨r, hrr⟩ : ∃ r, r = U % d := ⟨_, rfl⟩
      rw [← hrr] at hO ⊢
      have HRR := hid hrr
      have HQ := hid hQ
      have iR := hid (iW r)
      have nR := hid (one_cellsW r)
      clear hrr hC hr0 hQ
      go_wp2_with fail
      refine (hO.out _).mono ?_
      rintro e w2 ⟨rfl, hb2⟩
      have hB2 := hid (hB.out.below hb2 hB.out.lt)
      have hQ2 := hid (HQ.out.below hb2 HQ.out.lt)
      have hb3 := hb.trans (hb2.mono hb.size)
      clear hB HQ hb hb2
      go_wp2_with (refine wpList_store_row rfl 25 (.tmp 5) (.tmp 50) rfl (w.heap.size + 1) _ rfl rfl 25 _ hB2.out iR.out rfl nR.out ?_; simp only [Act.put])
      refine bodyPost_ret (results_tmp_row rfl _ _ (w.heap.size + 1) 25 (cellsW r) (0, 0) _ rfl (heap_setRow' _ _ _ _ _ hB2.out) uWd rfl iR.out) rfl ⟨w.heap.size + 2, by rw [HRR.out]; rfl, ?_, by omega, below_setRow' hb3 _ (by omega) _⟩
      have := hQ2.out
      unfold ArrM at *
      simp only [World.setRow, Array.getElem?_modify]
      rw [if_neg (by omega)]; exact this
    · obtain ⟨j, rfl⟩ : ∃ j, i = j + 1 := ⟨i - 1, by omega⟩
      have e1 : (((j + 1 : Nat) : Int) - 1) = (j : Int) := by omega
      rw [e1]
      obtain ⟨s1, s2, s3⟩ := div1_step U d j HD.out
      obtain ⟨b, off, rfl, hbl, hcell⟩ := HR.out (by omega)
      have cx := (hb.cell (p := ⟨b, off + j, none⟩) hbl).trans (hcell j (by omega))
      have lb : b < wr.heap.size := Nat.lt_of_lt_of_le hbl hb.size
      have cd := hA.out.cell 0 (by omega)
      rw [hl0] at cd
      have ld := hA.out.lt
      have cq := hC.out.cell j (by omega)
      have fq := hC.out.free j
      have lq := hC.out.lt
      have hrl := Nat.mod_lt (U / 2 ^ (64 * (j + 1))) HD.out
      have hDv := hid (fun w => div64_any (U / 2 ^ (64 * (j + 1)) % d) (lmN U j) d hrl (lmN_lt _ _) hd2 w)
      obtain ⟨r, hr⟩ : ∃ r, r = U / 2 ^ (64 * (j + 1)) % d := ⟨_, rfl⟩
      rw [← hr] at s1 s2 s3 hDv hrl ⊢
      obtain ⟨q, hq⟩ : ∃ q, q = (r * 2 ^ 64 + lmN U j) / d := ⟨_, rfl⟩
      rw [← hq] at s1 s3 hDv
      obtain ⟨r2, hr2⟩ : ∃ r2, r2 = (r * 2 ^ 64 + lmN U j) % d := ⟨_, rfl⟩
      rw [← hr2] at s2 hDv
      have S2 := hid s2
      have S3 := hid s3
      clear e1 h0 hcell s2 s3 hr hq hr2
      go_wp2_with fail
      (refine wp_region_ext_float 14 12 [0, 1, 2, 3, 4, 5, 6, 7, 8, 9, 10, 11, 13] [_, _, _, _, _, _, _, _, _, _, _, _, _] _ _ _ rfl rfl rfl rfl (by kernel_rfl) (by kernel_rfl) ?_; (repeat (go_big_quiet_step (first | (go_at_call 81; with_reducible refine Calls.ext_of (hDv.out _))))); refine wpQuiet_nil ?_; refine ⟨?_, ?_⟩; rotate_left; rintro _ ⟨xw, rfl⟩; rotate_left; (repeat (go_big_quiet_step (first | (go_at_call 81; with_reducible refine Calls.ext_of (hDv.out _))))); refine wpQuiet_nil ?_; rintro _ ⟨xw, rfl⟩)
      all_goals
        go_wp2_with fail
        go_roundw
        case rel =>
          refine ⟨j, by omega, by rw [← S2.out], by go_num, hid ((hA.out.ext xw).other (by show w.heap.size ≠ w.heap.size + 2; omega) _), hid ((hB.out.ext xw).other (by show w.heap.size + 1 ≠ w.heap.size + 2; omega) _), hid ?_, (World.ext_below_of hb hb.size xw).setCell (p := ⟨w.heap.size + 2, j, none⟩) (by show w.heap.size ≤ w.heap.size + 2; omega) _⟩
          rw [← S3.out]
          exact (hC.out.ext xw).set j q s1
        case measure => simp [intOf]
end Go.Proofs.Ytejnnghfelpioaa
namespace Go.Proofs.Ytejnnghfelpioaa
open Go.RowKit
end Go.Proofs.Ytejnnghfelpioaa
namespace Go.Proofs.Ytejnnghfelpioaa
open Go.RowKit
theorem shl_limb0 (x s : Nat) : lmN (x * 2 ^ s) 0 = lmN x 0 * 2 ^ s % 2 ^ 64 := by
  unfold lmN
  rw [Nat.mul_zero, Nat.pow_zero, Nat.div_one, Nat.div_one, Nat.mod_mul_mod]
theorem shl_limb (x s i : Nat) (hs : s < 64) : lmN (x * 2 ^ s) (i + 1) = lmN x (i + 1) * 2 ^ s % 2 ^ 64 ||| lmN x i / 2 ^ (64 - s) := by
  have h := (lmN_shl x s (i + 1)).2.2 (by omega)
  rw [show s / 64 = 0 by omega, show s % 64 = s by omega, Nat.sub_zero, Nat.add_sub_cancel] at h
  by_cases h0 : s = 0
  · subst h0
    rw [h, if_pos rfl, Nat.pow_zero, Nat.mul_one, Nat.mod_eq_of_lt (lmN_lt _ _), Nat.div_eq_of_lt (lmN_lt _ _), Nat.or_zero]
  · rw [h, if_neg h0]
theorem shr_limb (x s i : Nat) (hs : s < 64) : lmN (x / 2 ^ s) i = lmN x i / 2 ^ s ||| lmN x (i + 1) * 2 ^ (64 - s) % 2 ^ 64 := by
  by_cases h0 : s = 0
  · subst h0
    rw [Nat.pow_zero, Nat.div_one, Nat.div_one, Nat.sub_zero, Nat.mul_mod_left, Nat.or_zero]
  · have h := lmN_shr x s i (by omega)
    rw [show s / 64 = 0 by omega, show s % 64 = s by omega, Nat.add_zero] at h
    exact h
theorem or_shl (c u s : Nat) (hs : s < 64) (hc : c < 2 ^ s) : c ||| u * 2 ^ s % 2 ^ 64 = c + u * 2 ^ s % 2 ^ 64 := by
  have e : u * 2 ^ s % 2 ^ 64 = u % 2 ^ (64 - s) * 2 ^ s := by
    have h := shl_mod u (64 - s) (by omega)
    rw [show 64 - (64 - s) = s by omega] at h
    rw [h, Nat.mul_comm]
  rw [e, or_add _ _ _ hc]
theorem lift_step (U s i : Nat) (hs : s < 64) :
    lmN (U % 2 ^ (64 * i) * 2 ^ s) i < 2 ^ s ∧ lmN (U % 2 ^ (64 * i) * 2 ^ s) i + lmN U i * 2 ^ s % 2 ^ 64 < 2 ^ 64 ∧
    setL (setL (U % 2 ^ (64 * i) * 2 ^ s) i (lmN (U % 2 ^ (64 * i) * 2 ^ s) i + lmN U i * 2 ^ s % 2 ^ 64)) (i + 1) (lmN U i / 2 ^ (64 - s)) = U % 2 ^ (64 * (i + 1)) * 2 ^ s := by
  have hl := low_lt U i
  have hp : 0 < 2 ^ (64 * i) := Nat.pow_pos (by omega)
  have hps : 0 < 2 ^ s := Nat.pow_pos (by omega)
  have hs2 : 2 ^ s ≤ 2 ^ 63 := Nat.pow_le_pow_right (by omega) (by omega)
  have hX : U % 2 ^ (64 * i) * 2 ^ s < 2 ^ (64 * i) * 2 ^ s := Nat.mul_lt_mul_of_pos_right hl hps
  have hq : U % 2 ^ (64 * i) * 2 ^ s / 2 ^ (64 * i) < 2 ^ s := by rw [Nat.div_lt_iff_lt_mul hp, Nat.mul_comm (2 ^ s)]; exact hX
  have hc : lmN (U % 2 ^ (64 * i) * 2 ^ s) i < 2 ^ s := Nat.lt_of_le_of_lt (Nat.mod_le _ _) hq
  have hsum := or_shl (lmN (U % 2 ^ (64 * i) * 2 ^ s) i) (lmN U i) s hs hc
  have hlt : lmN (U % 2 ^ (64 * i) * 2 ^ s) i + lmN U i * 2 ^ s % 2 ^ 64 < 2 ^ 64 := by
    rw [← hsum]
    exact Nat.or_lt_two_pow (Nat.lt_trans hc (Nat.lt_of_le_of_lt hs2 (by decide))) (Nat.mod_lt _ (by decide))
  refine ⟨hc, hlt, ?_⟩
  have h1 := setL_eq (U % 2 ^ (64 * i) * 2 ^ s) i (lmN (U % 2 ^ (64 * i) * 2 ^ s) i + lmN U i * 2 ^ s % 2 ^ 64)
  have h2 := setL_eq (setL (U % 2 ^ (64 * i) * 2 ^ s) i (lmN (U % 2 ^ (64 * i) * 2 ^ s) i + lmN U i * 2 ^ s % 2 ^ 64)) (i + 1) (lmN U i / 2 ^ (64 - s))
  have h3 : lmN (setL (U % 2 ^ (64 * i) * 2 ^ s) i (lmN (U % 2 ^ (64 * i) * 2 ^ s) i + lmN U i * 2 ^ s % 2 ^ 64)) (i + 1) = 0 := by
    rw [lmN_setL _ _ _ _ hlt, if_neg (by omega)]
    apply lmN_hi
    rw [pow64_succ]
    exact Nat.lt_of_lt_of_le hX (Nat.mul_le_mul_left _ (Nat.le_trans hs2 (by decide)))
  rw [h3, Nat.mul_zero, Nat.add_zero] at h2
  rw [h2, low_succ, Nat.add_mul, Nat.mul_assoc]
  have e1 : lmN U i * 2 ^ s / 2 ^ 64 = lmN U i / 2 ^ (64 - s) := by
    rw [show (2 : Nat) ^ 64 = 2 ^ (64 - s) * 2 ^ s by rw [← Nat.pow_add]; congr 1; omega, Nat.mul_div_mul_right _ _ hps]
  have e2 := Nat.div_add_mod (lmN U i * 2 ^ s) (2 ^ 64)
  rw [e1] at e2
  have e3 : 2 ^ (64 * i) * (lmN U i * 2 ^ s) = 2 ^ (64 * i) * (2 ^ 64 * (lmN U i / 2 ^ (64 - s))) + 2 ^ (64 * i) * (lmN U i * 2 ^ s % 2 ^ 64) := by rw [← Nat.mul_add, e2]
  rw [e3, pow64_succ]
  rw [Nat.mul_add] at h1
  rw [Nat.mul_assoc (2 ^ (64 * i)) (2 ^ 64)]
  omega
theorem long_step (Z Z' V k q n : Nat) (hV : 0 < V) (hVn : V < 2 ^ (64 * n)) (hZ : Z < V * 2 ^ (64 * (k + 1))) (hw : win Z k (n + 1) = Z / 2 ^ (64 * k)) (hq : q = Z / 2 ^ (64 * k) / V) (he : Z' + 2 ^ (64 * k) * (q * V) = Z) : Z' < V * 2 ^ (64 * k) := by
  have hp : 0 < 2 ^ (64 * k) := Nat.pow_pos (by omega)
  have h1 := Nat.div_add_mod (Z / 2 ^ (64 * k)) V
  have h2 := Nat.mod_lt (Z / 2 ^ (64 * k)) hV
  have h3 := Nat.div_add_mod Z (2 ^ (64 * k))
  have h4 := Nat.mod_lt Z hp
  rw [← hq] at h1
  have h5 : Z / 2 ^ (64 * k) + 1 ≤ V * q + V := by omega
  have h6 := Nat.mul_le_mul_left (2 ^ (64 * k)) h5
  rw [Nat.mul_add, Nat.mul_add, Nat.mul_one, Nat.mul_comm V q] at h6
  rw [Nat.mul_comm V]
  omega
theorem long_win (Z V k n : Nat) (hVn : V < 2 ^ (64 * n)) (hZ : Z < V * 2 ^ (64 * (k + 1))) : win Z k (n + 1) = Z / 2 ^ (64 * k) ∧ win Z k (n + 1) < V * 2 ^ 64 := by
  have hp : 0 < 2 ^ (64 * k) := Nat.pow_pos (by omega)
  have h1 : Z / 2 ^ (64 * k) < V * 2 ^ 64 := by
    rw [Nat.div_lt_iff_lt_mul hp, Nat.mul_assoc, Nat.mul_comm (2 ^ 64), ← pow64_succ]; exact hZ
  have h2 : V * 2 ^ 64 ≤ 2 ^ (64 * (n + 1)) := by rw [pow64_succ]; exact Nat.mul_le_mul_right _ (Nat.le_of_lt hVn)
  have h3 : win Z k (n + 1) = Z / 2 ^ (64 * k) := Nat.mod_eq_of_lt (Nat.lt_of_lt_of_le h1 h2)
  exact ⟨h3, by rw [h3]; exact h1⟩
theorem setL_below (Q k v : Nat) (h : Q % 2 ^ (64 * (k + 1)) = 0) : setL Q k v = Q + 2 ^ (64 * k) * v ∧ (Q + 2 ^ (64 * k) * v) % 2 ^ (64 * k) = 0 := by
  have h0 : lmN Q k = 0 := by
    have := low_succ Q k
    rw [h] at this
    have hp : 0 < 2 ^ (64 * k) := Nat.pow_pos (by omega)
    rcases Nat.eq_zero_or_pos (lmN Q k) with h1 | h1
    · exact h1
    · have : 0 < 2 ^ (64 * k) * lmN Q k := Nat.mul_pos hp h1
      omega
  have h1 := setL_eq Q k v
  rw [h0, Nat.mul_zero, Nat.add_zero] at h1
  refine ⟨h1, ?_⟩
  rw [Nat.add_mul_mod_self_left]
  have h2 := low_succ Q k
  rw [h, h0, Nat.mul_zero, Nat.add_zero] at h2
  exact h2.symm
theorem top_limb (d : Nat) (h : 2 ^ 64 ≤ d) (h2 : d < 2 ^ 256) : ∃ m, m ≤ 2 ∧ (bl d + 63) / 64 = m + 2 ∧ d < 2 ^ (64 * (m + 2)) ∧ 0 < lmN d (m + 1) ∧ 64 * (m + 1) + bl (lmN d (m + 1)) = bl d := by
  have hs := bl_spec d (by have : 0 < 2 ^ 64 := by decide
                           omega)
  have hb := bl_le d 256 h2
  have h65 : 65 ≤ bl d := by
    rcases Nat.lt_or_ge (bl d) 65 with h3 | h3
    · have : 2 ^ bl d ≤ 2 ^ 64 := Nat.pow_le_pow_right (by omega) (by omega)
      omega
    · exact h3
  obtain ⟨m, hm⟩ : ∃ m, (bl d + 63) / 64 = m + 2 := ⟨(bl d + 63) / 64 - 2, by omega⟩
  have hd : d < 2 ^ (64 * (m + 2)) := Nat.lt_of_lt_of_le hs.2.2 (Nat.pow_le_pow_right (by omega) (by omega))
  have hn : lmN d (m + 1) ≠ 0 := by
    unfold lmN
    have hp : 0 < 2 ^ (64 * (m + 1)) := Nat.pow_pos (by omega)
    rw [show m + 2 = (m + 1) + 1 from rfl, pow64_succ, Nat.mul_comm] at hd
    rw [Nat.mod_eq_of_lt ((Nat.div_lt_iff_lt_mul hp).2 hd)]
    have : 2 ^ (64 * (m + 1)) ≤ d := Nat.le_trans (Nat.pow_le_pow_right (by omega) (by omega)) hs.2.1
    have := Nat.div_pos this hp
    omega
  exact ⟨m, by omega, hm, hd, Nat.pos_of_ne_zero hn, bl_top d (m + 1) hd hn⟩
end Go.Proofs.Ytejnnghfelpioaa
namespace Go.Proofs.Ytejnnghfelpioaa
open Go.RowKit
structure DvA (N L m d : Nat) (w wr : World) (Vv : Nat) : Prop where
  box : ArrW 25 wr N d
  res : ArrW 25 wr (N + 1) 0
  quo : ArrM 23 L wr (N + 2) 0
  dv : ArrM 23 (m + 2) wr (N + 3) Vv
  below : Below N w wr
theorem DvA.put {N L m d : Nat} {w wr : World} {Vv : Nat} (h : DvA N L m d w wr Vv) (j v : Nat) (hv : v < 2 ^ 64) : DvA N L m d w (wr.setCell ⟨N + 3, j, none⟩ (.int .u64 (v : Int))) (setL Vv j v) :=
  ⟨h.box.other (by show N ≠ N + 3; omega) _, h.res.other (by show N + 1 ≠ N + 3; omega) _, h.quo.other (by show N + 2 ≠ N + 3; omega) _, h.dv.set j v hv, h.below.setCell (p := ⟨N + 3, j, none⟩) (by show N ≤ N + 3; omega) _⟩
theorem DvA.ext {N L m d : Nat} {w wr : World} {Vv : Nat} (h : DvA N L m d w wr Vv) (hN : N ≤ w.heap.size) (y : World) : DvA N L m d w (wr.ext y) Vv :=
  ⟨h.box.ext y, h.res.ext y, h.quo.ext y, h.dv.ext y, World.ext_below_of h.below (Nat.le_trans hN h.below.size) y⟩
structure DvC (N L m d X V : Nat) (w wr : World) (Q Z : Nat) : Prop where
  box : ArrW 25 wr N d
  res : ArrW 25 wr (N + 1) 0
  quo : ArrM 23 L wr (N + 2) Q
  dv : ArrM 23 (m + 2) wr (N + 3) V
  xs : ArrM 23 (L + 1) wr X Z
  below : Below N w wr
theorem DvC.put {N L m d X V : Nat} {w wr : World} {Q Z : Nat} (h : DvC N L m d X V w wr Q Z) (hX : N + 3 < X) (j v : Nat) (hv : v < 2 ^ 64) : DvC N L m d X V w (wr.setCell ⟨X, j, none⟩ (.int .u64 (v : Int))) Q (setL Z j v) :=
  ⟨h.box.other (by show N ≠ X; omega) _, h.res.other (by show N + 1 ≠ X; omega) _, h.quo.other (by show N + 2 ≠ X; omega) _, h.dv.other (by show N + 3 ≠ X; omega) _, h.xs.set j v hv, h.below.setCell (p := ⟨X, j, none⟩) (by show N ≤ X; omega) _⟩
theorem DvC.putq {N L m d X V : Nat} {w wr : World} {Q Z : Nat} (h : DvC N L m d X V w wr Q Z) (hX : N + 3 < X) (j v : Nat) (hv : v < 2 ^ 64) : DvC N L m d X V w (wr.setCell ⟨N + 2, j, none⟩ (.int .u64 (v : Int))) (setL Q j v) Z :=
  ⟨h.box.other (by show N ≠ N + 2; omega) _, h.res.other (by show N + 1 ≠ N + 2; omega) _, h.quo.set j v hv, h.dv.other (by show N + 3 ≠ N + 2; omega) _, h.xs.other (by show X ≠ N + 2; omega) _, h.below.setCell (p := ⟨N + 2, j, none⟩) (by show N ≤ N + 2; omega) _⟩
theorem DvC.ext {N L m d X V : Nat} {w wr : World} {Q Z : Nat} (h : DvC N L m d X V w wr Q Z) (hN : N ≤ w.heap.size) (y : World) : DvC N L m d X V w (wr.ext y) Q Z :=
  ⟨h.box.ext y, h.res.ext y, h.quo.ext y, h.dv.ext y, h.xs.ext y, World.ext_below_of h.below (Nat.le_trans hN h.below.size) y⟩
theorem DvC.turn {N L m d X V : Nat} {w wr wn : World} {Q Z Z' : Nat} (h : DvC N L m d X V w wr Q Z) (hX : N + 3 < X) (hb : Below X wr wn) (hx : ArrM 23 (L + 1) wn X Z') : DvC N L m d X V w wn Q Z' :=
  ⟨h.box.below hb (by omega), h.res.below hb (by omega), h.quo.below hb (by omega), h.dv.below hb (by omega), hx, h.below.trans (hb.mono (by omega))⟩
theorem DvC.alloc {N L m d X V : Nat} {w wr : World} {Q Z : Nat} (h : DvC N L m d X V w wr Q Z) (hN : N ≤ w.heap.size) (o : Obj) : DvC N L m d X V w (wr.alloc o) Q Z :=
  ⟨h.box.alloc _, h.res.alloc _, h.quo.alloc _, h.dv.alloc _, h.xs.alloc _, h.below.alloc (Nat.le_trans hN h.below.size) _⟩
set_option maxRecDepth 100000 in
set_option maxHeartbeats 8000000 in
theorem divideN_any (L U d : Nat) (v : Value) (w : World) (hr : RdM w v L U) (hU : U < 2 ^ (64 * L)) (hL4 : 4 ≤ L) (hL9 : L ≤ 9) (hd : 2 ^ 64 ≤ d) (hd256 : d < 2 ^ 256) :
    Calls Try.prog 63 #[v, wd d] w fun e w' => ∃ gq, e = .returned (.tuple #[.slice (some ⟨gq, 0, none⟩) L L, wd (U % d)]) ∧ ArrM 23 L w' gq (U / d) ∧ w.heap.size ≤ gq ∧ Below w.heap.size w w' := by
  have hW := hid (fun v w hr => width_any 4 d v w hr hd256 (by omega))
  obtain ⟨m, hm2, hbn, hdn, htop, hbt⟩ := top_limb d hd hd256
  have hb2 := bl_le d 256 hd256
  have htl := bl_le (lmN d (m + 1)) 64 (lmN_lt _ _)
  have hLZ := hid (fun w => lz64_same (lmN d (m + 1)) (lmN_lt _ _) w)
  have hds := bl_spec d (by omega)
  obtain ⟨s, hs⟩ : ∃ s, s = 64 - bl (lmN d (m + 1)) := ⟨_, rfl⟩
  rw [← hs] at hLZ
  have htb := (bl_spec (lmN d (m + 1)) (by omega)).1
  have hs63 : s ≤ 63 := by omega
  obtain ⟨V, hV⟩ : ∃ V, V = d * 2 ^ s := ⟨_, rfl⟩
  have hps : 0 < 2 ^ s := Nat.pow_pos (by omega)
  have hV1 : V < 2 ^ (64 * (m + 2)) := by
    rw [hV, show 64 * (m + 2) = bl d + s by omega, Nat.pow_add]
    exact Nat.mul_lt_mul_of_pos_right hds.2.2 hps
  have hV0 : 2 ^ (64 * (m + 1) + 63) ≤ V := by
    rw [hV, show 64 * (m + 1) + 63 = bl d - 1 + s by omega, Nat.pow_add]
    exact Nat.mul_le_mul_right _ hds.2.1
  have hV2 : 0 < lmN V (m + 1) := by
    unfold lmN
    have hp : 0 < 2 ^ (64 * (m + 1)) := Nat.pow_pos (by omega)
    have h1 := hV1
    rw [show m + 2 = (m + 1) + 1 from rfl, pow64_succ, Nat.mul_comm] at h1
    rw [Nat.mod_eq_of_lt ((Nat.div_lt_iff_lt_mul hp).2 h1)]
    exact Nat.div_pos (Nat.le_trans (Nat.pow_le_pow_right (by omega) (by omega)) hV0) hp
  have hVpos : 0 < V := by rw [hV]; exact Nat.mul_pos (by omega) hps
  have hZ0 : U * 2 ^ s < V * 2 ^ (64 * (L - (m + 2) + 1)) := by
    have h1 : U * 2 ^ s < 2 ^ (64 * L) * 2 ^ s := Nat.mul_lt_mul_of_pos_right hU hps
    have h2 : 2 ^ (64 * L) * 2 ^ s ≤ 2 ^ (64 * L) * 2 ^ 63 := Nat.mul_le_mul_left _ (Nat.pow_le_pow_right (by omega) hs63)
    have h3 : 2 ^ (64 * (m + 1) + 63) * 2 ^ (64 * (L - (m + 2) + 1)) ≤ V * 2 ^ (64 * (L - (m + 2) + 1)) := Nat.mul_le_mul_right _ hV0
    rw [← Nat.pow_add] at h2 h3
    rw [← Nat.pow_add] at h2
    rw [show 64 * (m + 1) + 63 + 64 * (L - (m + 2) + 1) = 64 * L + 63 by omega] at h3
    rw [← Nat.pow_add] at h1
    omega
  have HU := hid (show U % 2 ^ (64 * L) = U from Nat.mod_eq_of_lt hU)
  obtain ⟨bd, hbd⟩ : ∃ b, b = bl d := ⟨_, rfl⟩
  rw [← hbd] at hW
  have hne : (((bd : Int) + 63) / 64) = (m : Int) + 2 := by omega
  have HV := hid hV
  have HV1 := hid hV1
  have HV2 := hid hV2
  have HVp := hid hVpos
  have HZ0 := hid hZ0
  have hVd : V / 2 ^ s = d := by rw [hV, Nat.mul_div_cancel _ hps]
  have HVd := hid hVd
  have hmk := mkM L (by omega)
  have hmk2 : ∀ w : World, (Instr.makeSlice 99 (.int .i64 ((m : Int) + 2)) (.int .i64 ((m : Int) + 2))).run Try.prog w = .ok (.slice (some ⟨w.heap.size, 0, none⟩) (m + 2) (m + 2)) (w.alloc (.cells (cellsM (m + 2) 0) 23)) := fun w => mkM (m + 2) (by omega) w
  have hmk3 : ∀ w : World, (Instr.makeSlice 99 (.int .i64 ((L : Int) + 1)) (.int .i64 ((L : Int) + 1))).run Try.prog w = .ok (.slice (some ⟨w.heap.size, 0, none⟩) (L + 1) (L + 1)) (w.alloc (.cells (cellsM (L + 1) 0) 23)) := fun w => mkM (L + 1) (by omega) w
  obtain ⟨a, cap, rfl, hc, hr⟩ := hr
  have HR := hid hr
  have hmne : ¬ (m : Int) + 2 = 1 := by omega
  have hml : m + 2 ≤ 4 := by omega
  clear hr hU hd hd256 hbn hdn htop hbt hb2 htl hds hs htb hV hV1 hV0 hV2 hVpos hZ0 hVd hbd hps
  unfold wd at *
  have hA0 := hid (show ArrW 25 (((w.alloc (.cells (cellsW d) 25)).alloc (.cells (cellsW 0) 25)).alloc (.cells (cellsM L 0) 23)) w.heap.size d from ((ArrW.new _ w d).alloc _).alloc _)
  have hrd := hid (show RdM ((w.alloc (.cells (cellsW d) 25)).alloc (.cells (cellsW 0) 25)) (.slice (some ⟨w.heap.size, 0, none⟩) 4 4) 4 d from ((ArrW.new _ w d).alloc _).toM.rd 4 (by omega))
  have hB0 := hid (show ArrW 25 (((w.alloc (.cells (cellsW d) 25)).alloc (.cells (cellsW 0) 25)).alloc (.cells (cellsM L 0) 23)) (w.heap.size + 1) 0 by
    have := ArrW.new 25 (w.alloc (.cells (cellsW d) 25)) 0
    rw [World.size_alloc] at this; exact this.alloc _)
  have hC0 := hid (show ArrM 23 L (((w.alloc (.cells (cellsW d) 25)).alloc (.cells (cellsW 0) 25)).alloc (.cells (cellsM L 0) 23)) (w.heap.size + 2) 0 by
    have := ArrM.new 23 L ((w.alloc (.cells (cellsW d) 25)).alloc (.cells (cellsW 0) 25)) 0
    rw [World.size_alloc, World.size_alloc] at this; exact this)
  have hb0 : Below w.heap.size w (((w.alloc (.cells (cellsW d) 25)).alloc (.cells (cellsW 0) 25)).alloc (.cells (cellsM L 0) 23)) := (((Below.refl _ _).alloc (Nat.le_refl _) _).alloc (by simp) _).alloc (by simp; omega) _
  have cd := hA0.out.cell (m + 1) (by omega)
  have ld := hA0.out.lt
  go_enter Try.func63, Try.ntmps63
  go_wp2_with (refine wpList_alloc_new rfl 25 rfl (cellsW 0) zWd ?_; simp only [Act.put, pvA, pv0, pv1, World.size_alloc])
  refine (hW.out _ _ hrd.out).mono ?_
  rintro e w1 ⟨rfl, rfl⟩
  go_wp2_with fail
  refine (hLZ.out _).mono ?_
  rintro e w1 ⟨rfl, rfl⟩
  have hbf : (((m : Int) + 2) == 1) = false := beq_eq_false_iff_ne.2 (by omega)
  simp only [hne, hbf]
  have hI0 : Hid (DvA w.heap.size L m d w ((((w.alloc (.cells (cellsW d) 25)).alloc (.cells (cellsW 0) 25)).alloc (.cells (cellsM L 0) 23)).alloc (.cells (cellsM (m + 2) 0) 23)) (V % 2 ^ (64 * 0))) := hid ⟨hA0.out.alloc _, hB0.out.alloc _, hC0.out.alloc _, by
    rw [Nat.mul_zero, Nat.pow_zero, Nat.mod_one]
    have := ArrM.new 23 (m + 2) (((w.alloc (.cells (cellsW d) 25)).alloc (.cells (cellsW 0) 25)).alloc (.cells (cellsM L 0) 23)) 0
    rw [World.size_alloc, World.size_alloc, World.size_alloc] at this; exact this, hb0.alloc hb0.size _⟩
  clear hA0 hB0 hC0 hb0 hrd cd ld hW hLZ hbf
  go_wp2_with fail
  (try simp only [World.size_alloc, show m + 2 - 1 = m + 1 from rfl])
  generalize (((w.alloc (.cells (cellsW d) 25)).alloc (.cells (cellsW 0) 25)).alloc (.cells (cellsM L 0) 23)).alloc (.cells (cellsM (m + 2) 0) 23) = w1 at hI0 ⊢
  have h64 : (64 - (s : Int)).toNat = 64 - s := by omega
  go_loopw [59] (fun iv wr => ∃ i : Nat, i ≤ m + 2 ∧ iv = .int .i64 (i : Int) ∧ Hid (DvA w.heap.size L m d w wr (V % 2 ^ (64 * i))))
    (fun iv _ => m + 2 - (intOf iv).toNat)
  case atStart => exact ⟨0, by omega, rfl, hI0⟩
  case round =>
    clear hI0
    obtain ⟨i, hi, rfl, hI⟩ := hrel
    by_cases hlt : i < m + 2
    · have cd := hI.out.box.cell i (by omega)
      have ld := hI.out.box.lt
      have cv := hI.out.dv.cell i hlt
      have fv := hI.out.dv.free i
      have lv := hI.out.dv.lt
      have gd := lmN_lt d i
      obtain ⟨u1, hu1⟩ : ∃ u, u = lmN d i * 2 ^ s % 2 ^ 64 := ⟨_, rfl⟩
      have bu1 : u1 < 2 ^ 64 := by rw [hu1]; exact Nat.mod_lt _ (by decide)
      have E1 : IntKind.u64.wrap (lm d i * 2 ^ s) = (u1 : Int) := by
        unfold lm
        rw [hu1, show ((lmN d i : Nat) : Int) * 2 ^ s = ((lmN d i * 2 ^ s : Nat) : Int) by rw [Int.natCast_mul, Int.natCast_pow]; rfl, u64w_nat]
      rcases Nat.eq_zero_or_pos i with h0 | h0
      · subst h0
        have HS := hid (show V % 2 ^ (64 * (0 + 1)) = setL (V % 2 ^ (64 * 0)) 0 u1 by
          rw [low_succ, setL_top _ _ _ (low_lt V 0), HV.out, shl_limb0, hu1])
        clear hu1
        go_wp2_with fail
        go_roundw
        case rel => exact ⟨1, by omega, by go_num, hid (by rw [show (1 : Nat) = 0 + 1 from rfl, HS.out]; exact hI.out.put 0 u1 bu1)⟩
        case measure => simp [intOf]
      · obtain ⟨j, rfl⟩ : ∃ j, i = j + 1 := ⟨i - 1, by omega⟩
        have cd2 := hI.out.box.cell j (by omega)
        have hv2 : lmN V (j + 1) = u1 ||| lmN d j / 2 ^ (64 - s) := by rw [HV.out, shl_limb d s j (by omega), hu1]
        have HVal := hid (show bits .or .u64 (u1 : Int) (lm d j / 2 ^ (64 - s)) = ((lmN V (j + 1) : Nat) : Int) by
          rw [hv2, ← u64_or_nat _ _ bu1 (Nat.lt_of_le_of_lt (Nat.div_le_self _ _) (lmN_lt d j)), Int.natCast_ediv, Int.natCast_pow]; rfl)
        have HS := hid (show V % 2 ^ (64 * (j + 1 + 1)) = setL (setL (V % 2 ^ (64 * (j + 1))) (j + 1) u1) (j + 1) (lmN V (j + 1)) by
          rw [low_succ, setL_twice _ _ _ _ (low_lt V (j + 1)) bu1])
        have hI1 := hid (hI.out.put (j + 1) u1 bu1)
        clear hu1 hv2
        go_wp2_with fail
        clear cd cd2 ld cv fv lv hI
        generalize wr.setCell ⟨w.heap.size + 3, j + 1, none⟩ (.int .u64 (u1 : Int)) = wr at hI1 ⊢
        have cd2 := hI1.out.box.cell j (by omega)
        have ld := hI1.out.box.lt
        have cv := hI1.out.dv.cell (j + 1) hlt
        rw [lmN_setL _ _ _ _ bu1, if_pos rfl] at cv
        have fv := hI1.out.dv.free (j + 1)
        have lv := hI1.out.dv.lt
        (refine wp_region_ext_tail 13 (by kernel_rfl) (by kernel_rfl) ?_; simp only [List.take_succ_cons, List.take_zero, List.drop_succ_cons, List.drop_zero]; (repeat (go_big_quiet_step (first | fail))); refine wpQuiet_nil ?_; rintro _ ⟨xw, rfl⟩)
        go_wp2_with fail
        go_roundw
        case rel =>
          rw [HVal.out]
          exact ⟨j + 1 + 1, by omega, by go_num, hid (by rw [HS.out]; exact (hI1.out.ext (Nat.le_refl _) xw).put (j + 1) _ (lmN_lt _ _))⟩
        case measure => simp [intOf]; omega
    · obtain rfl : i = m + 2 := by omega
      rw [Nat.mod_eq_of_lt HV1.out] at hI
      have hXn := hI.out.dv.lt
      obtain ⟨X, hX⟩ : ∃ X, X = wr.heap.size := ⟨_, rfl⟩
      have hXA : Hid (ArrM 23 (L + 1) (wr.alloc (.cells (cellsM (L + 1) 0) 23)) X (U % 2 ^ (64 * 0) * 2 ^ s)) := hid (by
        rw [Nat.mul_zero, Nat.pow_zero, Nat.mod_one, Nat.zero_mul, hX]; exact ArrM.new _ _ _ _)
      have hI2 : Hid (DvA w.heap.size L m d w (wr.alloc (.cells (cellsM (L + 1) 0) 23)) V) := hid ⟨hI.out.box.alloc _, hI.out.res.alloc _, hI.out.quo.alloc _, hI.out.dv.alloc _, hI.out.below.alloc hI.out.below.size _⟩
      clear hI hlt hi
      go_wp2_with fail
      (try simp only [← hX])
      generalize wr.alloc (.cells (cellsM (L + 1) 0) 23) = w2 at hXA hI2 ⊢
      rw [← hX] at hXn
      clear hX
      have hJ : Hid (DvC w.heap.size L m d X V w w2 0 (U % 2 ^ (64 * 0) * 2 ^ s)) := hid ⟨hI2.out.box, hI2.out.res, hI2.out.quo, hI2.out.dv, hXA.out, hI2.out.below⟩
      clear hXA hI2
      go_loopw [92] (fun iv wr => ∃ i : Nat, i ≤ L ∧ iv = .int .i64 (i : Int) ∧ Hid (DvC w.heap.size L m d X V w wr 0 (U % 2 ^ (64 * i) * 2 ^ s)))
        (fun iv _ => L - (intOf iv).toNat)
      case atStart => exact ⟨0, by omega, rfl, hJ⟩
      case round =>
        clear hJ
        obtain ⟨i, hi, rfl, hJ⟩ := hrel
        by_cases hlt : i < L
        · obtain ⟨b, off, rfl, hbl, hcell⟩ := HR.out (by omega)
          obtain ⟨t1, t2, t3⟩ := lift_step U s i (by omega)
          have cx := hJ.out.xs.cell i (by omega)
          have fx := hJ.out.xs.free i
          have lx := hJ.out.xs.lt
          have cu := (hJ.out.below.cell (p := ⟨b, off + i, none⟩) hbl).trans (hcell i hlt)
          have lu : b < wr.heap.size := Nat.lt_of_lt_of_le hbl hJ.out.below.size
          have gu := lmN_lt U i
          obtain ⟨c, hc2⟩ : ∃ c, c = lmN (U % 2 ^ (64 * i) * 2 ^ s) i := ⟨_, rfl⟩
          rw [← hc2] at t1 t2 t3 cx
          have hcs : c < 2 ^ 64 := Nat.lt_trans t1 (Nat.lt_of_le_of_lt (Nat.pow_le_pow_right (by omega) hs63) (by decide))
          obtain ⟨y, hy⟩ : ∃ y, y = c + lmN U i * 2 ^ s % 2 ^ 64 := ⟨_, rfl⟩
          have HVal := hid (show bits .or .u64 (c : Int) (IntKind.u64.wrap (((lmN U i : Nat) : Int) * 2 ^ s)) = (y : Int) by
            rw [show ((lmN U i : Nat) : Int) * 2 ^ s = ((lmN U i * 2 ^ s : Nat) : Int) by rw [Int.natCast_mul, Int.natCast_pow]; rfl, u64w_nat, show (18446744073709551616 : Nat) = 2 ^ 64 from by decide]
            rw [u64_or_nat _ _ hcs (Nat.mod_lt _ (by decide)), or_shl c _ s (by omega) t1, hy])
          rw [← hy] at t2 t3
          have HT3 := hid t3
          obtain ⟨z, hz⟩ : ∃ z, z = lmN U i / 2 ^ (64 - s) := ⟨_, rfl⟩
          have hz2 : z < 2 ^ 64 := by rw [hz]; exact Nat.lt_of_le_of_lt (Nat.div_le_self _ _) gu
          have HZv := hid (show (((lmN U i : Nat) : Int)) / 2 ^ (64 - s) = (z : Int) by rw [hz, Int.natCast_ediv, Int.natCast_pow]; rfl)
          rw [← hz] at HT3
          clear hc2 hy hz t3 hcell t1
          go_wp2_with fail
          (refine wp_region_ext_tail 12 (by kernel_rfl) (by kernel_rfl) ?_; simp only [List.take_succ_cons, List.take_zero, List.drop_succ_cons, List.drop_zero]; (repeat (go_big_quiet_step (first | fail))); refine wpQuiet_nil ?_; rintro _ ⟨xw, rfl⟩)
          have hJ1 := hid ((hJ.out.ext (Nat.le_refl _) xw).put hXn i y t2)
          have cx1 := hJ.out.xs.cell (i + 1) (by omega)
          have fx1 := hJ.out.xs.free (i + 1)
          have hbX : ¬ b = X := by omega
          have hbX' : ¬ X = b := by omega
          go_wp2_with fail
          rw [HVal.out]
          rw [HZv.out]
          go_roundw
          case rel => exact ⟨i + 1, by omega, by go_num, hid (by rw [← HT3.out]; exact hJ1.out.put hXn (i + 1) z hz2)⟩
          case measure => simp [intOf]; omega
        · obtain rfl : L = i := by omega
          rw [HU.out] at hJ
          clear hlt hi
          have hge : ¬ ((L : Int) - ((m : Int) + 2) < 0) := by omega
          go_wp2_with fail
          go_loopw [15] (fun kv wr => ∃ k Q Z : Nat, k ≤ L - (m + 2) + 1 ∧ kv = .int .i64 ((k : Int) - 1) ∧ Hid (Z < V * 2 ^ (64 * k) ∧ Z + V * Q = U * 2 ^ s ∧ Q % 2 ^ (64 * k) = 0) ∧ Hid (DvC w.heap.size L m d X V w wr Q Z))
            (fun kv _ => (intOf kv + 1).toNat)
          case atStart => exact ⟨L - (m + 2) + 1, 0, U * 2 ^ s, Nat.le_refl _, by go_num, hid ⟨HZ0.out, by rw [Nat.mul_zero, Nat.add_zero], Nat.zero_mod _⟩, hJ⟩
          case round =>
            clear hJ
            obtain ⟨k, Q, Z, hk, rfl, hQ, hJ⟩ := hrel
            by_cases h0 : k = 0
            · subst h0
              have hZV : Z < V := by have := hQ.out.1; rw [Nat.mul_zero, Nat.pow_zero, Nat.mul_one] at this; exact this
              have hdiv : U * 2 ^ s / V = Q := by
                rw [← hQ.out.2.1, Nat.add_mul_div_left _ _ HVp.out, Nat.div_eq_of_lt hZV, Nat.zero_add]
              have hmod : U * 2 ^ s % V = Z := by
                rw [← hQ.out.2.1, Nat.add_mul_mod_self_left, Nat.mod_eq_of_lt hZV]
              have hsh := div_shift U d s
              rw [← HV.out, hdiv, hmod] at hsh
              have HQd := hid hsh.1.symm
              have HRd := hid hsh.2.symm
              have HZl := hid (show Z / 2 ^ s % 2 ^ (64 * (m + 2)) = Z / 2 ^ s from Nat.mod_eq_of_lt (Nat.lt_of_le_of_lt (Nat.div_le_self _ _) (Nat.lt_trans hZV HV1.out)))
              have hRs := hid hJ.out.below.size
              have hJ1 := hid (hJ.out.alloc (Nat.le_refl _) (.cells (cellsW 0) 25))
              have hR1 := hid (ArrW.new 25 wr 0)
              have hXR := hJ.out.xs.lt
              have hqR := hJ.out.quo.lt
              clear hQ hZV hdiv hmod hsh hJ hk
              go_wp2_with (refine wpList_alloc_new rfl 25 rfl (cellsW 0) zWd ?_; simp only [Act.put, pvA, pv0, pv1, World.size_alloc])
              generalize ((0 : Nat) : Int) - 1 = mone
              obtain ⟨R, hR⟩ : ∃ R, R = wr.heap.size := ⟨_, rfl⟩
              have hK : Hid (DvC w.heap.size L m d X V w (wr.alloc (.cells (cellsW 0) 25)) Q Z ∧ ArrM 25 4 (wr.alloc (.cells (cellsW 0) 25)) R (Z / 2 ^ s % 2 ^ (64 * 0))) := hid ⟨hJ1.out, by
                rw [Nat.mul_zero, Nat.pow_zero, Nat.mod_one, hR]; exact hR1.out.toM⟩
              rw [← hR] at hXR ⊢
              generalize wr.alloc (.cells (cellsW 0) 25) = w6 at hK ⊢
              clear hJ1 hR1 hR hRs hqR
              go_loopw [140] (fun iv wr => ∃ i : Nat, i ≤ m + 2 ∧ iv = .int .i64 (i : Int) ∧ Hid (DvC w.heap.size L m d X V w wr Q Z ∧ ArrM 25 4 wr R (Z / 2 ^ s % 2 ^ (64 * i))))
                (fun iv _ => m + 2 - (intOf iv).toNat)
              case atStart => exact ⟨0, by omega, rfl, hK⟩
              case round =>
                clear hK
                obtain ⟨i, hi, rfl, hK⟩ := hrel
                by_cases hlt : i < m + 2
                · have cx := hK.out.1.xs.cell i (by omega)
                  have cx1 := hK.out.1.xs.cell (i + 1) (by omega)
                  have lx := hK.out.1.xs.lt
                  have cr := hK.out.2.cell i (by omega)
                  have fr := hK.out.2.free i
                  have lr := hK.out.2.lt
                  have gx := lmN_lt Z i
                  have gx1 := lmN_lt Z (i + 1)
                  have HVal := hid (show bits .or .u64 (((lmN Z i : Nat) : Int) / 2 ^ s) (IntKind.u64.wrap (((lmN Z (i + 1) : Nat) : Int) * 2 ^ (64 - s))) = ((lmN (Z / 2 ^ s) i : Nat) : Int) by
                    rw [shr_limb Z s i (by omega), show ((lmN Z i : Nat) : Int) / 2 ^ s = ((lmN Z i / 2 ^ s : Nat) : Int) by rw [Int.natCast_ediv, Int.natCast_pow]; rfl]
                    rw [show ((lmN Z (i + 1) : Nat) : Int) * 2 ^ (64 - s) = ((lmN Z (i + 1) * 2 ^ (64 - s) : Nat) : Int) by rw [Int.natCast_mul, Int.natCast_pow]; rfl, u64w_nat, show (18446744073709551616 : Nat) = 2 ^ 64 from by decide]
                    rw [u64_or_nat _ _ (Nat.lt_of_le_of_lt (Nat.div_le_self _ _) gx) (Nat.mod_lt _ (by decide))])
                  have HS := hid (show Z / 2 ^ s % 2 ^ (64 * (i + 1)) = setL (Z / 2 ^ s % 2 ^ (64 * i)) i (lmN (Z / 2 ^ s) i) by
                    rw [low_succ, setL_top _ _ _ (low_lt _ i)])
                  go_wp2_with fail
                  (refine wp_region_ext_tail 17 (by kernel_rfl) (by kernel_rfl) ?_; simp only [List.take_succ_cons, List.take_zero, List.drop_succ_cons, List.drop_zero]; (repeat (go_big_quiet_step (first | fail))); refine wpQuiet_nil ?_; rintro _ ⟨xw, rfl⟩)
                  go_wp2_with fail
                  go_roundw
                  case rel =>
                    rw [HVal.out]
                    refine ⟨i + 1, by omega, by go_num, hid ⟨?_, by rw [HS.out]; exact (hK.out.2.ext xw).set i _ (lmN_lt _ _)⟩⟩
                    have hE := hK.out.1.ext (Nat.le_refl _) xw
                    exact ⟨hE.box.other (by show w.heap.size ≠ R; omega) _, hE.res.other (by show w.heap.size + 1 ≠ R; omega) _, hE.quo.other (by show w.heap.size + 2 ≠ R; omega) _, hE.dv.other (by show w.heap.size + 3 ≠ R; omega) _, hE.xs.other (by show X ≠ R; omega) _, hE.below.setCell (p := ⟨R, i, none⟩) (by show w.heap.size ≤ R; omega) _⟩
                  case measure => simp [intOf]; omega
                · obtain rfl : i = m + 2 := by omega
                  rw [HZl.out, ← HRd.out, ← HQd.out] at hK
                  obtain ⟨r, hr⟩ : ∃ r, r = U % d := ⟨_, rfl⟩
                  rw [← hr] at hK
                  have HRR := hid hr
                  have hRw := hid hK.out.2.toW
                  have hres := hid hK.out.1.res
                  have hquo := hid hK.out.1.quo
                  have hbel := hK.out.1.below
                  have iR := hid (iW r)
                  have nR := hid (one_cellsW r)
                  clear hr hK hlt hi
                  go_wp2_with fail
                  ((try simp only [World.size_alloc]); refine wp_region_ext_tail 3 (by kernel_rfl) (by kernel_rfl) ?_; simp only [List.take_succ_cons, List.take_zero, List.drop_succ_cons, List.drop_zero]; (repeat (first | (refine wpQuiet_load_part rfl 25 (.tmp 16) rfl R 0 rfl 25 _ (cellsW _) (0, 0) _ hRw.out (fun j v h => by rw [Nat.zero_add]; exact h) uWd rfl iR.out ?_; simp only [Act.put, pvA, pv0, pv1]) | go_big_quiet_step (first | fail))); refine wpQuiet_nil ?_; rintro _ ⟨xw, rfl⟩)
                  have hres2 := hid (hres.out.ext xw)
                  have hquo2 := hid (hquo.out.ext xw)
                  have hbel2 := World.ext_below_of hbel hbel.size xw
                  clear hres hquo hbel
                  go_wp2_with (refine wpList_store_row rfl 25 (.tmp 5) (.tmp 162) rfl (w.heap.size + 1) _ rfl rfl 25 _ hres2.out iR.out rfl nR.out ?_; simp only [Act.put])
                  refine bodyPost_ret (results_tmp_row rfl _ _ (w.heap.size + 1) 25 (cellsW r) (0, 0) _ rfl (heap_setRow' _ _ _ _ _ hres2.out) uWd rfl iR.out) rfl ⟨w.heap.size + 2, by rw [HRR.out]; rfl, ?_, by omega, below_setRow' hbel2 _ (by omega) _⟩
                  have h9 := hquo2.out
                  unfold ArrM at *
                  simp only [World.setRow, Array.getElem?_modify]
                  rw [if_neg (by omega)]; exact h9
            · obtain ⟨j, rfl⟩ : ∃ j, k = j + 1 := ⟨k - 1, by omega⟩
              have e1 : (((j + 1 : Nat) : Int) - 1) = (j : Int) := by omega
              rw [e1]
              obtain ⟨w1', w2'⟩ := long_win Z V j (m + 2) HV1.out hQ.out.1
              have hSt := hid (step_any X j (L + 1) Z (w.heap.size + 3) m V (L + 1 - j) wr hJ.out.xs hJ.out.dv hXn (by omega) (by omega) (by omega) (by omega) HV1.out HV2.out w2')
              obtain ⟨q, hq⟩ : ∃ q, q = win Z j (m + 3) / V := ⟨_, rfl⟩
              rw [← hq] at hSt
              have hq64 : q < 2 ^ 64 := by rw [hq, Nat.div_lt_iff_lt_mul HVp.out, Nat.mul_comm]; exact w2'
              have hqe := hid (show q = Z / 2 ^ (64 * j) / V by rw [hq, ← w1'])
              have hW1 := hid w1'
              have cq := hJ.out.quo.cell j (by omega)
              clear e1 h0 hq w1' w2'
              go_wp2_with fail
              rw [show j + (m + 2) + 1 - j = m + 3 by omega]
              refine hSt.out.mono ?_
              rintro e w5 ⟨Z', rfl, hx5, he5, hb5⟩
              have hJ5 := hid (hJ.out.turn hXn hb5 hx5)
              have cq5 := hJ5.out.quo.cell j (by omega)
              have fq5 := hJ5.out.quo.free j
              have lq5 := hJ5.out.quo.lt
              have hnew := setL_below Q j q hQ.out.2.2
              have HN1 := hid hnew.1
              have HN2 := hid (And.intro (long_step Z Z' V j q (m + 2) HVp.out HV1.out hQ.out.1 hW1.out hqe.out he5) (And.intro (show Z' + V * (Q + 2 ^ (64 * j) * q) = U * 2 ^ s by
                have h1 := hQ.out.2.1
                rw [← he5] at h1
                rw [Nat.mul_add, Nat.mul_left_comm V, Nat.mul_comm V q]
                omega) hnew.2))
              clear hJ hb5 hx5 he5 hSt hnew cq
              go_wp2_with fail
              go_roundw
              case rel => exact ⟨j, Q + 2 ^ (64 * j) * q, Z', by omega, by go_num, HN2, hid (by rw [← HN1.out]; exact hJ5.out.putq hXn j q hq64)⟩
              case measure => simp [intOf]
end Go.Proofs.Ytejnnghfelpioaa
namespace Go.Proofs.Ytejnnghfelpioaa
open Go.RowKit
theorem divide_any (n U d : Nat) (v : Value) (w : World) (hr : RdM w v n U) (hU : U < 2 ^ (64 * n)) (hn4 : 4 ≤ n) (hn : n ≤ 9) (hd : 0 < d) (hd2 : d < 2 ^ 256) :
    Calls Try.prog 63 #[v, wd d] w fun e w' => ∃ gq, e = .returned (.tuple #[.slice (some ⟨gq, 0, none⟩) n n, wd (U % d)]) ∧ ArrM 23 n w' gq (U / d) ∧ w.heap.size ≤ gq ∧ Below w.heap.size w w' := by
  by_cases h : d < 2 ^ 64
  · exact divide1_any n U d v w hr hU hn hd h
  · exact divideN_any n U d v w hr hU hn4 hn (by omega) hd2
set_option maxHeartbeats 2000000 in
theorem wmulmod_any (a b d : Nat) (w : World) (ha : a < 2 ^ 256) (hb : b < 2 ^ 256) (hd256 : d < 2 ^ 256) : Calls Try.prog 53 #[wd a, wd b, wd d] w fun e w' => e = .returned (wd (modW (a * b) d)) ∧ Below w.heap.size w w' := by
  have hZ := hid (fun w => wzero_any d hd256 w)
  have iA := hid (iW a)
  have iB := hid (iW b)
  have iD := hid (iW d)
  have nD := hid (one_cellsW d)
  by_cases h0 : d = 0
  · have HY := hid (show modW (a * b) d = d by unfold modW; rw [if_pos h0, h0])
    rw [decide_eq_true h0] at hZ
    rw [HY.out]
    clear h0 HY ha hb hd256
    unfold wd at *
    have hA0 := hid (show ArrW 25 ((((w.alloc (.cells (cellsW a) 25)).alloc (.cells (cellsW b) 25)).alloc (.cells (cellsW d) 25)).alloc (.cells (cellsW 0) 25)) w.heap.size a from (((ArrW.new _ w a).alloc _).alloc _).alloc _)
    have hB0 := hid (show ArrW 25 ((((w.alloc (.cells (cellsW a) 25)).alloc (.cells (cellsW b) 25)).alloc (.cells (cellsW d) 25)).alloc (.cells (cellsW 0) 25)) (w.heap.size + 1) b by
      have := ArrW.new 25 (w.alloc (.cells (cellsW a) 25)) b
      rw [World.size_alloc] at this; exact (this.alloc _).alloc _)
    have hC0 := hid (show ArrW 25 ((((w.alloc (.cells (cellsW a) 25)).alloc (.cells (cellsW b) 25)).alloc (.cells (cellsW d) 25)).alloc (.cells (cellsW 0) 25)) (w.heap.size + 2) d by
      have := ArrW.new 25 ((w.alloc (.cells (cellsW a) 25)).alloc (.cells (cellsW b) 25)) d
      rw [World.size_alloc, World.size_alloc] at this; exact this.alloc _)
    have hD0 := hid (show ArrW 25 ((((w.alloc (.cells (cellsW a) 25)).alloc (.cells (cellsW b) 25)).alloc (.cells (cellsW d) 25)).alloc (.cells (cellsW 0) 25)) (w.heap.size + 3) 0 by
      have := ArrW.new 25 (((w.alloc (.cells (cellsW a) 25)).alloc (.cells (cellsW b) 25)).alloc (.cells (cellsW d) 25)) 0
      rw [World.size_alloc, World.size_alloc, World.size_alloc] at this; exact this)
    have hb0 : Below w.heap.size w ((((w.alloc (.cells (cellsW a) 25)).alloc (.cells (cellsW b) 25)).alloc (.cells (cellsW d) 25)).alloc (.cells (cellsW 0) 25)) := ((((Below.refl _ _).alloc (Nat.le_refl _) _).alloc (by simp) _).alloc (by simp; omega) _).alloc (by simp; omega) _
    go_enter Try.func53, Try.ntmps53
    go_wp2_with (first | (refine wpList_alloc_new rfl 25 rfl (cellsW 0) zWd ?_; simp only [Act.put, pvA, pv0, pv1, World.size_alloc]) | (refine wpList_load_row rfl 25 (.tmp 5) rfl (w.heap.size + 2) rfl 25 _ (0, 0) _ hC0.out uWd rfl iD.out ?_; simp only [Act.put, pvA, pv0, pv1]))
    refine (hZ.out _).mono ?_
    rintro e w1 ⟨rfl, hb1⟩
    have hC1 := hid (hC0.out.below hb1 hC0.out.lt)
    have hD1 := hid (hD0.out.below hb1 hD0.out.lt)
    have hb2 := hb0.trans (hb1.mono hb0.size)
    clear hA0 hB0 hC0 hD0 hb0 hb1
    go_wp2_with (first | (refine wpList_load_row rfl 25 (.tmp 5) rfl (w.heap.size + 2) rfl 25 _ (0, 0) _ hC1.out uWd rfl iD.out ?_; simp only [Act.put, pvA, pv0, pv1]) | (refine wpList_store_row rfl 25 (.tmp 6) (.tmp 12) rfl (w.heap.size + 3) _ rfl rfl 25 _ hD1.out iD.out rfl nD.out ?_; simp only [Act.put]))
    refine bodyPost_ret (results_cell_row rfl _ _ (w.heap.size + 3) 25 (cellsW d) (0, 0) _ rfl (heap_setRow' _ _ _ _ _ hD1.out) uWd rfl iD.out) rfl ⟨rfl, below_setRow' hb2 _ (by omega) _⟩
  · have HY := hid (show modW (a * b) d = a * b % d by unfold modW; rw [if_neg h0])
    rw [decide_eq_false h0] at hZ
    rw [HY.out]
    have hF := hid (fun w => wfull_any a b w ha hb)
    have hab : a * b < 2 ^ (64 * 8) := by
      have := Nat.mul_lt_mul'' ha hb
      rw [← Nat.pow_add, show 256 + 256 = 64 * 8 from rfl] at this; exact this
    have hDv := hid (fun v w hr => divide_any 8 (a * b) d v w hr hab (by omega) (by omega) (Nat.pos_of_ne_zero h0) hd256)
    obtain ⟨s, hs⟩ : ∃ s, s = a * b := ⟨_, rfl⟩
    obtain ⟨r, hr⟩ : ∃ r, r = s % d := ⟨_, rfl⟩
    rw [← hs] at hF hDv ⊢
    rw [← hr] at hDv ⊢
    clear ha hb h0 HY hd256 hab hs hr
    unfold wd at *
    have iR := hid (iW r)
    have nR := hid (one_cellsW r)
    have iP := hid (iM8 s)
    have nP := hid (one_cellsM 8 s)
    have hA0 := hid (show ArrW 25 ((((w.alloc (.cells (cellsW a) 25)).alloc (.cells (cellsW b) 25)).alloc (.cells (cellsW d) 25)).alloc (.cells (cellsW 0) 25)) w.heap.size a from (((ArrW.new _ w a).alloc _).alloc _).alloc _)
    have hB0 := hid (show ArrW 25 ((((w.alloc (.cells (cellsW a) 25)).alloc (.cells (cellsW b) 25)).alloc (.cells (cellsW d) 25)).alloc (.cells (cellsW 0) 25)) (w.heap.size + 1) b by
      have := ArrW.new 25 (w.alloc (.cells (cellsW a) 25)) b
      rw [World.size_alloc] at this; exact (this.alloc _).alloc _)
    have hC0 := hid (show ArrW 25 ((((w.alloc (.cells (cellsW a) 25)).alloc (.cells (cellsW b) 25)).alloc (.cells (cellsW d) 25)).alloc (.cells (cellsW 0) 25)) (w.heap.size + 2) d by
      have := ArrW.new 25 ((w.alloc (.cells (cellsW a) 25)).alloc (.cells (cellsW b) 25)) d
      rw [World.size_alloc, World.size_alloc] at this; exact this.alloc _)
    have hD0 := hid (show ArrW 25 ((((w.alloc (.cells (cellsW a) 25)).alloc (.cells (cellsW b) 25)).alloc (.cells (cellsW d) 25)).alloc (.cells (cellsW 0) 25)) (w.heap.size + 3) 0 by
      have := ArrW.new 25 (((w.alloc (.cells (cellsW a) 25)).alloc (.cells (cellsW b) 25)).alloc (.cells (cellsW d) 25)) 0
      rw [World.size_alloc, World.size_alloc, World.size_alloc] at this; exact this)
    have hb0 : Below w.heap.size w ((((w.alloc (.cells (cellsW a) 25)).alloc (.cells (cellsW b) 25)).alloc (.cells (cellsW d) 25)).alloc (.cells (cellsW 0) 25)) := ((((Below.refl _ _).alloc (Nat.le_refl _) _).alloc (by simp) _).alloc (by simp; omega) _).alloc (by simp; omega) _
    go_enter Try.func53, Try.ntmps53
    go_wp2_with (first | (refine wpList_alloc_new rfl 25 rfl (cellsW 0) zWd ?_; simp only [Act.put, pvA, pv0, pv1, World.size_alloc]) | (refine wpList_load_row rfl 25 (.tmp 5) rfl (w.heap.size + 2) rfl 25 _ (0, 0) _ hC0.out uWd rfl iD.out ?_; simp only [Act.put, pvA, pv0, pv1]))
    refine (hZ.out _).mono ?_
    rintro e w1 ⟨rfl, hb1⟩
    have hA1 := hid (hA0.out.below hb1 hA0.out.lt)
    have hB1 := hid (hB0.out.below hb1 hB0.out.lt)
    have hC1 := hid (hC0.out.below hb1 hC0.out.lt)
    have hD1 := hid (hD0.out.below hb1 hD0.out.lt)
    have hb2 := hb0.trans (hb1.mono hb0.size)
    clear hA0 hB0 hC0 hD0 hb0 hb1
    go_wp2_with (first | (refine wpList_load_row rfl 25 (.tmp 3) rfl w.heap.size rfl 25 _ (0, 0) _ hA1.out uWd rfl iA.out ?_; simp only [Act.put, pvA, pv0, pv1]) | (refine wpList_load_row rfl 25 (.tmp 4) rfl (w.heap.size + 1) rfl 25 _ (0, 0) _ hB1.out uWd rfl iB.out ?_; simp only [Act.put, pvA, pv0, pv1]))
    refine (hF.out _).mono ?_
    rintro e w2 ⟨rfl, hb3⟩
    have hC2 := hid ((hC1.out.below hb3 hC1.out.lt).alloc (.cells (cellsM 8 s) 102))
    have hD2 := hid ((hD1.out.below hb3 hD1.out.lt).alloc (.cells (cellsM 8 s) 102))
    have hP2 := hid (ArrM.new 102 8 w2 s)
    have hb4 := hb2.trans (hb3.mono hb2.size)
    have hb5 := hb4.alloc hb4.size (.cells (cellsM 8 s) 102)
    have hsz : w.heap.size + 4 ≤ w2.heap.size := by have h1 := (hD1.out.below hb3 hD1.out.lt).lt; omega
    clear hA1 hB1 hC1 hD1 hb2 hb3
    go_wp2_with (first | (refine wpList_allocStore 102 15 7 (cellsM 8 s) (cellsM 8 0) rfl rfl rfl rfl rfl rfl (by decide) (by simp) rfl (by kernel_rfl) (by rw [size_cellsM, size_cellsM]) iP.out nP.out ?_; simp only [Act.put, pvA, pv0, pv1]))
    have hrd := hid (hP2.out.rd 8 (by omega))
    generalize hw3 : w2.alloc (.cells (cellsM 8 s) 102) = w3 at hC2 hD2 hP2 hb5 hrd ⊢
    have hsz3 : w2.heap.size ≤ w3.heap.size := by rw [← hw3]; simp
    refine wp_region_loose_tail 8 [.kn (.slice (some ⟨w2.heap.size, 0, none⟩) 8 8), .kn (.agg (cellsW (d))), .lo (fun v _ => ∃ q, v = .tuple #[q, .agg (cellsW r)]), .lo (fun v _ => ∃ q, v = .tuple #[q, .agg (cellsW r)]), .lo (fun _ _ => True), .kn (.agg (cellsW (r))), .lo (fun v w => ∃ b, v = .pointer (some ⟨b, 0, none⟩) ∧ ArrW 25 w b 0 ∧ w2.heap.size ≤ b), .lo (fun _ _ => True)] (by kernel_rfl) (by kernel_rfl) (by kernel_rfl) ?_ ?_
    · refine keepsAll_kn (keepsAll_kn (keepsAll_lo (fun _ _ _ h _ => h) (keepsAll_lo (fun _ _ _ h _ => h) (keepsAll_lo (fun _ _ _ h _ => h) (keepsAll_kn (keepsAll_lo ?_ (keepsAll_lo (fun _ _ _ h _ => h) trivial)))))))
      rintro v w w' ⟨b, h1, h2, h3⟩ hb
      exact ⟨b, h1, h2.below hb h2.lt, h3⟩
    simp only [List.take_succ_cons, List.take_zero, List.drop_succ_cons, List.drop_zero]
    (refine loose_step_on rfl (fun W' hB' hd K hK => ?_) ?_; (focus (clear hd; go_simp; exact hK _ _ (Below.refl _ _) rfl)); rintro _ rfl; simp only [Act.put, pvA, pv0, pv1])
    (refine loose_step_on rfl (fun W' hB' hd K hK => wp_load_block 25 (.tmp 5) rfl (w.heap.size + 2) rfl 25 _ _ (ArrW.below hC2.out hB' (ArrW.lt hC2.out)) uWd rfl iD.out (hK _ _ (Below.refl _ _) rfl)) ?_; rintro _ rfl; simp only [Act.put, pvA, pv0, pv1])
    (refine loose_step_on rfl (fun W' hB' hd K hK => ?_) ?_; (focus (clear hd; go_simp; refine (hDv.out _ _ (hrd.out.below hB')).mono ?_; rintro _ _ ⟨gq, rfl, h1, h2, h3⟩; exact hK _ _ h3 ⟨_, rfl⟩)); intro v19 _; simp only [Act.put, pvA, pv0, pv1])
    (refine loose_step_on rfl (fun W' hB' hd K hK => ?_) ?_; (focus (have g19 : ∃ q, v19 = .tuple #[q, .agg (cellsW r)] := hd ⟨2, Ground.data⟩ (by simp) rfl _ 19 rfl rfl (by simp); clear hd; go_simp; exact hK _ _ (Below.refl _ _) g19)); intro v16 _; simp only [Act.put, pvA, pv0, pv1])
    (refine loose_step_on rfl (fun W' hB' hd K hK => ?_) ?_; (focus (have g16 : ∃ q, v16 = .tuple #[q, .agg (cellsW r)] := hd ⟨3, Ground.data⟩ (by simp) rfl _ 16 rfl rfl (by simp); clear hd; obtain ⟨x1, rfl⟩ := g16; go_simp; exact hK _ _ (Below.refl _ _) trivial)); intro v20 _; simp only [Act.put, pvA, pv0, pv1])
    (refine loose_step_on rfl (fun W' hB' hd K hK => ?_) ?_; (focus (have g16 : ∃ q, v16 = .tuple #[q, .agg (cellsW r)] := hd ⟨3, Ground.data⟩ (by simp) rfl _ 16 rfl rfl (by simp); clear hd; obtain ⟨x1, rfl⟩ := g16; go_simp; exact hK _ _ (Below.refl _ _) rfl)); rintro _ rfl; simp only [Act.put, pvA, pv0, pv1])
    (refine loose_step_on rfl (fun W' hB' hd K hK => wp_alloc_new 25 rfl (cellsW 0) zWd (hK _ _ ((Below.refl _ _).alloc (Nat.le_refl _) _) ⟨_, rfl, ArrW.new _ _ _, Nat.le_trans hsz3 hB'.size⟩)) ?_; intro v9 _; simp only [Act.put, pvA, pv0, pv1])
    (refine loose_step_on rfl (fun W' hB' hd K hK => ?_) ?_; (focus (clear hd; go_simp; exact hK _ _ (Below.refl _ _) trivial)); intro v8 _; simp only [Act.put, pvA, pv0, pv1])
    intro w6 hb6 hf
    have g9 : ∃ b, v9 = .pointer (some ⟨b, 0, none⟩) ∧ ArrW 25 w6 b 0 ∧ w2.heap.size ≤ b := hf 6 _ 9 (by first | omega | simp) rfl rfl (by simp)
    clear hf
    obtain ⟨bb, rfl, hR6, hle⟩ := g9
    have hD6 := hid ((hD2.out.below hb6 hD2.out.lt).otherRow (show w.heap.size + 3 ≠ bb by omega) (cellsW r))
    have HR := hid hR6
    have HR2 := hid (hR6.row r)
    have hb7 := below_setRow' (hb5.trans (hb6.mono hb5.size)) bb (by omega) (cellsW r)
    clear hb6 hC2 hD2 hP2 hrd hR6
    go_wp2_with (first | (refine wpList_store_row rfl 25 (.tmp 9) (.tmp 21) rfl bb _ rfl rfl 25 _ HR.out iR.out rfl nR.out ?_; simp only [Act.put]) | (refine wpList_load_row rfl 25 (.tmp 9) rfl bb rfl 25 _ (0, 0) _ HR2.out uWd rfl iR.out ?_; simp only [Act.put, pvA, pv0, pv1]) | (refine wpList_store_row rfl 25 (.tmp 6) (.tmp 22) rfl (w.heap.size + 3) _ rfl rfl 25 _ hD6.out iR.out rfl nR.out ?_; simp only [Act.put]))
    refine bodyPost_ret (results_cell_row rfl _ _ (w.heap.size + 3) 25 (cellsW r) (0, 0) _ rfl (heap_setRow' _ _ _ _ _ hD6.out) uWd rfl iR.out) rfl ⟨rfl, below_setRow' hb7 _ (by omega) _⟩
end Go.Proofs.Ytejnnghfelpioaa
namespace Go.Proofs.Ytejnnghfelpioaa
open Go.RowKit
set_option maxHeartbeats 2000000 in
theorem waddmod_any (a b d : Nat) (w : World) (ha : a < 2 ^ 256) (hb : b < 2 ^ 256) (hd256 : d < 2 ^ 256) : Calls Try.prog 32 #[wd a, wd b, wd d] w fun e w' => e = .returned (wd (modW (a + b) d)) ∧ Below w.heap.size w w' := by
  have hZ := hid (fun w => wzero_any d hd256 w)
  have iA := hid (iW a)
  have iB := hid (iW b)
  have iD := hid (iW d)
  have nD := hid (one_cellsW d)
  by_cases h0 : d = 0
  · have HY := hid (show modW (a + b) d = d by unfold modW; rw [if_pos h0, h0])
    rw [decide_eq_true h0] at hZ
    rw [HY.out]
    clear h0 HY ha hb hd256
    unfold wd at *
    have hA0 := hid (show ArrW 25 ((((w.alloc (.cells (cellsW a) 25)).alloc (.cells (cellsW b) 25)).alloc (.cells (cellsW d) 25)).alloc (.cells (cellsW 0) 25)) w.heap.size a from (((ArrW.new _ w a).alloc _).alloc _).alloc _)
    have hB0 := hid (show ArrW 25 ((((w.alloc (.cells (cellsW a) 25)).alloc (.cells (cellsW b) 25)).alloc (.cells (cellsW d) 25)).alloc (.cells (cellsW 0) 25)) (w.heap.size + 1) b by
      have := ArrW.new 25 (w.alloc (.cells (cellsW a) 25)) b
      rw [World.size_alloc] at this; exact (this.alloc _).alloc _)
    have hC0 := hid (show ArrW 25 ((((w.alloc (.cells (cellsW a) 25)).alloc (.cells (cellsW b) 25)).alloc (.cells (cellsW d) 25)).alloc (.cells (cellsW 0) 25)) (w.heap.size + 2) d by
      have := ArrW.new 25 ((w.alloc (.cells (cellsW a) 25)).alloc (.cells (cellsW b) 25)) d
      rw [World.size_alloc, World.size_alloc] at this; exact this.alloc _)
    have hD0 := hid (show ArrW 25 ((((w.alloc (.cells (cellsW a) 25)).alloc (.cells (cellsW b) 25)).alloc (.cells (cellsW d) 25)).alloc (.cells (cellsW 0) 25)) (w.heap.size + 3) 0 by
      have := ArrW.new 25 (((w.alloc (.cells (cellsW a) 25)).alloc (.cells (cellsW b) 25)).alloc (.cells (cellsW d) 25)) 0
      rw [World.size_alloc, World.size_alloc, World.size_alloc] at this; exact this)
    have hb0 : Below w.heap.size w ((((w.alloc (.cells (cellsW a) 25)).alloc (.cells (cellsW b) 25)).alloc (.cells (cellsW d) 25)).alloc (.cells (cellsW 0) 25)) := ((((Below.refl _ _).alloc (Nat.le_refl _) _).alloc (by simp) _).alloc (by simp; omega) _).alloc (by simp; omega) _
    go_enter Try.func32, Try.ntmps32
    go_wp2_with (first | (refine wpList_alloc_new rfl 25 rfl (cellsW 0) zWd ?_; simp only [Act.put, pvA, pv0, pv1, World.size_alloc]) | (refine wpList_load_row rfl 25 (.tmp 5) rfl (w.heap.size + 2) rfl 25 _ (0, 0) _ hC0.out uWd rfl iD.out ?_; simp only [Act.put, pvA, pv0, pv1]))
    refine (hZ.out _).mono ?_
    rintro e w1 ⟨rfl, hb1⟩
    have hC1 := hid (hC0.out.below hb1 hC0.out.lt)
    have hD1 := hid (hD0.out.below hb1 hD0.out.lt)
    have hb2 := hb0.trans (hb1.mono hb0.size)
    clear hA0 hB0 hC0 hD0 hb0 hb1
    go_wp2_with (first | (refine wpList_load_row rfl 25 (.tmp 5) rfl (w.heap.size + 2) rfl 25 _ (0, 0) _ hC1.out uWd rfl iD.out ?_; simp only [Act.put, pvA, pv0, pv1]) | (refine wpList_store_row rfl 25 (.tmp 6) (.tmp 13) rfl (w.heap.size + 3) _ rfl rfl 25 _ hD1.out iD.out rfl nD.out ?_; simp only [Act.put]))
    refine bodyPost_ret (results_cell_row rfl _ _ (w.heap.size + 3) 25 (cellsW d) (0, 0) _ rfl (heap_setRow' _ _ _ _ _ hD1.out) uWd rfl iD.out) rfl ⟨rfl, below_setRow' hb2 _ (by omega) _⟩
  · have HY := hid (show modW (a + b) d = (a + b) % d by unfold modW; rw [if_neg h0])
    rw [decide_eq_false h0] at hZ
    rw [HY.out]
    have hF := hid (fun w => wsum_any a b w ha hb)
    have hab : a + b < 2 ^ (64 * 5) := by
      have h5 := Nat.pow_add 2 256 64
      rw [show 256 + 64 = 64 * 5 from rfl] at h5
      rw [h5]
      clear h5 hF HY hZ iA iB iD nD
      omega
    have hDv := hid (fun v w hr => divide_any 5 (a + b) d v w hr hab (by omega) (by omega) (Nat.pos_of_ne_zero h0) hd256)
    obtain ⟨s, hs⟩ : ∃ s, s = a + b := ⟨_, rfl⟩
    obtain ⟨r, hr⟩ : ∃ r, r = s % d := ⟨_, rfl⟩
    have hc64 : s / 2 ^ 256 < 2 ^ 64 := by omega
    rw [← hs] at hF hDv ⊢
    rw [← hr] at hDv ⊢
    clear ha hb h0 HY hd256 hab hs hr
    unfold wd at *
    have iR := hid (iW r)
    have nR := hid (one_cellsW r)
    obtain ⟨c, hcc⟩ : ∃ c, c = s / 2 ^ 256 := ⟨_, rfl⟩
    obtain ⟨l, hll⟩ : ∃ l, l = s % 2 ^ 256 := ⟨_, rfl⟩
    have hcells := hid (show cellsM 5 s = (#[.int .u64 (lm l 0), .int .u64 (lm l 1), .int .u64 (lm l 2), .int .u64 (lm l 3), .int .u64 (c : Int)] : Array Value) from by
      have e : ∀ i, i < 4 → lmN l i = lmN s i := fun i hi => by
        rw [hll]
        unfold lmN
        have e1 : (2 : Nat) ^ 256 = 2 ^ (64 * i) * 2 ^ (256 - 64 * i) := by rw [← Nat.pow_add]; congr 1; omega
        have e2 : (2 : Nat) ^ (256 - 64 * i) = 2 ^ 64 * 2 ^ (192 - 64 * i) := by rw [← Nat.pow_add]; congr 1; omega
        rw [e1, Nat.mod_mul_right_div_self, e2, Nat.mod_mul_right_mod]
      have e4 : lmN s 4 = c := by
        rw [hcc]
        unfold lmN
        rw [show 64 * 4 = 256 from rfl]
        exact Nat.mod_eq_of_lt hc64
      unfold lm
      rw [e 0 (by omega), e 1 (by omega), e 2 (by omega), e 3 (by omega), ← e4]
      rfl)
    rw [← hcc, ← hll] at hF
    have iL := hid (iW l)
    have nL := hid (one_cellsW l)
    clear hcc hll
    have hA0 := hid (show ArrW 25 ((((w.alloc (.cells (cellsW a) 25)).alloc (.cells (cellsW b) 25)).alloc (.cells (cellsW d) 25)).alloc (.cells (cellsW 0) 25)) w.heap.size a from (((ArrW.new _ w a).alloc _).alloc _).alloc _)
    have hB0 := hid (show ArrW 25 ((((w.alloc (.cells (cellsW a) 25)).alloc (.cells (cellsW b) 25)).alloc (.cells (cellsW d) 25)).alloc (.cells (cellsW 0) 25)) (w.heap.size + 1) b by
      have := ArrW.new 25 (w.alloc (.cells (cellsW a) 25)) b
      rw [World.size_alloc] at this; exact (this.alloc _).alloc _)
    have hC0 := hid (show ArrW 25 ((((w.alloc (.cells (cellsW a) 25)).alloc (.cells (cellsW b) 25)).alloc (.cells (cellsW d) 25)).alloc (.cells (cellsW 0) 25)) (w.heap.size + 2) d by
      have := ArrW.new 25 ((w.alloc (.cells (cellsW a) 25)).alloc (.cells (cellsW b) 25)) d
      rw [World.size_alloc, World.size_alloc] at this; exact this.alloc _)
    have hD0 := hid (show ArrW 25 ((((w.alloc (.cells (cellsW a) 25)).alloc (.cells (cellsW b) 25)).alloc (.cells (cellsW d) 25)).alloc (.cells (cellsW 0) 25)) (w.heap.size + 3) 0 by
      have := ArrW.new 25 (((w.alloc (.cells (cellsW a) 25)).alloc (.cells (cellsW b) 25)).alloc (.cells (cellsW d) 25)) 0
      rw [World.size_alloc, World.size_alloc, World.size_alloc] at this; exact this)
    have hb0 : Below w.heap.size w ((((w.alloc (.cells (cellsW a) 25)).alloc (.cells (cellsW b) 25)).alloc (.cells (cellsW d) 25)).alloc (.cells (cellsW 0) 25)) := ((((Below.refl _ _).alloc (Nat.le_refl _) _).alloc (by simp) _).alloc (by simp; omega) _).alloc (by simp; omega) _
    go_enter Try.func32, Try.ntmps32
    go_wp2_with (first | (refine wpList_alloc_new rfl 25 rfl (cellsW 0) zWd ?_; simp only [Act.put, pvA, pv0, pv1, World.size_alloc]) | (refine wpList_load_row rfl 25 (.tmp 5) rfl (w.heap.size + 2) rfl 25 _ (0, 0) _ hC0.out uWd rfl iD.out ?_; simp only [Act.put, pvA, pv0, pv1]))
    refine (hZ.out _).mono ?_
    rintro e w1 ⟨rfl, hb1⟩
    have hA1 := hid (hA0.out.below hb1 hA0.out.lt)
    have hB1 := hid (hB0.out.below hb1 hB0.out.lt)
    have hC1 := hid (hC0.out.below hb1 hC0.out.lt)
    have hD1 := hid (hD0.out.below hb1 hD0.out.lt)
    have hb2 := hb0.trans (hb1.mono hb0.size)
    clear hA0 hB0 hC0 hD0 hb0 hb1
    go_wp2_with (first | (refine wpList_load_row rfl 25 (.tmp 3) rfl w.heap.size rfl 25 _ (0, 0) _ hA1.out uWd rfl iA.out ?_; simp only [Act.put, pvA, pv0, pv1]) | (refine wpList_load_row rfl 25 (.tmp 4) rfl (w.heap.size + 1) rfl 25 _ (0, 0) _ hB1.out uWd rfl iB.out ?_; simp only [Act.put, pvA, pv0, pv1]))
    refine (hF.out _).mono ?_
    rintro e w2 ⟨rfl, hb3⟩
    have hC2 := hid ((hC1.out.below hb3 hC1.out.lt).alloc (.cells (cellsW l) 25))
    have hD2 := hid ((hD1.out.below hb3 hD1.out.lt).alloc (.cells (cellsW l) 25))
    have hL2 := hid (ArrW.new 25 w2 l)
    have hb4 := hb2.trans (hb3.mono hb2.size)
    have hb5 := hb4.alloc hb4.size (.cells (cellsW l) 25)
    have hsz : w.heap.size + 4 ≤ w2.heap.size := by have h1 := (hD1.out.below hb3 hD1.out.lt).lt; omega
    clear hA1 hB1 hC1 hD1 hb2 hb3
    have q0 : (cellsW l)[0]? = some (.int .u64 (lm l 0)) := rfl
    have q1 : (cellsW l)[1]? = some (.int .u64 (lm l 1)) := rfl
    have q2 : (cellsW l)[2]? = some (.int .u64 (lm l 2)) := rfl
    have q3 : (cellsW l)[3]? = some (.int .u64 (lm l 3)) := rfl
    have hC3 := hid (hC2.out.alloc (.cells #[.int .u64 (lm l 0), .int .u64 (lm l 1), .int .u64 (lm l 2), .int .u64 (lm l 3), .int .u64 (c : Int)] 23))
    have hD3 := hid (hD2.out.alloc (.cells #[.int .u64 (lm l 0), .int .u64 (lm l 1), .int .u64 (lm l 2), .int .u64 (lm l 3), .int .u64 (c : Int)] 23))
    have hb6 := hb5.alloc hb5.size (.cells #[.int .u64 (lm l 0), .int .u64 (lm l 1), .int .u64 (lm l 2), .int .u64 (lm l 3), .int .u64 (c : Int)] 23)
    have hrd := hid (show RdM ((w2.alloc (.cells (cellsW l) 25)).alloc (.cells #[.int .u64 (lm l 0), .int .u64 (lm l 1), .int .u64 (lm l 2), .int .u64 (lm l 3), .int .u64 (c : Int)] 23)) (.slice (some ⟨w2.heap.size + 1, 0, none⟩) 5 5) 5 s by
      have h := (ArrM.new 23 5 (w2.alloc (.cells (cellsW l) 25)) s).rd 5 (by omega)
      rw [World.size_alloc, hcells.out] at h; exact h)
    clear hb4 hb5 hC2 hD2 hL2 hcells
    go_wp2_with (first | (refine wpList_allocStore 25 18 7 (cellsW l) (cellsW 0) rfl rfl rfl rfl rfl rfl (by decide) (by simp) rfl (by kernel_rfl) rfl iL.out nL.out ?_; simp only [Act.put, pvA, pv0, pv1]) | (refine wpList_load_row rfl 25 (.tmp 5) rfl (w.heap.size + 2) rfl 25 _ (0, 0) _ hC3.out uWd rfl iD.out ?_; simp only [Act.put, pvA, pv0, pv1]))
    refine (hDv.out _ _ hrd.out).mono ?_
    rintro e w5 ⟨gq, rfl, h1, h2, hb7⟩
    have hD4 := hid ((hD3.out.below hb7 hD3.out.lt).alloc (.cells (cellsW 0) 25))
    have hR4 := hid (ArrW.new 25 w5 0)
    have hb8 := hb6.trans (hb7.mono hb6.size)
    have hb9 := hb8.alloc hb8.size (.cells (cellsW 0) 25)
    have hsz5 : w.heap.size + 4 ≤ w5.heap.size := by have h1 := (hD3.out.below hb7 hD3.out.lt).lt; omega
    have hR5 := hid (hR4.out.row r)
    have hD5 := hid (hD4.out.otherRow (show w.heap.size + 3 ≠ w5.heap.size by omega) (cellsW r))
    have hb10 := below_setRow' hb9 w5.heap.size (by omega) (cellsW r)
    clear h1 h2 hb7 hD3 hC3 hrd hb8 hb9 hb6
    go_wp2_with (first | (refine wpList_alloc_new rfl 25 rfl (cellsW 0) zWd ?_; simp only [Act.put, pvA, pv0, pv1, World.size_alloc]) | (refine wpList_store_row rfl 25 (.tmp 10) (.tmp 34) rfl w5.heap.size _ rfl rfl 25 _ hR4.out iR.out rfl nR.out ?_; simp only [Act.put]) | (refine wpList_load_row rfl 25 (.tmp 10) rfl w5.heap.size rfl 25 _ (0, 0) _ hR5.out uWd rfl iR.out ?_; simp only [Act.put, pvA, pv0, pv1]) | (refine wpList_store_row rfl 25 (.tmp 6) (.tmp 35) rfl (w.heap.size + 3) _ rfl rfl 25 _ hD5.out iR.out rfl nR.out ?_; simp only [Act.put]))
    refine bodyPost_ret (results_cell_row rfl _ _ (w.heap.size + 3) 25 (cellsW r) (0, 0) _ rfl (heap_setRow' _ _ _ _ _ hD5.out) uWd rfl iR.out) rfl ⟨rfl, below_setRow' hb10 _ (by omega) _⟩
end Go.Proofs.Ytejnnghfelpioaa
namespace Go.Proofs.Ytejnnghfelpioaa
open Go.RowKit
theorem below_alloc (w : World) (o : Obj) : Below w.heap.size w (w.alloc o) := (Below.refl _ _).alloc (Nat.le_refl _) o
end Go.Proofs.Ytejnnghfelpioaa
namespace Go.Proofs.Ytejnnghfelpioaa
open Go.RowKit
theorem modW_lN (s : Nat) : modW s lN = s % lN := by unfold modW; rw [if_neg (by have := lN_pos; omega)]
set_option maxHeartbeats 1000000 in
theorem ladd_any (a b : Nat) (w : World) (ha : a < 2 ^ 256) (hb : b < 2 ^ 256) : Calls Try.prog 11 #[wd a, wd b] w fun e w' => e = .returned (wd ((a + b) % lN)) ∧ Below w.heap.size w w' := by
  have hL := hid fL_any
  have hM := hid (fun w => waddmod_any a b lN w ha hb lN_lt)
  rw [modW_lN] at hM
  obtain ⟨r, hr⟩ : ∃ r, r = (a + b) % lN := ⟨_, rfl⟩
  rw [← hr] at hM ⊢
  generalize lN = l at *
  clear ha hb hr
  unfold wd at *
  have iA := hid (iW a)
  have iB := hid (iW b)
  have iR := hid (iW r)
  have nR := hid (one_cellsW r)
  have hA0 := hid (show ArrW 25 (((w.alloc (.cells (cellsW a) 25)).alloc (.cells (cellsW b) 25)).alloc (.cells (cellsW 0) 25)) w.heap.size a from ((ArrW.new _ w a).alloc _).alloc _)
  have hB0 := hid (show ArrW 25 (((w.alloc (.cells (cellsW a) 25)).alloc (.cells (cellsW b) 25)).alloc (.cells (cellsW 0) 25)) (w.heap.size + 1) b by
    have := ArrW.new 25 (w.alloc (.cells (cellsW a) 25)) b
    rw [World.size_alloc] at this; exact this.alloc _)
  have hC0 := hid (show ArrW 25 (((w.alloc (.cells (cellsW a) 25)).alloc (.cells (cellsW b) 25)).alloc (.cells (cellsW 0) 25)) (w.heap.size + 2) 0 by
    have := ArrW.new 25 ((w.alloc (.cells (cellsW a) 25)).alloc (.cells (cellsW b) 25)) 0
    rw [World.size_alloc, World.size_alloc] at this; exact this)
  have hb0 : Below w.heap.size w (((w.alloc (.cells (cellsW a) 25)).alloc (.cells (cellsW b) 25)).alloc (.cells (cellsW 0) 25)) := (((Below.refl _ _).alloc (Nat.le_refl _) _).alloc (by simp) _).alloc (by simp; omega) _
  go_enter Try.func11, Try.ntmps11
  go_wp2_with (refine wpList_alloc_new rfl 25 rfl (cellsW 0) zWd ?_; simp only [Act.put, pvA, pv0, pv1, World.size_alloc])
  generalize ((w.alloc (.cells (cellsW a) 25)).alloc (.cells (cellsW b) 25)).alloc (.cells (cellsW 0) 25) = w1 at hA0 hB0 hC0 hb0 ⊢
  ((try simp only [World.size_alloc]); refine wp_region_ext_tail 4 (by kernel_rfl) (by kernel_rfl) ?_; simp only [List.take_succ_cons, List.take_zero, List.drop_succ_cons, List.drop_zero]; (repeat (first | (refine wpQuiet_load_want 25 (.tmp 2) rfl w.heap.size rfl 25 (cellsW _) _ hA0.out uWd rfl iA.out rfl ?_; simp only [Act.put, pvA, pv0, pv1]) | (refine wpQuiet_load_want 25 (.tmp 3) rfl (w.heap.size + 1) rfl 25 (cellsW _) _ hB0.out uWd rfl iB.out rfl ?_; simp only [Act.put, pvA, pv0, pv1]) | go_big_quiet_step (first | (go_at_call 19; with_reducible refine Calls.ext_of (hL.out _)) | (go_at_call 32; with_reducible refine Calls.ext_of (hM.out _))))); refine wpQuiet_nil ?_; rintro _ ⟨xw, rfl⟩)
  have hC1 := hid (hC0.out.ext xw)
  have hb1 := World.ext_below_of hb0 hb0.size xw
  generalize w1.ext xw = w2 at hC1 hb1 ⊢
  clear hA0 hB0 hC0 hb0
  (refine wpList_store_row rfl 25 (.tmp 4) (.tmp 8) rfl (w.heap.size + 2) _ rfl rfl 25 _ hC1.out iR.out rfl nR.out ?_; simp only [Act.put])
  go_wp2
  refine bodyPost_ret (results_cell_row rfl _ _ (w.heap.size + 2) 25 (cellsW r) (0, 0) _ rfl (heap_setRow' _ _ _ _ _ hC1.out) uWd rfl iR.out) rfl ⟨rfl, below_setRow' hb1 _ (by omega) _⟩
set_option maxHeartbeats 1000000 in
theorem lmul_any (a b : Nat) (w : World) (ha : a < 2 ^ 256) (hb : b < 2 ^ 256) : Calls Try.prog 24 #[wd a, wd b] w fun e w' => e = .returned (wd ((a * b) % lN)) ∧ Below w.heap.size w w' := by
  have hL := hid fL_any
  have hM := hid (fun w => wmulmod_any a b lN w ha hb lN_lt)
  rw [modW_lN] at hM
  obtain ⟨r, hr⟩ : ∃ r, r = (a * b) % lN := ⟨_, rfl⟩
  rw [← hr] at hM ⊢
  generalize lN = l at *
  clear ha hb hr
  unfold wd at *
  have iA := hid (iW a)
  have iB := hid (iW b)
  have iR := hid (iW r)
  have nR := hid (one_cellsW r)
  have hA0 := hid (show ArrW 25 (((w.alloc (.cells (cellsW a) 25)).alloc (.cells (cellsW b) 25)).alloc (.cells (cellsW 0) 25)) w.heap.size a from ((ArrW.new _ w a).alloc _).alloc _)
  have hB0 := hid (show ArrW 25 (((w.alloc (.cells (cellsW a) 25)).alloc (.cells (cellsW b) 25)).alloc (.cells (cellsW 0) 25)) (w.heap.size + 1) b by
    have := ArrW.new 25 (w.alloc (.cells (cellsW a) 25)) b
    rw [World.size_alloc] at this; exact this.alloc _)
  have hC0 := hid (show ArrW 25 (((w.alloc (.cells (cellsW a) 25)).alloc (.cells (cellsW b) 25)).alloc (.cells (cellsW 0) 25)) (w.heap.size + 2) 0 by
    have := ArrW.new 25 ((w.alloc (.cells (cellsW a) 25)).alloc (.cells (cellsW b) 25)) 0
    rw [World.size_alloc, World.size_alloc] at this; exact this)
  have hb0 : Below w.heap.size w (((w.alloc (.cells (cellsW a) 25)).alloc (.cells (cellsW b) 25)).alloc (.cells (cellsW 0) 25)) := (((Below.refl _ _).alloc (Nat.le_refl _) _).alloc (by simp) _).alloc (by simp; omega) _
  go_enter Try.func24, Try.ntmps24
  go_wp2_with (refine wpList_alloc_new rfl 25 rfl (cellsW 0) zWd ?_; simp only [Act.put, pvA, pv0, pv1, World.size_alloc])
  generalize ((w.alloc (.cells (cellsW a) 25)).alloc (.cells (cellsW b) 25)).alloc (.cells (cellsW 0) 25) = w1 at hA0 hB0 hC0 hb0 ⊢
  ((try simp only [World.size_alloc]); refine wp_region_ext_tail 4 (by kernel_rfl) (by kernel_rfl) ?_; simp only [List.take_succ_cons, List.take_zero, List.drop_succ_cons, List.drop_zero]; (repeat (first | (refine wpQuiet_load_want 25 (.tmp 2) rfl w.heap.size rfl 25 (cellsW _) _ hA0.out uWd rfl iA.out rfl ?_; simp only [Act.put, pvA, pv0, pv1]) | (refine wpQuiet_load_want 25 (.tmp 3) rfl (w.heap.size + 1) rfl 25 (cellsW _) _ hB0.out uWd rfl iB.out rfl ?_; simp only [Act.put, pvA, pv0, pv1]) | go_big_quiet_step (first | (go_at_call 19; with_reducible refine Calls.ext_of (hL.out _)) | (go_at_call 53; with_reducible refine Calls.ext_of (hM.out _))))); refine wpQuiet_nil ?_; rintro _ ⟨xw, rfl⟩)
  have hC1 := hid (hC0.out.ext xw)
  have hb1 := World.ext_below_of hb0 hb0.size xw
  generalize w1.ext xw = w2 at hC1 hb1 ⊢
  clear hA0 hB0 hC0 hb0
  (refine wpList_store_row rfl 25 (.tmp 4) (.tmp 8) rfl (w.heap.size + 2) _ rfl rfl 25 _ hC1.out iR.out rfl nR.out ?_; simp only [Act.put])
  go_wp2
  refine bodyPost_ret (results_cell_row rfl _ _ (w.heap.size + 2) 25 (cellsW r) (0, 0) _ rfl (heap_setRow' _ _ _ _ _ hC1.out) uWd rfl iR.out) rfl ⟨rfl, below_setRow' hb1 _ (by omega) _⟩
def leN (ys : List (BitVec 8)) : Nat := num (ys.map fun y => y.toNat)
theorem le_dig (ys : List (BitVec 8)) : Dig (ys.map fun y => y.toNat) := fun d hd => by
  obtain ⟨y, _, rfl⟩ := List.mem_map.1 hd
  exact y.isLt
theorem le_nd (ys : List (BitVec 8)) (i : Nat) : ((nd (ys.map fun y => y.toNat) i : Nat) : Int) = yv (ny ys i) := by
  unfold nd ny yv
  rw [List.getD_eq_getElem?_getD, List.getD_eq_getElem?_getD, List.getElem?_map]
  cases ys[i]? <;> rfl
theorem leN_lt (ys : List (BitVec 8)) (h : ys.length ≤ 32) : leN ys < 2 ^ 256 := by
  have h1 := num_lt _ (le_dig ys)
  have h2 : 256 ^ (ys.map fun y => y.toNat).length ≤ 256 ^ 32 := Nat.pow_le_pow_right (by omega) (by rw [List.length_map]; exact h)
  rw [pow256_32] at h2
  exact Nat.lt_of_lt_of_le h1 h2
set_option maxHeartbeats 2000000 in
theorem little_any (ys : List (BitVec 8)) (v : Value) (w : World) (hr : RdY w v ys) (hl : ys.length ≤ 32) : Calls Try.prog 59 #[v] w fun e w' => e = .returned (wd (leN ys)) ∧ Below w.heap.size w w' := by
  obtain ⟨a, cap, rfl, hc, hx⟩ := hr
  have HX := hid hx
  obtain ⟨l, hL⟩ : ∃ l, l = ys.map fun y => y.toNat := ⟨_, rfl⟩
  have hD : Dig l := by rw [hL]; exact le_dig ys
  have hnd : ∀ i, ((nd l i : Nat) : Int) = yv (ny ys i) := fun i => by rw [hL]; exact le_nd ys i
  have hll : l.length = ys.length := by rw [hL, List.length_map]
  have HLE := hid (show leN ys = num l by rw [hL]; rfl)
  rw [HLE.out]
  have HD := hid hD
  have HND := hid hnd
  clear hx hL hD hnd HLE
  unfold wd
  have hA0 := hid (ArrW.new 25 w 0)
  have hb0 : Below w.heap.size w (w.alloc (.cells (cellsW 0) 25)) := (Below.refl _ _).alloc (Nat.le_refl _) _
  go_enter Try.func59, Try.ntmps59
  go_wp2_with (refine wpList_alloc_new rfl 25 rfl (cellsW 0) zWd ?_; simp only [Act.put, pvA, pv0, pv1, World.size_alloc])
  generalize w.alloc (.cells (cellsW 0) 25) = w1 at hA0 hb0 ⊢
  go_loopw [7] (fun iv wr => ∃ i : Nat, i ≤ ys.length ∧ iv = .int .i64 (i : Int) ∧ Hid (ArrW 25 wr w.heap.size (num (l.take i))) ∧ Below w.heap.size w wr)
    (fun iv _ => ys.length - (intOf iv).toNat)
  case atStart => exact ⟨0, by omega, rfl, hA0, hb0⟩
  case round =>
    clear hA0 hb0
    obtain ⟨i, hi, rfl, hA, hb⟩ := hrel
    by_cases hlt : i < ys.length
    · obtain ⟨b, off, rfl, hbl, hcell⟩ := HX.out (by intro e; subst e; simp at hlt)
      have cx := (hb.cell (p := ⟨b, off + i, none⟩) hbl).trans (hcell i hlt)
      have gx := nd_dig HD.out i
      have c1 := hA.out.cell (i / 8) (by omega)
      have f1 := hA.out.free (i / 8)
      have l1 := hA.out.lt
      have lb : b < wr.heap.size := Nat.lt_of_lt_of_le hbl hb.size
      have hsh : (8 * ((i : Int) % 8)).toNat = 8 * (i % 8) := by omega
      have hxl := num_take_lt l HD.out i
      have hq := cellsW_add (num (l.take i)) (nd l i) i hxl gx (by omega)
      have hn := hid (show num (l.take (i + 1)) = num (l.take i) + 256 ^ i * nd l i from num_take_succ l i)
      have hle : nd l i * 2 ^ (8 * (i % 8)) < 18446744073709551616 := by
        have h1 : 2 ^ (8 * (i % 8)) ≤ 2 ^ 56 := Nat.pow_le_pow_right (by omega) (by omega)
        have h2 : nd l i * 2 ^ (8 * (i % 8)) ≤ 255 * 2 ^ 56 := Nat.mul_le_mul (by omega) h1
        omega
      have hv : bits .or .u64 (lm (num (l.take i)) (i / 8)) (IntKind.u64.wrap (((nd l i : Nat) : Int) * 2 ^ (8 * (i % 8)))) = ((lmN (num (l.take i)) (i / 8) ||| nd l i * 2 ^ (8 * (i % 8)) : Nat) : Int) := by
        rw [show ((nd l i : Nat) : Int) * 2 ^ (8 * (i % 8)) = ((nd l i * 2 ^ (8 * (i % 8)) : Nat) : Int) by rw [Int.natCast_mul, Int.natCast_pow]; rfl]
        rw [show IntKind.u64.wrap ((nd l i * 2 ^ (8 * (i % 8)) : Nat) : Int) = ((nd l i * 2 ^ (8 * (i % 8)) : Nat) : Int) by rw [IntKind.wrap_u64]; omega]
        exact u64_or_nat _ _ (lmN_lt _ _) hle
      rw [← HND.out i] at cx
      have HV := hid hv
      have HQ := hid hq
      clear hq hv hle hxl hcell
      obtain ⟨d, hd⟩ : ∃ d, d = nd l i := ⟨_, rfl⟩
      rw [← hd] at cx HV HQ hn gx
      clear hd
      go_wp2_with fail
      (refine wp_region_ext_tail 12 (by kernel_rfl) (by kernel_rfl) ?_; simp only [List.take_succ_cons, List.take_zero, List.drop_succ_cons, List.drop_zero]; (repeat (go_big_quiet_step (first | fail))); refine wpQuiet_nil ?_; rintro _ ⟨xw, rfl⟩)
      go_wp2
      go_roundw
      case rel =>
        rw [HV.out]
        refine ⟨i + 1, by omega, by go_num, hid ?_, (World.ext_below_of hb hb.size xw).setCell (p := ⟨w.heap.size, i / 8, none⟩) (Nat.le_refl _) _⟩
        rw [hn.out]
        exact (hA.out.ext xw).set _ _ HQ.out
      case measure => simp [intOf]; omega
    · obtain rfl : i = ys.length := by omega
      rw [List.take_of_length_le (by omega)] at hA
      obtain ⟨y, hy⟩ : ∃ y, y = num l := ⟨_, rfl⟩
      rw [← hy] at hA
      have HY := hid hy
      have iY := hid (iW y)
      have nY := hid (one_cellsW y)
      clear hy
      go_wp2_with (first | (refine wpList_load_row rfl 25 (.tmp 2) rfl w.heap.size rfl 25 _ (0, 0) _ hA.out uWd rfl iY.out ?_; simp only [Act.put, pvA, pv0, pv1]) | (refine wpList_store_row rfl 25 (.tmp 2) (.tmp 25) rfl w.heap.size _ rfl rfl 25 _ hA.out iY.out rfl nY.out ?_; simp only [Act.put]))
      refine bodyPost_ret (results_cell_row rfl _ _ w.heap.size 25 (cellsW y) (0, 0) _ rfl (heap_setRow' _ _ _ _ _ hA.out) uWd rfl iY.out) rfl ⟨by rw [HY.out], below_setRow' hb _ (Nat.le_refl _) _⟩
def fdN (m : Nat) (ys : List (BitVec 8)) : Nat := if ys.length = 32 ∧ leN ys < m then leN ys else 0
def fdE (m : Nat) (ys : List (BitVec 8)) : Int := if ys.length = 32 then (if leN ys < m then 0 else 20) else 1
theorem fdN_lt (m : Nat) (ys : List (BitVec 8)) : fdN m ys < 2 ^ 256 := by
  unfold fdN; split
  · rename_i h; exact leN_lt ys (by omega)
  · exact Nat.pow_pos (by omega)
set_option maxHeartbeats 2000000 in
theorem fread_any (ys : List (BitVec 8)) (m : Nat) (v : Value) (w : World) (hr : RdY w v ys) (hm : m < 2 ^ 256) : Calls Try.prog 31 #[v, wd m] w fun e w' => e = .returned (.tuple #[wd (fdN m ys), .int .i64 (fdE m ys)]) ∧ Below w.heap.size w w' := by
  have iM := hid (iW m)
  have iZ := hid (iW 0)
  have nZ := hid (one_cellsW 0)
  have hBn := hid nil_built
  have HM := hid hm
  clear hm
  have hA0 := hid (show ArrW 25 ((w.alloc (.cells (cellsW m) 25)).alloc (.cells (cellsW 0) 25)) w.heap.size m from (ArrW.new _ w m).alloc _)
  have hC0 := hid (show ArrW 25 ((w.alloc (.cells (cellsW m) 25)).alloc (.cells (cellsW 0) 25)) (w.heap.size + 1) 0 by
    have := ArrW.new 25 (w.alloc (.cells (cellsW m) 25)) 0
    rw [World.size_alloc] at this; exact this)
  have hb0 : Below w.heap.size w ((w.alloc (.cells (cellsW m) 25)).alloc (.cells (cellsW 0) 25)) := ((Below.refl _ _).alloc (Nat.le_refl _) _).alloc (by simp) _
  have hv0 := hid (hr.below hb0)
  clear hr
  obtain ⟨a, cap, rfl, hc, hx⟩ := hv0.out
  have HX := hid hx
  clear hx
  unfold wd
  by_cases hlen : ys.length = 32
  · have hll : (ys.length : Int) = 32 := by omega
    have HLt := hid (leN_lt ys (by omega))
    have hL := hid (fun w h => little_any ys (.slice a ys.length cap) w h (by omega))
    have HN := hid (show fdN m ys = if leN ys < m then leN ys else 0 by unfold fdN; simp only [hlen, true_and])
    have HE := hid (show fdE m ys = if leN ys < m then 0 else 20 by unfold fdE; rw [if_pos hlen])
    have hC := hid (fun w => wcmp_any (leN ys) m w HLt.out HM.out)
    obtain ⟨x, hx⟩ : ∃ x, x = leN ys := ⟨_, rfl⟩
    rw [← hx] at HN HE hL hC
    rw [hlen] at hL hv0
    have HV := hid hlen
    have hcond : ((x < m) ∧ cmpI x m < 0) ∨ (¬ x < m ∧ 0 ≤ cmpI x m) := by
      have := cmpI_neg x m
      by_cases h : x < m
      · exact .inl ⟨h, this.2 h⟩
      · exact .inr ⟨h, by omega⟩
    obtain ⟨c, hcc⟩ : ∃ c, c = cmpI x m := ⟨_, rfl⟩
    rw [← hcc] at hC hcond
    unfold wd at *
    have iX := hid (iW x)
    have nX := hid (one_cellsW x)
    clear hx hcc HLt
    rw [hlen]
    clear hlen hll
    go_enter Try.func31, Try.ntmps31
    go_wp2_with (refine wpList_alloc_new rfl 25 rfl (cellsW 0) zWd ?_; simp only [Act.put, pvA, pv0, pv1, World.size_alloc])
    refine (hL.out _ hv0.out).mono ?_
    rintro e w1 ⟨rfl, hb1⟩
    have hA1 := hid ((hA0.out.below hb1 hA0.out.lt).alloc (.cells (cellsW x) 25))
    have hC1 := hid ((hC0.out.below hb1 hC0.out.lt).alloc (.cells (cellsW x) 25))
    have hX1 := hid (ArrW.new 25 w1 x)
    have hb2 := hb0.trans (hb1.mono hb0.size)
    have hb3 := hb2.alloc hb2.size (.cells (cellsW x) 25)
    have hsz : w.heap.size + 2 ≤ w1.heap.size := by have := (hC0.out.below hb1 hC0.out.lt).lt; omega
    clear hA0 hC0 hb0 hb1 hb2 hv0
    obtain ⟨G, hG⟩ : ∃ G, G = w1.heap.size := ⟨_, rfl⟩
    go_wp2_with (first | (refine wpList_allocStore 25 12 6 (cellsW x) (cellsW 0) rfl rfl rfl rfl rfl rfl (by decide) (by simp) rfl (by kernel_rfl) rfl iX.out nX.out ?_; simp only [Act.put, pvA, pv0, pv1]) | (refine wpList_load_row rfl 25 (.tmp 6) rfl w1.heap.size rfl 25 _ (0, 0) _ hX1.out uWd rfl iX.out ?_; simp only [Act.put, pvA, pv0, pv1]) | (refine wpList_load_row rfl 25 (.tmp 3) rfl w.heap.size rfl 25 _ (0, 0) _ hA1.out uWd rfl iM.out ?_; simp only [Act.put, pvA, pv0, pv1]))
    rw [← hG] at hX1 hsz ⊢
    generalize w1.alloc (.cells (cellsW x) 25) = w2 at hA1 hC1 hX1 hb3 ⊢
    clear hG
    refine (hC.out _).mono ?_
    rintro e w3 ⟨rfl, hb4⟩
    have hC2 := hid (hC1.out.below hb4 hC1.out.lt)
    have hX2 := hid (hX1.out.below hb4 hX1.out.lt)
    have hb5 := hb3.trans (hb4.mono hb3.size)
    clear hA1 hC1 hX1 hb3 hb4
    rcases hcond with ⟨h1, h2⟩ | ⟨h1, h2⟩
    · have H1 := hid h1
      clear h1
      go_wp2_with (first | (refine wpList_load_row rfl 25 (.tmp 6) rfl G rfl 25 _ (0, 0) _ hX2.out uWd rfl iX.out ?_; simp only [Act.put, pvA, pv0, pv1]) | (refine wpList_store_row rfl 25 (.tmp 4) (.tmp 18) rfl (w.heap.size + 1) _ rfl rfl 25 _ hC2.out iX.out rfl nX.out ?_; simp only [Act.put]))
      refine bodyPost_ret (results_row_tmp rfl _ _ (w.heap.size + 1) 25 (cellsW x) (0, 0) _ rfl (heap_setRow' _ _ _ _ _ hC2.out) uWd rfl iX.out) rfl ⟨by rw [HN.out, HE.out, if_pos H1.out, if_pos H1.out]; rfl, below_setRow' hb5 _ (by omega) _⟩
    · have H1 := hid h1
      clear h1
      go_wp2_with (refine wpList_buildStore 25 _ (.tmp 4) 17 (cellsW 0) _ rfl rfl rfl rfl rfl rfl (by simp) (by first | exact hBn.out | (simp only [List.map_toArray, List.map_cons, List.map_nil]; exact hBn.out)) rfl 25 _ hC2.out iZ.out rfl nZ.out ?_; simp only [Act.put, pvA, pv0, pv1])
      refine bodyPost_ret (results_row_tmp rfl _ _ (w.heap.size + 1) 25 (cellsW 0) (0, 0) _ rfl (heap_setRow' _ _ _ _ _ hC2.out) uWd rfl iZ.out) rfl ⟨by rw [HN.out, HE.out, if_neg H1.out, if_neg H1.out]; rfl, below_setRow' hb5 _ (by omega) _⟩
  · have hll : ¬ (ys.length : Int) = 32 := by omega
    have HN := hid (show fdN m ys = 0 by unfold fdN; rw [if_neg (fun h => hlen h.1)])
    have HE := hid (show fdE m ys = 1 by unfold fdE; rw [if_neg hlen])
    rw [HN.out, HE.out]
    clear hlen
    go_enter Try.func31, Try.ntmps31
    go_wp2_with (first | (refine wpList_alloc_new rfl 25 rfl (cellsW 0) zWd ?_; simp only [Act.put, pvA, pv0, pv1, World.size_alloc]) | (refine wpList_buildStore 25 _ (.tmp 4) 10 (cellsW 0) _ rfl rfl rfl rfl rfl rfl (by simp) (by first | exact hBn.out | (simp only [List.map_toArray, List.map_cons, List.map_nil]; exact hBn.out)) rfl 25 _ hC0.out iZ.out rfl nZ.out ?_; simp only [Act.put, pvA, pv0, pv1]))
    refine bodyPost_ret (results_row_tmp rfl _ _ (w.heap.size + 1) 25 (cellsW 0) (0, 0) _ rfl (heap_setRow' _ _ _ _ _ hC0.out) uWd rfl iZ.out) rfl ⟨rfl, below_setRow' hb0 _ (by omega) _⟩
set_option maxHeartbeats 1000000 in
theorem fRead_any (ys : List (BitVec 8)) (v : Value) (w : World) (hr : RdY w v ys) : Calls Try.prog 33 #[v] w fun e w' => e = .returned (.tuple #[wd (fdN pN ys), .int .i64 (fdE pN ys)]) ∧ Below w.heap.size w w' := by
  have hP := hid fP_any
  have hR := hid (fun w h => fread_any ys pN v w h pN_lt)
  obtain ⟨x, hx⟩ : ∃ x, x = fdN pN ys := ⟨_, rfl⟩
  obtain ⟨y, hy⟩ : ∃ y, y = fdE pN ys := ⟨_, rfl⟩
  rw [← hx, ← hy] at hR ⊢
  generalize pN = k at *
  clear hx hy
  unfold wd at *
  have iX := hid (iW x)
  have nX := hid (one_cellsW x)
  have hC0 := hid (ArrW.new 25 w 0)
  have hb0 : Below w.heap.size w (w.alloc (.cells (cellsW 0) 25)) := (Below.refl _ _).alloc (Nat.le_refl _) _
  have hv0 := hid (hr.below hb0)
  clear hr
  go_enter Try.func33, Try.ntmps33
  go_wp2_with (refine wpList_alloc_new rfl 25 rfl (cellsW 0) zWd ?_; simp only [Act.put, pvA, pv0, pv1, World.size_alloc])
  refine (hP.out _).mono ?_
  rintro e w1 ⟨rfl, hb1⟩
  have hC1 := hid (hC0.out.below hb1 hC0.out.lt)
  have hv1 := hid (hv0.out.below hb1)
  have hb2 := hb0.trans (hb1.mono hb0.size)
  clear hC0 hv0 hb0 hb1
  go_wp2_with fail
  refine (hR.out _ hv1.out).mono ?_
  rintro e w2 ⟨rfl, hb3⟩
  have hC2 := hid (hC1.out.below hb3 hC1.out.lt)
  have hb4 := hb2.trans (hb3.mono hb2.size)
  clear hC1 hv1 hb2 hb3
  go_wp2_with (refine wpList_store_row rfl 25 (.tmp 2) (.tmp 7) rfl w.heap.size _ rfl rfl 25 _ hC2.out iX.out rfl nX.out ?_; simp only [Act.put])
  refine bodyPost_ret (results_row_tmp rfl _ _ w.heap.size 25 (cellsW x) (0, 0) _ rfl (heap_setRow' _ _ _ _ _ hC2.out) uWd rfl iX.out) rfl ⟨rfl, below_setRow' hb4 _ (Nat.le_refl _) _⟩
set_option maxHeartbeats 1000000 in
theorem fLread_any (ys : List (BitVec 8)) (v : Value) (w : World) (hr : RdY w v ys) : Calls Try.prog 10 #[v] w fun e w' => e = .returned (.tuple #[wd (fdN lN ys), .int .i64 (fdE lN ys)]) ∧ Below w.heap.size w w' := by
  have hP := hid fL_any
  have hR := hid (fun w h => fread_any ys lN v w h lN_lt)
  obtain ⟨x, hx⟩ : ∃ x, x = fdN lN ys := ⟨_, rfl⟩
  obtain ⟨y, hy⟩ : ∃ y, y = fdE lN ys := ⟨_, rfl⟩
  rw [← hx, ← hy] at hR ⊢
  generalize lN = k at *
  clear hx hy
  unfold wd at *
  have iX := hid (iW x)
  have nX := hid (one_cellsW x)
  have hC0 := hid (ArrW.new 25 w 0)
  have hb0 : Below w.heap.size w (w.alloc (.cells (cellsW 0) 25)) := (Below.refl _ _).alloc (Nat.le_refl _) _
  have hv0 := hid (hr.below hb0)
  clear hr
  go_enter Try.func10, Try.ntmps10
  go_wp2_with (refine wpList_alloc_new rfl 25 rfl (cellsW 0) zWd ?_; simp only [Act.put, pvA, pv0, pv1, World.size_alloc])
  refine (hP.out _).mono ?_
  rintro e w1 ⟨rfl, hb1⟩
  have hC1 := hid (hC0.out.below hb1 hC0.out.lt)
  have hv1 := hid (hv0.out.below hb1)
  have hb2 := hb0.trans (hb1.mono hb0.size)
  clear hC0 hv0 hb0 hb1
  go_wp2_with fail
  refine (hR.out _ hv1.out).mono ?_
  rintro e w2 ⟨rfl, hb3⟩
  have hC2 := hid (hC1.out.below hb3 hC1.out.lt)
  have hb4 := hb2.trans (hb3.mono hb2.size)
  clear hC1 hv1 hb2 hb3
  go_wp2_with (refine wpList_store_row rfl 25 (.tmp 2) (.tmp 7) rfl w.heap.size _ rfl rfl 25 _ hC2.out iX.out rfl nX.out ?_; simp only [Act.put])
  refine bodyPost_ret (results_row_tmp rfl _ _ w.heap.size 25 (cellsW x) (0, 0) _ rfl (heap_setRow' _ _ _ _ _ hC2.out) uWd rfl iX.out) rfl ⟨rfl, below_setRow' hb4 _ (Nat.le_refl _) _⟩
end Go.Proofs.Ytejnnghfelpioaa
namespace Go.Proofs.Ytejnnghfelpioaa
open Go.RowKit
def flN (ys : List (BitVec 8)) : Nat := if 64 < ys.length then 0 else leN ys % lN
def flE (ys : List (BitVec 8)) : Int := if 64 < ys.length then 1 else 0
end Go.Proofs.Ytejnnghfelpioaa
namespace Go.Proofs.Ytejnnghfelpioaa
open Go.RowKit
def leL (x : Nat) : List (BitVec 8) := (List.range 32).map fun i => b8 (x / 256 ^ i)
theorem leL_len (x : Nat) : (leL x).length = 32 := by simp [leL]
def lsY (x : Nat) : Nat → List (BitVec 8)
  | 0 => List.replicate 32 0
  | i + 1 => (lsY x i).set i (b8 (x / 256 ^ i))
theorem lsY_len (x i : Nat) : (lsY x i).length = 32 := by induction i <;> simp [lsY, *]
theorem lsY_at (x i j : Nat) (hi : i ≤ 32) (hj : j < 32) : (lsY x i)[j]? = some (if j < i then b8 (x / 256 ^ j) else 0) := by
  induction i with
  | zero => rw [if_neg (by omega)]; unfold lsY; rw [List.getElem?_replicate, if_pos hj]
  | succ i ih =>
    rw [lsY, List.getElem?_set, lsY_len]
    by_cases h : i = j
    · rw [if_pos h, if_pos (by omega), if_pos (by omega), h]
    · rw [if_neg h, ih (by omega)]
      by_cases h2 : j < i
      · rw [if_pos h2, if_pos (by omega)]
      · rw [if_neg h2, if_neg (by omega)]
theorem lsY_end (x : Nat) : lsY x 32 = leL x := by
  apply List.ext_getElem?
  intro j
  rcases Nat.lt_or_ge j 32 with hj | hj
  · rw [lsY_at x 32 j (by omega) hj, if_pos hj]; simp [leL, hj]
  · rw [List.getElem?_eq_none (by rw [lsY_len]; exact hj), List.getElem?_eq_none (by rw [leL_len]; exact hj)]
set_option maxHeartbeats 2000000 in
theorem fbytes_any (a : Nat) (w : World) (ha : a < 2 ^ 256) : Calls Try.prog 25 #[wd a] w fun e w' => ∃ v', e = .returned v' ∧ RdY w' v' (leL (a % pN)) ∧ Below w.heap.size w w' := by
  have hBl := hid (fun w => below_any a w ha)
  have hmk : ∀ w : World, (Instr.makeSlice 22 (.int .i64 32) (.int .i64 32)).run Try.prog w = .ok (.slice (some ⟨w.heap.size, 0, none⟩) 32 32) (w.alloc (.cells (cellsY (lsY 0 0)) 5)) := mkY 32 (by omega)
  obtain ⟨x, hx⟩ : ∃ x, x = a % pN := ⟨_, rfl⟩
  rw [← hx] at hBl ⊢
  have hend := hid (lsY_end x)
  clear ha hx
  unfold wd at *
  have iA := hid (iW a)
  have iX := hid (iW x)
  have nX := hid (one_cellsW x)
  have hA0 := hid (ArrW.new 25 w a)
  have hb0 : Below w.heap.size w (w.alloc (.cells (cellsW a) 25)) := (Below.refl _ _).alloc (Nat.le_refl _) _
  go_enter Try.func25, Try.ntmps25
  go_wp2_with (refine wpList_load_row rfl 25 (.tmp 1) rfl w.heap.size rfl 25 _ (0, 0) _ hA0.out uWd rfl iA.out ?_; simp only [Act.put, pvA, pv0, pv1])
  refine (hBl.out _).mono ?_
  rintro e w1 ⟨rfl, hb1⟩
  have hA1 := hid (hA0.out.step hb1)
  have hA2 := hid ((hA1.out.row x).alloc (.cells (cellsY (lsY 0 0)) 5))
  have hY2 := hid (ArrY.new 5 (w1.setRow w.heap.size (cellsW x)) (lsY 0 0))
  have hb2 := hb0.trans (hb1.mono hb0.size)
  have hb3 := below_setRow' hb2 w.heap.size (Nat.le_refl _) (cellsW x)
  have hb4 := hb3.alloc hb3.size (.cells (cellsY (lsY 0 0)) 5)
  have hsz : w.heap.size + 1 ≤ (w1.setRow w.heap.size (cellsW x)).heap.size := (hA1.out.row x).lt
  have hsr : (w1.setRow w.heap.size (cellsW x)).heap.size = w1.heap.size := by simp [World.setRow]
  rw [hsr] at hY2 hsz
  obtain ⟨G, hG⟩ : ∃ G, G = w1.heap.size := ⟨_, rfl⟩
  have HG := hid hG
  have HSR := hid hsr
  clear hG hsr
  go_wp2_with (refine wpList_store_row rfl 25 (.tmp 1) (.tmp 6) rfl w.heap.size _ rfl rfl 25 _ hA1.out iX.out (by rw [size_cellsW, size_cellsW]) nX.out ?_; simp only [Act.put])
  (try rw [HSR.out])
  rw [← HG.out] at hY2 hsz ⊢
  generalize (w1.setRow w.heap.size (cellsW x)).alloc (.cells (cellsY (lsY 0 0)) 5) = w3 at hA2 hY2 hb4 ⊢
  clear hA0 hb0 hb1 hA1 hb2 hb3 HG HSR
  have hY3 := hid (show ArrY 5 w3 G (lsY x 0) from hY2.out)
  go_loopw [10] (fun iv wr => ∃ i : Nat, i ≤ 32 ∧ iv = .int .i64 (i : Int) ∧ Hid (ArrW 25 wr w.heap.size x) ∧ Hid (ArrY 5 wr G (lsY x i)) ∧ Below w.heap.size w wr)
    (fun iv _ => 32 - (intOf iv).toNat)
  case atStart => exact ⟨0, by omega, rfl, hA2, hY3, hb4⟩
  case round =>
    clear hA2 hY2 hY3 hb4
    obtain ⟨i, hi, rfl, hA, hY, hb⟩ := hrel
    by_cases hlt : i < 32
    · have c1 := hA.out.cell (i / 8) (by omega)
      have c2 := hY.out.cell i (by rw [lsY_len]; omega)
      have f2 := hY.out.free i
      have l1 := hA.out.lt
      have l2 := hY.out.lt
      have n1 := lm_nonneg x (i / 8)
      have n2 := lm_lt x (i / 8)
      have hV := hid (lm_b8 x i hlt)
      have hsh : (8 * ((i : Int) % 8)).toNat = 8 * (i % 8) := by omega
      go_wp2
      go_roundw
      case rel =>
        rw [hV.out]
        exact ⟨i + 1, by omega, by go_num, hid (hA.out.other (by show w.heap.size ≠ G; omega) _), hid (hY.out.set _ _), hb.setCell (p := ⟨G, i, none⟩) (by show w.heap.size ≤ G; omega) _⟩
      case measure => simp [intOf]; omega
    · obtain rfl : i = 32 := by omega
      have hE := hY.out
      rw [hend.out] at hE
      have hR := hid (hE.rd 32 (by rw [leL_len]; exact Nat.le_refl _))
      rw [leL_len] at hR
      clear hY hE
      go_wp2
      go_ret
      exact ⟨_, rfl, hR.out, hb⟩
def valY (ys : List (BitVec 8)) : List Value := ys.map fun y => Value.int .u8 (yv y)
end Go.Proofs.Ytejnnghfelpioaa
namespace Go.Proofs.Ytejnnghfelpioaa
open Go.RowKit
def pmF (a : Nat) : Nat → Nat → Nat
  | 0, _ => 1
  | f + 1, e => if e = 0 then 1 else (fun h => if e % 2 = 1 then h * h % pN * a % pN else h * h % pN) (pmF a f (e / 2))
theorem pmF_eq (a : Nat) : ∀ f e, e < 2 ^ f → pmF a f e = powP a e
  | 0, e, h => by
    have : e = 0 := by simpa using h
    subst this; rw [powP_zero]; rfl
  | f + 1, e, h => by
    rw [pmF]
    by_cases h0 : e = 0
    · rw [if_pos h0, h0, powP_zero]
    · rw [if_neg h0, pmF_eq a f (e / 2) (by rw [Nat.pow_succ] at h; omega)]
      show (if e % 2 = 1 then powP a (e / 2) * powP a (e / 2) % pN * a % pN else powP a (e / 2) * powP a (e / 2) % pN) = powP a e
      rw [powP_double]
      by_cases h1 : e % 2 = 1
      · rw [if_pos h1, powP_succ]; congr 1; omega
      · rw [if_neg h1]; congr 1; omega
theorem pow2 (a e : Nat) (h : e < 2 ^ 256) : powP a e = pmF a 256 e := (pmF_eq a 256 e h).symm
theorem pow_i : powP 2 (pN / 4) = 19681161376707505956807079304988542015446066515923890162744021073123829784752 := by
  rw [pow2 2 _ (show pN / 4 < 2 ^ 256 by decide +kernel)]; decide +kernel
end Go.Proofs.Ytejnnghfelpioaa
namespace Go.Proofs.Ytejnnghfelpioaa
open Go.RowKit
def ni (xs : List Int) (j : Nat) : Int := xs.getD j 0
def val : List Int → Int
  | [] => 0
  | x :: l => x + 65536 * val l
theorem ni_cons_succ (x : Int) (l : List Int) (j : Nat) : ni (x :: l) (j + 1) = ni l j := by simp [ni]
theorem ni_set (l : List Int) (i j : Nat) (x : Int) (hi : i < l.length) : ni (l.set i x) j = if i = j then x else ni l j := by
  unfold ni
  rw [List.getD_eq_getElem?_getD, List.getElem?_set, List.getD_eq_getElem?_getD]
  split <;> simp_all
theorem ni_take (l : List Int) (i j : Nat) : ni (l.take i) j = if j < i then ni l j else 0 := by
  unfold ni
  rw [List.getD_eq_getElem?_getD, List.getD_eq_getElem?_getD, List.getElem?_take]
  split <;> rfl
theorem ni_drop (l : List Int) (i j : Nat) : ni (l.drop i) j = ni l (i + j) := by
  unfold ni
  rw [List.getD_eq_getElem?_getD, List.getD_eq_getElem?_getD, List.getElem?_drop]
theorem ni_ext {s t : List Int} (hl : s.length = t.length) (h : ∀ i, i < s.length → ni s i = ni t i) : s = t := by
  apply List.ext_getElem hl
  intro i h1 h2
  have := h i h1
  unfold ni at this
  simpa [List.getD_eq_getElem?_getD, h1, h2] using this
theorem val_app (a b : List Int) : val (a ++ b) = val a + 65536 ^ a.length * val b := by
  induction a with
  | nil => simp [val]
  | cons x a ih =>
    show x + 65536 * val (a ++ b) = x + 65536 * val a + 65536 ^ (a.length + 1) * val b
    rw [ih, Int.mul_add, Int.pow_succ, ← Int.mul_assoc, Int.mul_comm 65536 (65536 ^ a.length), Int.add_assoc]
theorem val_split (l : List Int) (i : Nat) (h : i ≤ l.length) : val l = val (l.take i) + 65536 ^ i * val (l.drop i) := by
  have := val_app (l.take i) (l.drop i)
  rw [List.take_append_drop, List.length_take, Nat.min_eq_left h] at this
  exact this
theorem val_drop (l : List Int) (i : Nat) : val (l.drop i) = ni l i + 65536 * val (l.drop (i + 1)) := by
  induction l generalizing i with
  | nil => simp [val, ni]
  | cons x l ih =>
    cases i with
    | zero => simp [val, ni]
    | succ i => rw [List.drop_succ_cons, List.drop_succ_cons, ni_cons_succ]; exact ih i
theorem val_take_succ (l : List Int) (i : Nat) (h : i < l.length) : val (l.take (i + 1)) = val (l.take i) + 65536 ^ i * ni l i := by
  have h1 : l.take (i + 1) = l.take i ++ [ni l i] := by
    rw [List.take_succ_eq_append_getElem h]; simp [ni, h]
  rw [h1, val_app, List.length_take, Nat.min_eq_left (by omega)]
  simp [val]
theorem val_set (l : List Int) (j : Nat) (x : Int) (h : j < l.length) : val (l.set j x) = val l + 65536 ^ j * (x - ni l j) := by
  induction l generalizing j with
  | nil => simp at h
  | cons y l ih =>
    cases j with
    | zero => simp [val, ni]; omega
    | succ j =>
      rw [List.set_cons_succ, ni_cons_succ]
      show y + 65536 * val (l.set j x) = y + 65536 * val l + 65536 ^ (j + 1) * (x - ni l j)
      rw [ih j (by simpa using h), Int.mul_add, Int.pow_succ, ← Int.mul_assoc, Int.mul_comm 65536 (65536 ^ j), Int.add_assoc]
theorem drop_set_le (l : List Int) (i j : Nat) (x : Int) (h : i < j) : (l.set i x).drop j = l.drop j := by
  rw [List.drop_set, if_pos h]
theorem drop_set_eq (l : List Int) (i j : Nat) (x : Int) (h : j ≤ i) : (l.set i x).drop j = (l.drop j).set (i - j) x := by
  rw [List.drop_set, if_neg (by omega)]
def dgI (V : Int) (i : Nat) : Int := V / 65536 ^ i % 65536
theorem dgI_bd (V : Int) (i : Nat) : 0 ≤ dgI V i ∧ dgI V i ≤ 65535 := by unfold dgI; omega
def dgL (V : Int) : List Int := (List.range 16).map (dgI V)
theorem dgL_len (V : Int) : (dgL V).length = 16 := by simp [dgL]
theorem dgL_ni (V : Int) (i : Nat) (h : i < 16) : ni (dgL V) i = dgI V i := by simp [ni, dgL, h]
theorem pow_div_succ (V : Int) (i : Nat) : V / 65536 ^ (i + 1) = V / 65536 ^ i / 65536 := by
  have hp : (0 : Int) ≤ 65536 ^ i := Int.pow_nonneg (by omega)
  rw [Int.pow_succ, ← Int.ediv_ediv_of_nonneg hp]
theorem mod_succ (V : Int) (i : Nat) : V % 65536 ^ (i + 1) = V % 65536 ^ i + 65536 ^ i * dgI V i := by
  have h1 := Int.emod_add_mul_ediv V (65536 ^ (i + 1))
  have h2 := Int.emod_add_mul_ediv V (65536 ^ i)
  have h3 := Int.emod_add_mul_ediv (V / 65536 ^ i) 65536
  rw [← pow_div_succ] at h3
  unfold dgI
  rw [← h3] at h2
  have h4 : (65536 : Int) ^ (i + 1) * (V / 65536 ^ (i + 1)) = 65536 ^ i * (65536 * (V / 65536 ^ (i + 1))) := by rw [Int.pow_succ, Int.mul_assoc]
  rw [Int.mul_add] at h2
  omega
theorem val_digits (s : List Int) (V : Int) (i : Nat) (hi : i ≤ s.length) (h : ∀ j, j < i → ni s j = dgI V j) : val (s.take i) = V % 65536 ^ i := by
  induction i with
  | zero => simp [val, Int.emod_one]
  | succ i ih => rw [val_take_succ _ _ (by omega), ih (by omega) (fun j hj => h j (by omega)), h i (by omega), mod_succ]
theorem val_dgL (V : Int) : val (dgL V) = V % 65536 ^ 16 := by
  have := val_digits (dgL V) V 16 (by rw [dgL_len]; omega) (fun j hj => dgL_ni V j hj)
  rwa [List.take_of_length_le (by rw [dgL_len]; omega)] at this
def carL (V : Int) : List Int := (dgL V).set 0 (dgI V 0 + 38 * (V / 65536 ^ 16))
theorem carL_len (V : Int) : (carL V).length = 16 := by simp [carL, dgL_len]
theorem carL_ni (V : Int) (i : Nat) (h : i < 16) : ni (carL V) i = if 0 = i then dgI V 0 + 38 * (V / 65536 ^ 16) else dgI V i := by
  unfold carL
  rw [ni_set _ _ _ _ (by rw [dgL_len]; omega), dgL_ni _ _ h]
structure CarI (V : Int) (s : List Int) (i : Nat) : Prop where
  len : s.length = 16
  low : ∀ j, j < i → ni s j = dgI V j
  high : val (s.drop i) = V / 65536 ^ i
  big : ∀ j, i < j → -1152921504606846976 ≤ ni s j ∧ ni s j ≤ 1152921504606846976
  here : -1153062242095202304 ≤ ni s i ∧ ni s i ≤ 1153062242095202304
theorem CarI.start (o : List Int) (hl : o.length = 16) (hb : ∀ j, -1152921504606846976 ≤ ni o j ∧ ni o j ≤ 1152921504606846976) : CarI (val o) o 0 :=
  ⟨hl, fun j hj => absurd hj (by omega), by simp, fun j _ => hb j, by have := hb 0; omega⟩
theorem CarI.digit {V : Int} {s : List Int} {i : Nat} (h : CarI V s i) : ni s i % 65536 = dgI V i := by
  have h1 := h.high
  rw [val_drop] at h1
  unfold dgI
  rw [← h1, Int.add_mul_emod_self_left]
theorem CarI.step {V : Int} {s : List Int} {i : Nat} (h : CarI V s i) (hi : i < 15) :
    CarI V ((s.set i (ni s i - ni s i / 65536 * 65536)).set (i + 1) (ni s (i + 1) + ni s i / 65536)) (i + 1) := by
  have hd := h.digit
  have hl := h.len
  have e : ni s i - ni s i / 65536 * 65536 = ni s i % 65536 := by omega
  rw [e]
  have hn : ∀ j, ni ((s.set i (ni s i % 65536)).set (i + 1) (ni s (i + 1) + ni s i / 65536)) j = if i + 1 = j then ni s (i + 1) + ni s i / 65536 else if i = j then ni s i % 65536 else ni s j := fun j => by
    rw [ni_set _ _ _ _ (by simp; omega), ni_set _ _ _ _ (by omega)]
  refine ⟨by simp [hl], fun j hj => ?_, ?_, fun j hj => ?_, ?_⟩
  · rw [hn, if_neg (by omega)]
    by_cases hij : i = j
    · rw [if_pos hij, ← hij, hd]
    · rw [if_neg hij]; exact h.low j (by omega)
  · rw [drop_set_eq _ _ _ _ (Nat.le_refl _), drop_set_le _ _ _ _ (by omega), val_set _ _ _ (by simp; omega), ni_drop, Nat.sub_self, Nat.add_zero]
    have h1 := h.high
    rw [val_drop] at h1
    rw [pow_div_succ, ← h1]
    simp
    omega
  · rw [hn, if_neg (by omega), if_neg (by omega)]; exact h.big j (by omega)
  · rw [hn, if_pos rfl]
    have h1 := h.big (i + 1) (by omega)
    have h2 := h.here
    omega
theorem CarI.stop {V : Int} {s : List Int} (h : CarI V s 15) :
    ((s.set 15 (ni s 15 - ni s 15 / 65536 * 65536)).set 0 (ni s 0 + 38 * (ni s 15 / 65536))) = carL V ∧ ni s 0 = dgI V 0 ∧ ni s 15 / 65536 = V / 65536 ^ 16 := by
  have hd := h.digit
  have hl := h.len
  have e : ni s 15 - ni s 15 / 65536 * 65536 = ni s 15 % 65536 := by omega
  have h1 := h.high
  rw [val_drop, show s.drop (15 + 1) = [] from List.drop_eq_nil_of_le (by omega)] at h1
  have h2 : ni s 15 / 65536 = V / 65536 ^ 16 := by
    rw [show (16 : Nat) = 15 + 1 from rfl, pow_div_succ, ← h1]; simp [val]
  refine ⟨ni_ext (by simp [hl, carL_len]) fun j hj => ?_, h.low 0 (by omega), h2⟩
  simp [hl] at hj
  rw [ni_set _ _ _ _ (by simp; omega), ni_set _ _ _ _ (by omega), carL_ni _ _ hj, e, hd, h2, h.low 0 (by omega)]
  by_cases h0 : 0 = j
  · rw [if_pos h0, if_pos h0]
  · rw [if_neg h0, if_neg h0]
    by_cases h15 : 15 = j
    · rw [if_pos h15, h15]
    · rw [if_neg h15]; exact h.low j (by omega)
def Gd (B : Int) (o : List Int) : Prop := o.length = 16 ∧ ∀ j, -B ≤ ni o j ∧ ni o j ≤ B
theorem Gd.mono {B C : Int} {o : List Int} (h : Gd B o) (hc : B ≤ C) : Gd C o := ⟨h.1, fun j => by have := h.2 j; omega⟩
def pI : Int := 57896044618658097711785492504343953926634992332820282019728792003956564819949
theorem pI_two : (65536 : Int) ^ 16 = 2 * pI + 38 := by decide +kernel
def timT (a b : List Int) : Nat → List Int
  | 0 => List.replicate 31 0
  | n + 1 => (timT a b n).set (n / 16 + n % 16) (ni (timT a b n) (n / 16 + n % 16) + ni a (n / 16) * ni b (n % 16))
structure TimI (a b : List Int) (i k : Nat) (t : List Int) : Prop where
  len : t.length = 31
  ex : t = timT a b (16 * i + k)
  eq : val t = val (a.take i) * val b + 65536 ^ i * (ni a i * val (b.take k))
  bd : ∀ j, -((16 * i + k) * 1099511627776) ≤ ni t j ∧ ni t j ≤ (16 * i + k) * 1099511627776
theorem val_zeros (n : Nat) : val (List.replicate n 0) = 0 := by
  induction n with
  | zero => rfl
  | succ n ih => rw [List.replicate_succ]; show 0 + 65536 * val _ = 0; rw [ih]; rfl
theorem ni_zeros (n j : Nat) : ni (List.replicate n 0) j = 0 := by
  unfold ni
  rw [List.getD_eq_getElem?_getD, List.getElem?_replicate]
  split <;> rfl
theorem TimI.start (a b : List Int) : TimI a b 0 0 (List.replicate 31 0) :=
  ⟨by simp, rfl, by rw [val_zeros]; simp [val], fun j => by rw [ni_zeros]; simp⟩
theorem mul_bd (x y : Int) (h1 : -1048576 ≤ x ∧ x ≤ 1048576) (h2 : -1048576 ≤ y ∧ y ≤ 1048576) : -1099511627776 ≤ x * y ∧ x * y ≤ 1099511627776 := by
  have h3 : x.natAbs ≤ 1048576 := by omega
  have h4 : y.natAbs ≤ 1048576 := by omega
  have h5 : (x * y).natAbs ≤ 1048576 * 1048576 := by rw [Int.natAbs_mul]; exact Nat.mul_le_mul h3 h4
  omega
theorem TimI.step {a b : List Int} {i k : Nat} {t : List Int} (h : TimI a b i k t) (ha : Gd 1048576 a) (hb : Gd 1048576 b) (hi : i < 16) (hk : k < 16) : TimI a b i (k + 1) (t.set (i + k) (ni t (i + k) + ni a i * ni b k)) := by
  have hm := mul_bd _ _ (ha.2 i) (hb.2 k)
  refine ⟨by simp [h.len], ?_, ?_, fun j => ?_⟩
  · rw [show 16 * i + (k + 1) = (16 * i + k) + 1 by omega, timT, ← h.ex, show (16 * i + k) / 16 = i by omega, show (16 * i + k) % 16 = k by omega]
  · rw [val_set _ _ _ (by rw [h.len]; omega), h.eq, val_take_succ _ _ (by rw [hb.1]; omega)]
    have e : (65536 : Int) ^ (i + k) = 65536 ^ i * 65536 ^ k := Int.pow_add ..
    rw [e, Int.mul_add, Int.mul_add]
    rw [show ni t (i + k) + ni a i * ni b k - ni t (i + k) = ni a i * ni b k by omega]
    rw [show ni a i * (65536 ^ k * ni b k) = 65536 ^ k * (ni a i * ni b k) by rw [← Int.mul_assoc, ← Int.mul_assoc, Int.mul_comm (ni a i)]]
    rw [Int.mul_assoc (65536 ^ i)]
    omega
  · rw [ni_set _ _ _ _ (by rw [h.len]; omega)]
    have h1 := h.bd j
    have h2 := h.bd (i + k)
    push_cast
    split <;> omega
theorem TimI.next {a b : List Int} {i : Nat} {t : List Int} (h : TimI a b i 16 t) (ha : a.length = 16) (hb : b.length = 16) (hi : i < 16) : TimI a b (i + 1) 0 t := by
  refine ⟨h.len, by rw [h.ex]; congr 1, ?_, fun j => by have := h.bd j; push_cast at *; omega⟩
  rw [h.eq, val_take_succ a i (by omega), List.take_of_length_le (show b.length ≤ 16 by omega), Int.add_mul, Int.mul_assoc]
  simp [val]
theorem TimI.stop {a b : List Int} {t : List Int} (h : TimI a b 16 0 t) (ha : a.length = 16) : val t = val a * val b := by
  rw [h.eq, List.take_of_length_le (by omega)]; simp [val]
def folT (t : List Int) : Nat → List Int
  | 0 => List.replicate 16 0
  | i + 1 => if i < 15 then (folT t i).set i (ni t i + 38 * ni t (i + 16)) else (folT t i).set 15 (ni t 15)
structure FolI (t : List Int) (i : Nat) (o : List Int) : Prop where
  len : o.length = 16
  ex : o = folT t i
  eq : val (o.take i) = val (t.take i) + 38 * val ((t.drop 16).take (if i < 16 then i else 15))
  bd : ∀ j, -10995116277760000 ≤ ni o j ∧ ni o j ≤ 10995116277760000
theorem FolI.start (t : List Int) : FolI t 0 (List.replicate 16 0) := ⟨by simp, rfl, by simp [val], fun j => by rw [ni_zeros]; omega⟩
theorem FolI.step {t o : List Int} {i : Nat} (h : FolI t i o) (ht : t.length = 31) (hi : i < 15) (hb : ∀ j, -281474976710656 ≤ ni t j ∧ ni t j ≤ 281474976710656) : FolI t (i + 1) (o.set i (ni t i + 38 * ni t (i + 16))) := by
  refine ⟨by simp [h.len], by rw [folT, if_pos hi, ← h.ex], ?_, fun j => ?_⟩
  · rw [val_take_succ _ _ (by simp [h.len]; omega), val_take_succ _ _ (by omega), ni_set _ _ _ _ (by rw [h.len]; omega), if_pos rfl, List.take_set_of_le (Nat.le_refl _), h.eq, if_pos (by omega), if_pos (by omega)]
    rw [val_take_succ _ _ (by simp [ht]; omega), ni_drop, Nat.add_comm 16 i, Int.mul_add]
    generalize ni t (i + 16) = x
    generalize (65536 : Int) ^ i = P
    rw [Int.mul_add, Int.mul_left_comm P 38 x]
    omega
  · rw [ni_set _ _ _ _ (by rw [h.len]; omega)]
    have := h.bd j
    have := hb i
    have := hb (i + 16)
    split <;> omega
theorem FolI.last {t o : List Int} (h : FolI t 15 o) (ht : t.length = 31) (hb : ∀ j, -281474976710656 ≤ ni t j ∧ ni t j ≤ 281474976710656) : FolI t 16 (o.set 15 (ni t 15)) := by
  refine ⟨by simp [h.len], by rw [folT, if_neg (by omega), ← h.ex], ?_, fun j => ?_⟩
  · rw [val_take_succ (o.set 15 (ni t 15)) 15 (by simp [h.len]), val_take_succ t 15 (by omega), ni_set _ _ _ _ (by rw [h.len]; omega), if_pos rfl, List.take_set_of_le (Nat.le_refl _), h.eq, if_pos (by omega), if_neg (by omega)]
    omega
  · rw [ni_set _ _ _ _ (by rw [h.len]; omega)]
    have := h.bd j
    have := hb 15
    split <;> omega
theorem FolI.stop {t o : List Int} (h : FolI t 16 o) (ht : t.length = 31) : val o % pI = val t % pI ∧ Gd 10995116277760000 o := by
  refine ⟨?_, h.len, fun j => h.bd j⟩
  have h1 := h.eq
  rw [show o.take 16 = o from List.take_of_length_le (by rw [h.len]; omega), if_neg (by omega), show (t.drop 16).take 15 = t.drop 16 from List.take_of_length_le (by simp [ht])] at h1
  have h2 := val_split t 16 (by omega)
  have h3 := pI_two
  rw [h1, h2]
  generalize val (t.drop 16) = y
  generalize val (t.take 16) = x
  generalize (65536 : Int) ^ 16 = T at *
  subst h3
  rw [show x + (2 * pI + 38) * y = x + 38 * y + pI * (2 * y) by rw [Int.add_mul, Int.mul_comm 2 pI, Int.mul_assoc]; omega, Int.add_mul_emod_self_left]
theorem dig_unique (s : List Int) (hl : s.length = 16) (h : ∀ j, j < 16 → 0 ≤ ni s j ∧ ni s j ≤ 65535) : s = dgL (val s) := by
  have key : ∀ i, i ≤ 16 → val (s.drop i) = val s / 65536 ^ i := by
    intro i hi
    induction i with
    | zero => simp
    | succ i ih =>
      have h1 := ih (by omega)
      have h2 := h i (by omega)
      rw [val_drop] at h1
      rw [pow_div_succ, ← h1]
      omega
  refine ni_ext (by rw [hl, dgL_len]) fun j hj => ?_
  rw [hl] at hj
  have h1 := key j (by omega)
  have h2 := h j hj
  rw [val_drop] at h1
  rw [dgL_ni _ _ hj]
  unfold dgI
  rw [← h1]
  omega
def pD (i : Nat) : Int := if i = 0 then 65517 else if i < 15 then 65535 else 32767
structure SubI (V : Int) (i : Nat) (m : List Int) : Prop where
  len : m.length = 16
  low : ∀ j, j + 1 < i → 0 ≤ ni m j ∧ ni m j ≤ 65535
  raw : -65536 ≤ ni m (i - 1) ∧ ni m (i - 1) ≤ 65535
  rest : ∀ j, i ≤ j → j < 16 → ni m j = dgI V j
  eq : val (m.take i) = val ((dgL V).take i) - val ((dgL pI).take i)
theorem pI_dg : ∀ i, i < 16 → ni (dgL pI) i = pD i := by decide +kernel
theorem SubI.start (V : Int) : SubI V 1 ((dgL V).set 0 (dgI V 0 - 65517)) := by
  have h0 := dgI_bd V 0
  refine ⟨by simp [dgL_len], fun j hj => by omega, ?_, fun j h1 h2 => ?_, ?_⟩
  · rw [ni_set _ _ _ _ (by rw [dgL_len]; omega), if_pos rfl]; omega
  · rw [ni_set _ _ _ _ (by rw [dgL_len]; omega), if_neg (by omega), dgL_ni _ _ h2]
  · rw [val_take_succ _ 0 (by simp [dgL_len]), val_take_succ _ 0 (by simp [dgL_len]), val_take_succ _ 0 (by simp [dgL_len]), pI_dg 0 (by omega), ni_set _ _ _ _ (by rw [dgL_len]; omega), if_pos rfl, dgL_ni _ _ (by omega)]
    simp [val, pD]
theorem SubI.step {V : Int} {i : Nat} {m : List Int} (h : SubI V i m) (h1 : 1 ≤ i) (hi : i < 16) : SubI V (i + 1) ((m.set i (ni m i - pD i - ni m (i - 1) / 65536 % 2)).set (i - 1) (ni m (i - 1) % 65536)) := by
  have hl := h.len
  have hr := h.raw
  have hd := dgI_bd V i
  have hm := h.rest i (Nat.le_refl _) hi
  have hp : 0 ≤ pD i ∧ pD i ≤ 65535 := by unfold pD; split <;> (try split) <;> omega
  have hn : ∀ j, ni ((m.set i (ni m i - pD i - ni m (i - 1) / 65536 % 2)).set (i - 1) (ni m (i - 1) % 65536)) j = if i - 1 = j then ni m (i - 1) % 65536 else if i = j then ni m i - pD i - ni m (i - 1) / 65536 % 2 else ni m j := fun j => by
    rw [ni_set _ _ _ _ (by simp; omega), ni_set _ _ _ _ (by omega)]
  refine ⟨by simp [hl], fun j hj => ?_, ?_, fun j g1 g2 => ?_, ?_⟩
  · rw [hn]
    by_cases e : i - 1 = j
    · rw [if_pos e]; omega
    · rw [if_neg e, if_neg (by omega)]; exact h.low j (by omega)
  · rw [Nat.add_sub_cancel, hn, if_neg (by omega), if_pos rfl]; omega
  · rw [hn, if_neg (by omega), if_neg (by omega)]; exact h.rest j (by omega) g2
  · rw [val_take_succ _ i (by simp [hl]; omega), hn, if_neg (by omega), if_pos rfl, val_take_succ _ i (by rw [dgL_len]; omega), val_take_succ _ i (by rw [dgL_len]; omega), pI_dg _ hi, dgL_ni _ _ hi]
    have e1 : ((m.set i (ni m i - pD i - ni m (i - 1) / 65536 % 2)).set (i - 1) (ni m (i - 1) % 65536)).take i = (m.take i).set (i - 1) (ni m (i - 1) % 65536) := by
      rw [List.take_set, List.take_set_of_le (Nat.le_refl _)]
    rw [e1, val_set _ _ _ (by simp [hl]; omega), h.eq, ni_take, if_pos (by omega), hm]
    have e2 : (65536 : Int) ^ i = 65536 ^ (i - 1) * 65536 := by
      have := Int.pow_succ (65536 : Int) (i - 1)
      rwa [show (i - 1).succ = i by omega] at this
    rw [e2]
    generalize (65536 : Int) ^ (i - 1) = P
    generalize ni m (i - 1) = r at *
    have hb : r % 65536 - r = 65536 * (r / 65536 % 2) := by omega
    rw [hb, Int.mul_sub, Int.mul_sub, Int.mul_assoc P 65536, Int.mul_assoc P 65536, Int.mul_assoc P 65536]
    omega
theorem SubI.stop {V : Int} {m : List Int} (h : SubI V 16 m) (h0 : 0 ≤ V) (hT : V < 65536 ^ 16) : val m = V - pI ∧ (0 ≤ ni m 15 → pI ≤ V ∧ m = dgL (V - pI)) ∧ (ni m 15 < 0 → V < pI) := by
  have e := h.eq
  rw [List.take_of_length_le (by rw [h.len]; omega), List.take_of_length_le (by rw [dgL_len]; omega), List.take_of_length_le (by rw [dgL_len]; omega), val_dgL, val_dgL, Int.emod_eq_of_lt h0 hT, show pI % 65536 ^ 16 = pI by decide +kernel] at e
  have hs := val_split m 15 (by rw [h.len]; omega)
  have hd : val (m.drop 15) = ni m 15 := by rw [val_drop, show m.drop (15 + 1) = [] from List.drop_eq_nil_of_le (by rw [h.len]; omega)]; simp [val]
  rw [hd] at hs
  have hlow : ∀ j, j < 15 → 0 ≤ ni m j ∧ ni m j ≤ 65535 := fun j hj => h.low j (by omega)
  have ht : 0 ≤ val (m.take 15) ∧ val (m.take 15) < 65536 ^ 15 := by
    have key : ∀ i, i ≤ 15 → 0 ≤ val (m.take i) ∧ val (m.take i) < 65536 ^ i := by
      intro i hi
      induction i with
      | zero => simp [val]
      | succ i ih =>
        have h1 := ih (by omega)
        have h2 := hlow i (by omega)
        rw [val_take_succ _ _ (by rw [h.len]; omega), Int.pow_succ]
        have hp : (0 : Int) < 65536 ^ i := Int.pow_pos (by omega)
        generalize (65536 : Int) ^ i = P at *
        have h3 : 0 ≤ P * ni m i := Int.mul_nonneg (by omega) h2.1
        have h4 : P * ni m i ≤ P * 65535 := Int.mul_le_mul_of_nonneg_left h2.2 (by omega)
        omega
    exact key 15 (by omega)
  refine ⟨e, fun h15 => ?_, fun h15 => ?_⟩
  · have h1 : 0 ≤ (65536 : Int) ^ 15 * ni m 15 := Int.mul_nonneg (Int.pow_nonneg (by omega)) h15
    refine ⟨by omega, ?_⟩
    rw [← e]
    refine dig_unique m h.len fun j hj => ?_
    by_cases hj2 : j < 15
    · exact hlow j hj2
    · obtain rfl : j = 15 := by omega
      exact ⟨h15, by have hr : -65536 ≤ ni m 15 ∧ ni m 15 ≤ 65535 := h.raw; omega⟩
  · have h1 : (65536 : Int) ^ 15 * ni m 15 ≤ 65536 ^ 15 * (-1) := Int.mul_le_mul_of_nonneg_left (by omega) (Int.pow_nonneg (by omega))
    omega
def cellsI (xs : List Int) : Array Value := (xs.map (Value.int .i64)).toArray
def ArrI (t : TypeId) (w : World) (b : Nat) (xs : List Int) : Prop := w.heap[b]? = some (.cells (cellsI xs) t (0, 0))
theorem ArrI.cell {t : TypeId} {w : World} {b : Nat} {xs : List Int} (h : ArrI t w b xs) (j : Nat) (hj : j < xs.length) : w.cell? ⟨b, j, none⟩ = some (.int .i64 (ni xs j)) := by
  unfold ArrI at h
  simp [World.cell?, h, cellsI, ni, hj]
theorem ArrI.free {t : TypeId} {w : World} {b : Nat} {xs : List Int} (h : ArrI t w b xs) (j : Nat) : w.frozen? ⟨b, j, none⟩ = false := by
  unfold ArrI at h
  simp [World.frozen?, h]
theorem ArrI.lt {t : TypeId} {w : World} {b : Nat} {xs : List Int} (h : ArrI t w b xs) : b < w.heap.size := by
  unfold ArrI at h
  exact (Array.getElem?_eq_some_iff.1 h).1
theorem ArrI.set {t : TypeId} {w : World} {b : Nat} {xs : List Int} (h : ArrI t w b xs) (j : Nat) (x : Int) : ArrI t (w.setCell ⟨b, j, none⟩ (.int .i64 x)) b (xs.set j x) := by
  unfold ArrI at *
  simp [World.setCell, Array.getElem?_modify, h, cellsI, List.map_set]
theorem ArrI.other {t : TypeId} {w : World} {b : Nat} {xs : List Int} (h : ArrI t w b xs) {a : Addr} (ha : b ≠ a.block) (v : Value) : ArrI t (w.setCell a v) b xs := by
  unfold ArrI at *
  rw [Below.heap_setCell _ _ _ _ ha]; exact h
theorem ArrI.below {t : TypeId} {w w' : World} {b B : Nat} {xs : List Int} (h : ArrI t w b xs) (hb : Below B w w') (hB : b < B) : ArrI t w' b xs := by
  unfold ArrI at *
  rw [hb.block b hB]; exact h
theorem ArrI.alloc {t : TypeId} {w : World} {b : Nat} {xs : List Int} (h : ArrI t w b xs) (o : Obj) : ArrI t (w.alloc o) b xs := by
  unfold ArrI at *
  rw [Below.heap_alloc _ _ _ (ArrI.lt h)]; exact h
theorem ArrI.drew {t : TypeId} {w : World} {b : Nat} {xs : List Int} (h : ArrI t w b xs) : ArrI t w.drew b xs := h
theorem ArrI.ext {t : TypeId} {w : World} {b : Nat} {xs : List Int} (h : ArrI t w b xs) (x : World) : ArrI t (w.ext x) b xs := h.below (w.ext_below x) h.lt
theorem ArrI.new (t : TypeId) (w : World) (xs : List Int) : ArrI t (w.alloc (.cells (cellsI xs) t)) w.heap.size xs := by
  unfold ArrI
  show (w.heap.push _)[w.heap.size]? = _
  simp
theorem ArrI.row {t : TypeId} {w : World} {b : Nat} {xs : List Int} (h : ArrI t w b xs) (ys : List Int) : ArrI t (w.setRow b (cellsI ys)) b ys := heap_setRow' _ _ _ _ _ h
theorem ArrI.otherRow {t : TypeId} {w : World} {b g : Nat} {xs : List Int} (h : ArrI t w b xs) (hg : b ≠ g) (cs : Array Value) : ArrI t (w.setRow g cs) b xs := by
  unfold ArrI at *
  simp only [World.setRow, Array.getElem?_modify]
  rw [if_neg (by omega)]; exact h
end Go.Proofs.Ytejnnghfelpioaa
namespace Go.Proofs.Ytejnnghfelpioaa
open Go.RowKit
end Go.Proofs.Ytejnnghfelpioaa
namespace Go.Proofs.Ytejnnghfelpioaa
open Go.RowKit
end Go.Proofs.Ytejnnghfelpioaa
namespace Go.Proofs.Ytejnnghfelpioaa
open Go.RowKit
end Go.Proofs.Ytejnnghfelpioaa
namespace Go.Proofs.Ytejnnghfelpioaa
open Go.RowKit
end Go.Proofs.Ytejnnghfelpioaa
namespace Go
open Go.RowKit
theorem wp_alloc_fresh {P : Program} {o : Oper} {a : Act} {w : World} {K : Act → World → Prop} {Q : Exit → Act → World → Prop} {T : TypeId} (ho : o.op = .alloc T) (zs : Array Value) (hz : (P.info? T).bind (·.zero) = some (.agg zs))
    (h : o.wp P a w K Q) : K (a.put o.dst (.pointer (some ⟨w.heap.size, 0, none⟩))) (w.alloc (.cells zs T)) := by
  cases hq : P.info? T with
  | none => simp [hq] at hz
  | some i =>
    have hz' : i.zero = some (.agg zs) := by simpa [hq] using hz
    unfold Oper.wp execOp at h
    simp only [ho, Instr.alloc, zeroValue, typeInfo, hq, hz', newVar, newRow, Sem.run_bind, Result.andThen_ok, Value.cells] at h
    simp [hq, hz', Sem.run, Oper.upon] at h
    exact h
def newB (P : Program) (o : Oper) : Bool := match o.op with
  | .alloc T => match (P.info? T).bind (·.zero) with
    | some (.agg _) => o.dst.isSome
    | _ => false
  | _ => false
theorem newB_spec {P : Program} {o : Oper} (h : newB P o = true) : ∃ T zs, o.op = .alloc T ∧ (P.info? T).bind (·.zero) = some (.agg zs) := by
  unfold newB at h
  split at h
  · rename_i T hT
    split at h
    · rename_i zs hz; exact ⟨T, zs, hT, hz⟩
    · cases h
  · cases h
section
variable {P : Program} {l : List Oper} {Φ : Nat → Value → World → Prop} {w0 : World} {a0 : Act}
structure Apart (P : Program) (l : List Oper) (n : Nat) (listed : Array Bool) (a : Act) (w : World) : Prop where
  old : ∀ (i : Nat) (o : Oper) (d : Nat), i < n → l[i]? = some o → newB P o = true → listed.getD i false = true → o.dst = some d → d < a.tmps.size → ∃ g, a.tmps.getD d undef = .pointer (some ⟨g, 0, none⟩) ∧ g < w.heap.size
  two : ∀ (i j : Nat) (oi oj : Oper) (di dj : Nat), i < n → j < n → i ≠ j → l[i]? = some oi → l[j]? = some oj → newB P oi = true → newB P oj = true → listed.getD i false = true → listed.getD j false = true →
    oi.dst = some di → oj.dst = some dj → di < a.tmps.size → dj < a.tmps.size → a.tmps.getD di undef ≠ a.tmps.getD dj undef
theorem putd_at {a : Act} {v : Value} {d : Nat} (h : d < a.tmps.size) : (a.put (some d) v).tmps.getD d undef = v := by
  rw [Array.getD_eq_getD_getElem?, Act.putd_get_eq, if_pos h]; rfl
theorem putd_ne {a : Act} {o : Option Tmp} {v : Value} {d : Nat} (h : o ≠ some d) : (a.put o v).tmps.getD d undef = a.tmps.getD d undef := by
  rw [Array.getD_eq_getD_getElem?, Array.getD_eq_getD_getElem?, Act.putd_get_ne _ _ _ _ h]
theorem Apart.step {n i : Nat} {o : Oper} {listed : Array Bool} {a : Act} {w w' : World} {v : Value} (h : Apart P l n listed a w) (hnd : (l.filterMap (·.dst)).Nodup) (ho : l[i]? = some o) (hb : Below w.heap.size w w')
    (hv : newB P o = true → v = .pointer (some ⟨w.heap.size, 0, none⟩) ∧ w.heap.size < w'.heap.size) : Apart P l n (listed.setIfInBounds i true) (a.put o.dst v) w' := by
  have key : ∀ (j : Nat) (oj : Oper) (d : Nat), l[j]? = some oj → oj.dst = some d → j ≠ i → o.dst ≠ some d := fun j oj d hj hd hne e => hne (filterMap_nodup_inj l hnd j i oj o d hj ho hd e)
  refine ⟨fun j oj d hjn hj hnew hl hd hs => ?_, fun j k oj ok dj dk hjn hkn hjk hj hk hnj hnk hlj hlk hdj hdk hsj hsk => ?_⟩
  · rw [Act.putd_size] at hs
    by_cases hji : j = i
    · subst hji
      rw [ho] at hj; cases hj
      obtain ⟨h1, h2⟩ := hv hnew
      exact ⟨w.heap.size, by rw [hd, putd_at hs, h1], h2⟩
    · rw [getD_set_ne false (Ne.symm hji)] at hl
      obtain ⟨g, h1, h2⟩ := h.old j oj d hjn hj hnew hl hd hs
      exact ⟨g, by rw [putd_ne (key j oj d hj hd hji), h1], Nat.lt_of_lt_of_le h2 hb.size⟩
  · rw [Act.putd_size] at hsj hsk
    by_cases hji : j = i
    · subst hji
      rw [ho] at hj; cases hj
      have hki : k ≠ j := Ne.symm hjk
      rw [getD_set_ne false (Ne.symm hki)] at hlk
      obtain ⟨g, h1, h2⟩ := h.old k ok dk hkn hk hnk hlk hdk hsk
      rw [putd_ne (key k ok dk hk hdk hki), h1, hdj, putd_at hsj, (hv hnj).1]
      intro e
      injection e with e; injection e with e; injection e with e
      omega
    · by_cases hki : k = i
      · subst hki
        rw [ho] at hk; cases hk
        rw [getD_set_ne false (Ne.symm hji)] at hlj
        obtain ⟨g, h1, h2⟩ := h.old j oj dj hjn hj hnj hlj hdj hsj
        rw [putd_ne (key j oj dj hj hdj hji), h1, hdk, putd_at hsk, (hv hnk).1]
        intro e
        injection e with e; injection e with e; injection e with e
        omega
      · rw [getD_set_ne false (Ne.symm hji)] at hlj
        rw [getD_set_ne false (Ne.symm hki)] at hlk
        rw [putd_ne (key j oj dj hj hdj hji), putd_ne (key k ok dk hk hdk hki)]
        exact h.two j k oj ok dj dk hjn hkn hjk hj hk hnj hnk hlj hlk hdj hdk hsj hsk
theorem Oper.wp_and {o : Oper} {a : Act} {w : World} {K : Act → World → Prop} {Q : Exit → Act → World → Prop} (h : o.wp P a w K Q) : o.wp P a w (fun a' w' => K a' w' ∧ (newB P o = true → a' = a.put o.dst (.pointer (some ⟨w.heap.size, 0, none⟩)) ∧ w.heap.size < w'.heap.size)) Q := by
  by_cases hn : newB P o = true
  · obtain ⟨T, zs, ho, hz⟩ := newB_spec hn
    refine wp_alloc_new T ho zs hz ⟨wp_alloc_fresh ho zs hz h, fun _ => ⟨rfl, by rw [World.size_alloc]; omega⟩⟩
  · exact Oper.wp_mono (fun a' w' h => ⟨h, fun e => absurd e hn⟩) h
theorem wpAny_of_specP {n : Nat} {Q : Exit → Act → World → Prop} (hB : specTailB l n = true)
    (stable : ∀ i v w w', Φ i v w → Below w.heap.size w w' → Φ i v w')
    (each : ∀ (i : Nat) (o : Oper), i < n → l[i]? = some o → ∀ a w, Leans l Φ w0 a0 o a w → (newB P o = true → o.guard = none) ∧
      if Region.wanted o (yielded l.toArray a.tmps) then o.wp P a w (fun a' w' => ∃ v, a' = a.put o.dst v ∧ Below w.heap.size w w' ∧ Φ i v w') Q else Φ i undef w)
    (fin : ∀ (f : Nat → Value) (w : World), Below w0.heap.size w0 w → (∀ (i : Nat) (o : Oper) (d : Nat), i < n → l[i]? = some o → o.dst = some d → d < a0.tmps.size → Φ i (f i) w) →
      Apart P l n (Array.replicate n true) (putAll (l.take n) f 0 a0) w → wpList P l.toArray Q (l.drop n) (putAll (l.take n) f 0 a0) w) :
    ∀ (fuel : Nat) (listed : Array Bool) (a : Act) (w : World), unheaded n listed = fuel → HeadInv .any l.toArray n listed → RInv l Φ w0 a0 listed a w → Apart P l n listed a w → wpAny P .any l.toArray Q (fuel + (l.length - n)) listed a w := by
  simp only [specTailB, Bool.and_eq_true, decide_eq_true_eq] at hB
  obtain ⟨⟨⟨⟨hB, hnl⟩, hsink⟩, hchain⟩, hseq⟩ := hB
  have hnd : (l.filterMap (·.dst)).Nodup := by
    simp only [specB, Bool.and_eq_true] at hB
    exact of_decide_eq_true hB.2
  have close : ∀ (listed : Array Bool) (a : Act) (w : World), HeadInv .any l.toArray n listed → RInv l Φ w0 a0 listed a w → Apart P l n listed a w → (∀ i, i < n → listed.getD i true = true) → wpAny P .any l.toArray Q (l.length - n) listed a w := by
    intro listed a w inv h hA hall
    have hform : listed = Array.replicate n true ++ Array.replicate (l.length - n) false := listed_form h.size (by omega) hall (fun i h1 h2 => inv.tail i h1 (by simpa using h2))
    have e : putAll (l.take n) (fun i => match (l[i]?).bind (·.dst) with | some d => a.tmps.getD d undef | none => undef) 0 a0 = a := by
      refine putAll_eq a (l.take n) _ 0 a0 h.defers.symm h.tsize.symm (fun d hn => ?_) (fun i o d hi ho => ?_)
      · refine (h.same d (fun i o hi ho => ?_)).symm
        by_cases hin : i < n
        · exact absurd ho (hn o (List.mem_of_getElem? (i := i) (by rw [List.getElem?_take, if_pos hin]; exact hi)))
        · exact inv.tail i (by omega) (by
            rcases Nat.lt_or_ge i l.length with h' | h'
            · simpa using h'
            · rw [List.getElem?_eq_none h'] at hi; cases hi)
      · rw [List.getElem?_take] at hi
        split at hi
        · rw [Nat.zero_add, hi]; simp [ho]
        · cases hi
    have hdl : (l.drop n).length = l.length - n := by simp
    have hlt : ∀ i, i < n → listed.getD i false = true := fun i hi => by
      have hl := hall i hi
      have hs := h.size
      simp [Array.getD, show i < listed.size by omega] at hl ⊢; exact hl
    have := wpAny_of_seq (md := .any) (ops := l.toArray) (Q' := Q) (P := P) (l.drop n) n listed a w (fun j => by simp [List.getElem?_drop]) (by rw [hdl, hform]; exact hseq) (by
      rw [← e]
      refine fin _ w h.below (fun i o d hin hi ho hds => ?_) ?_
      · have := h.made i o d hi (hlt i hin) ho hds
        simp only [hi, Option.bind_some, ho]
        exact this
      · rw [e]
        exact ⟨fun i o d hin hi hnew _ hd hs => hA.old i o d hin hi hnew (hlt i hin) hd hs,
          fun i j oi oj di dj hin hjn hij hi hj hni hnj _ _ hdi hdj hsi hsj => hA.two i j oi oj di dj hin hjn hij hi hj hni hnj (hlt i hin) (hlt j hjn) hdi hdj hsi hsj⟩)
    rwa [hdl] at this
  intro fuel
  induction fuel with
  | zero =>
    intro listed a w hu inv h hA
    rw [Nat.zero_add]
    refine close listed a w inv h hA (fun i hi => ?_)
    have hs := h.size
    have hlt : i < listed.size := by omega
    by_cases hb : listed[i] = true
    · simp [Array.getD, hlt, hb]
    · exfalso
      have : 0 < (listed.toList.take n).count false := List.count_pos_iff.2 (by
        have hf : listed[i] = false := by simpa using hb
        have hlt' : i < (listed.toList.take n).length := by simp; omega
        have : (listed.toList.take n)[i] = false := by simpa using hf
        rw [← this]; exact List.getElem_mem _)
      unfold unheaded at hu
      omega
  | succ fuel ih =>
    intro listed a w hu inv h hA
    rw [show fuel + 1 + (l.length - n) = (fuel + (l.length - n)) + 1 by omega]
    have hsome : ∃ i, i < n ∧ listed.getD i true = false := by
      have : 0 < (listed.toList.take n).count false := by unfold unheaded at hu; omega
      obtain ⟨i, hi, he⟩ := List.getElem_of_mem (List.count_pos_iff.1 this)
      have hi' := hi
      simp at hi'
      exact ⟨i, by omega, by simp at he; simp [Array.getD, show i < listed.size by omega, he]⟩
    obtain ⟨i0, hi0, hun0⟩ := hsome
    refine ⟨fun hn => ?_, fun i hi => ?_⟩
    · have := all_listed_of_ready_nil hB h.size hn i0 (by omega)
      rw [this] at hun0; cases hun0
    have hin : i < n := by
      rcases Nat.lt_or_ge i n with h' | h'
      · exact h'
      · exact absurd hi (tail_waits hsink hchain (by simpa using hnl) inv _ i0 rfl hi0 hun0 i h')
    have hi' := hi
    rw [mem_ready] at hi
    obtain ⟨hun, o, ho, hafter⟩ := hi
    have ho' : l[i]? = some o := by simpa using ho
    have hl : i < l.length := by omega
    have lean : Leans l Φ w0 a0 o a w := ⟨h.below, fun d hn => h.same d (fun i o hi ho => absurd ho (hn o (List.mem_of_getElem? hi))),
      fun e he hb o' d hi' hd hds => h.made e.on o' d hi' (hafter e he hb) hd hds, h.tsize⟩
    have step : ∀ v w', Below w.heap.size w w' → Φ i v w' → RInv l Φ w0 a0 (listed.setIfInBounds i true) (a.put o.dst v) w' := fun v w' hb hv => by
      refine ⟨by rw [Array.size_setIfInBounds]; exact h.size, h.below.trans (hb.mono h.below.size), by rw [Act.putd_defers]; exact h.defers, by rw [Act.putd_size]; exact h.tsize, fun d hd => ?_, fun j oj d hj hlj hdj hds => ?_⟩
      · by_cases hod : o.dst = some d
        · have := hd i o ho' hod
          simp [Array.getD, show i < listed.size by have := h.size; omega] at this
        · rw [Act.putd_get_ne _ _ _ _ hod]
          refine h.same d (fun j oj hj hdj => ?_)
          have h1 := hd j oj hj hdj
          have hne : j ≠ i := fun e => by subst e; rw [ho'] at hj; cases hj; exact hod hdj
          rw [getD_set_ne true (Ne.symm hne)] at h1
          exact h1
      · by_cases hji : j = i
        · subst hji
          rw [ho'] at hj; cases hj
          have hlt : d < a.tmps.size := by have := h.tsize; omega
          have : (a.put o.dst v).tmps.getD d undef = v := by rw [hdj]; exact putd_at hlt
          rw [this]; exact hv
        · have hne : o.dst ≠ some d := fun e => hji (filterMap_nodup_inj l hnd j i oj o d hj ho' hdj e)
          have h1 := h.made j oj d hj (by rw [getD_set_ne false (Ne.symm hji)] at hlj; exact hlj) hdj hds
          rw [putd_ne hne]
          exact stable _ _ _ _ h1 hb
    have hu' : unheaded n (listed.setIfInBounds i true) = fuel := by have := unheaded_set hun hin; omega
    have inv' := inv.set hi' hin
    obtain ⟨hg, he⟩ := each i o hin ho' a w lean
    unfold wpOp
    simp only [ho]
    split
    · rename_i hw
      rw [if_pos hw] at he
      refine .inl (Oper.wp_mono (fun a' w' hx => ?_) (Oper.wp_and he))
      obtain ⟨⟨v, ha', hb, hv⟩, hnew⟩ := hx
      subst ha'
      by_cases hn : newB P o = true
      · obtain ⟨h1, h2⟩ := hnew hn
        have hs := step v w' hb hv
        rw [h1] at hs ⊢
        exact ih _ _ _ hu' inv' hs (hA.step hnd ho' hb fun _ => ⟨rfl, h2⟩)
      · exact ih _ _ _ hu' inv' (step v w' hb hv) (hA.step hnd ho' hb fun e => absurd e hn)
    · rename_i hw
      rw [if_neg hw] at he
      refine ih _ _ _ hu' inv' (step undef w (Below.refl _ _) he) (hA.step hnd ho' (Below.refl _ _) fun e => ?_)
      exact absurd (by simp [Region.wanted, hg e]) hw
theorem wp_region_spec_apart {id : Nat} {Q : Exit → Act → World → Prop} (n : Nat) (hm : P.follows .mixedOrders = true) (Φ : Nat → Value → World → Prop) (hB : specTailB l n = true)
    (stable : ∀ i v w w', Φ i v w → Below w.heap.size w w' → Φ i v w')
    (each : ∀ (i : Nat) (o : Oper), i < n → l[i]? = some o → ∀ a w, Leans l Φ w0 a0 o a w → (newB P o = true → o.guard = none) ∧
      if Region.wanted o (yielded l.toArray a.tmps) then o.wp P a w (fun a' w' => ∃ v, a' = a.put o.dst v ∧ Below w.heap.size w w' ∧ Φ i v w') Q else Φ i undef w)
    (fin : ∀ (f : Nat → Value) (w : World), Below w0.heap.size w0 w → (∀ (i : Nat) (o : Oper) (d : Nat), i < n → l[i]? = some o → o.dst = some d → d < a0.tmps.size → Φ i (f i) w) →
      Apart P l n (Array.replicate n true) (putAll (l.take n) f 0 a0) w → wpList P l.toArray Q (l.drop n) (putAll (l.take n) f 0 a0) w) :
    (Code.region id l.toArray true).wp P Q a0 w0 := by
  have hnl : n < l.length := by
    simp only [specTailB, Bool.and_eq_true, decide_eq_true_eq] at hB
    exact hB.1.1.1.2
  refine wp_region_any hm ?_
  have := wpAny_of_specP (w0 := w0) (a0 := a0) (P := P) (Q := Q) hB stable each fin _ (Array.replicate l.toArray.size false) a0 w0.drew rfl
    ⟨by simp, fun j oj _ hl => (by rw [getD_replicate_false] at hl; cases hl), fun t _ ht => getD_in (by simpa using ht) (getD_replicate_false _ _)⟩
    ⟨by simp, (Below.refl _ _).drew, rfl, rfl, fun d _ => rfl, fun i o d hi hl _ _ => (by rw [getD_replicate_false] at hl; cases hl)⟩
    ⟨fun i o d _ _ _ hl _ _ => (by rw [getD_replicate_false] at hl; cases hl), fun i j oi oj di dj _ _ _ _ _ _ _ hl _ _ _ _ _ => (by rw [getD_replicate_false] at hl; cases hl)⟩
  have hu : unheaded n (Array.replicate l.toArray.size false) = n := by
    unfold unheaded
    simp
    omega
  rw [hu, show n + (l.length - n) = l.toArray.size by simp; omega] at this
  exact this
def ApartEnd (P : Program) (l : List Oper) (n : Nat) (a : Act) : Prop :=
  ∀ (i j : Nat) (oi oj : Oper) (di dj : Nat), i < n → j < n → i ≠ j → l[i]? = some oi → l[j]? = some oj → newB P oi = true → newB P oj = true → oi.dst = some di → oj.dst = some dj → di < a.tmps.size → dj < a.tmps.size → a.tmps.getD di undef ≠ a.tmps.getD dj undef
theorem wp_region_loose_apart {es : List Ent} {id : Nat} {Q : Exit → Act → World → Prop} (n : Nat) (hm : P.follows .mixedOrders = true) (hB : looseB l n = true) (hS : specTailB l n = true) (hk : keepsAll es)
    (hnew : ((l.take n).all fun o => !newB P o || o.guard.isNone) = true)
    (h : looseL P l es w0 n (fun a w => ApartEnd P l n a → wpList P l.toArray Q (l.drop n) a w) 0 (l.take n) a0) : (Code.region id l.toArray true).wp P Q a0 w0 := by
  have hS2 := hS
  simp only [specTailB, Bool.and_eq_true, decide_eq_true_eq] at hS2
  have hn : n ≤ l.length := Nat.le_of_lt hS2.1.1.1.2
  refine wp_region_spec_apart n hm (phiOf es) hS (phiOf_keeps es hk) (fun i o hi ho a w hl => ⟨fun hb => ?_, loose_each hB hS2.1.1.1.1 hn h i o hi ho a w hl⟩) (fun f w hb hf hA => loose_fin hS2.1.1.1.1 hn h f w hb hf ?_)
  · have hm2 : o ∈ l.take n := List.mem_of_getElem? (i := i) (by rw [List.getElem?_take, if_pos hi]; exact ho)
    have := List.all_eq_true.1 hnew o hm2
    rw [hb] at this
    simpa using this
  · intro i j oi oj di dj hi hj hij h1 h2 h3 h4 h5 h6 h7 h8
    exact hA.two i j oi oj di dj hi hj hij h1 h2 h3 h4 (by simp [hi]) (by simp [hj]) h5 h6 h7 h8
end
end Go
namespace Go
open Go.RowKit
def Blk (t : TypeId) (w : World) (g : Nat) (cs : Array Value) : Prop := w.heap[g]? = some (.cells cs t (0, 0))
theorem Blk.lt {t : TypeId} {w : World} {g : Nat} {cs : Array Value} (h : Blk t w g cs) : g < w.heap.size := (Array.getElem?_eq_some_iff.1 h).1
theorem Blk.step {t : TypeId} {w w' : World} {g : Nat} {cs : Array Value} (h : Blk t w g cs) (hb : Below w.heap.size w w') : Blk t w' g cs := by
  unfold Blk at *; rw [hb.block g (Array.getElem?_eq_some_iff.1 h).1]; exact h
theorem Blk.alloc {t : TypeId} {w : World} {g : Nat} {cs : Array Value} (h : Blk t w g cs) (o : Obj) : Blk t (w.alloc o) g cs := by
  have hl := h.lt
  unfold Blk at *; rw [Below.heap_alloc _ _ _ hl]; exact h
theorem Blk.new (t : TypeId) (w : World) (cs : Array Value) : Blk t (w.alloc (.cells cs t)) w.heap.size cs := by
  unfold Blk; show (w.heap.push _)[w.heap.size]? = _; simp
theorem Blk.cell {t : TypeId} {w : World} {g : Nat} {cs : Array Value} (h : Blk t w g cs) (j : Nat) (v : Value) (hj : cs[j]? = some v) : w.cell? ⟨g, j, none⟩ = some v := by
  rw [cell_of_row w g j cs t (0, 0) h]; exact hj
theorem Blk.free {t : TypeId} {w : World} {g : Nat} {cs : Array Value} (h : Blk t w g cs) (j : Nat) : w.frozen? ⟨g, j, none⟩ = false := by
  unfold Blk at h; simp [World.frozen?, h]
theorem Blk.other {t : TypeId} {w : World} {g b : Nat} {cs : Array Value} (h : Blk t w g cs) (hne : g ≠ b) (ds : Array Value) : Blk t (w.setRow b ds) g cs := by
  unfold Blk at *
  simp only [World.setRow, Array.getElem?_modify]
  rw [if_neg (by omega)]; exact h
theorem Blk.set {t : TypeId} {w : World} {g : Nat} {cs : Array Value} (h : Blk t w g cs) (ds : Array Value) : Blk t (w.setRow g ds) g ds := by
  unfold Blk at *
  simp only [World.setRow, Array.getElem?_modify, if_true, h]
  rfl
theorem below_set {B : Nat} {a w : World} (h : Below B a w) (g : Nat) (hg : B ≤ g) (cs : Array Value) : Below B a (w.setRow g cs) :=
  h.trans ⟨rfl, rfl, rfl, by simp [World.setRow], fun k hk => by
    simp only [World.setRow, Array.getElem?_modify]
    rw [if_neg (by omega)]⟩
section
variable {P : Program}
def aggT (P : Program) (ty : TypeId) : Bool := match P.underlying ty with
  | some (.struct _) => true
  | some (.array _ _) => true
  | _ => false
def oneT (P : Program) (ty : TypeId) : Bool := match P.underlying ty with
  | some (.struct _) => false
  | some (.array _ _) => false
  | some _ => true
  | none => false
theorem aggT_spec {ty : TypeId} (h : aggT P ty = true) : ∃ d, P.underlying ty = some d ∧ (match d with | .struct _ | .array _ _ => true | _ => false) = true := by
  unfold aggT at h
  split at h
  · rename_i f hf; exact ⟨_, hf, rfl⟩
  · rename_i n e hf; exact ⟨_, hf, rfl⟩
  · cases h
theorem oneT_spec {ty : TypeId} (h : oneT P ty = true) : ∃ d, P.underlying ty = some d ∧ (match d with | .struct _ | .array _ _ => true | _ => false) = false := by
  unfold oneT at h
  cases hu : P.underlying ty with
  | none => rw [hu] at h; cases h
  | some d => rw [hu] at h; cases d <;> first | (cases h; done) | exact ⟨_, rfl, rfl⟩
def Oper.calmAt (P : Program) (o : Oper) (a : Act) (w0 : World) (v : Value) : Prop :=
  ∀ w, Below w0.heap.size w0 w → o.wp P a w (fun a' w' => a' = a.put o.dst v ∧ Below w.heap.size w w') (fun _ _ _ => False)
def wpCalm (P : Program) (ops : Array Oper) (w0 : World) (Q : Act → Prop) : List Oper → Act → Prop
  | [], a => Q a
  | o :: rest, a => (Region.wanted o (yielded ops a.tmps) = true ∧ ∃ v, o.calmAt P a w0 v ∧ wpCalm P ops w0 Q rest (a.put o.dst v)) ∨ (Region.wanted o (yielded ops a.tmps) = false ∧ wpCalm P ops w0 Q rest (a.put o.dst undef))
variable {ops : Array Oper} {w0 : World} {Q : Act → Prop} {o : Oper} {rest : List Oper} {a : Act}
theorem calm_nil (h : Q a) : wpCalm P ops w0 Q [] a := h
theorem calm_on (hw : Region.wanted o (yielded ops a.tmps) = true) {v : Value} (h : o.calmAt P a w0 v) (k : wpCalm P ops w0 Q rest (a.put o.dst v)) : wpCalm P ops w0 Q (o :: rest) a := .inl ⟨hw, v, h, k⟩
theorem calm_off (hw : Region.wanted o (yielded ops a.tmps) = false) (k : wpCalm P ops w0 Q rest (a.put o.dst undef)) : wpCalm P ops w0 Q (o :: rest) a := .inr ⟨hw, k⟩
theorem calm_run (hw : Region.wanted o (yielded ops a.tmps) = true) (v : Value) (h : ∀ w, Below w0.heap.size w0 w → (execOp a.eval o).run P w = .ok (.value v) w) (k : wpCalm P ops w0 Q rest (a.put o.dst v)) : wpCalm P ops w0 Q (o :: rest) a :=
  calm_on hw (fun w hb => by unfold Oper.wp; rw [h w hb]; exact ⟨rfl, Below.refl _ _⟩) k
theorem calm_part (hw : Region.wanted o (yielded ops a.tmps) = true) (ty : TypeId) (x : Operand) (ho : o.op = .load ty x) (g off : Nat) (hx : a.eval x = .pointer (some ⟨g, off, none⟩))
    (t : TypeId) (cur cs : Array Value) (hg : Blk t w0 g cur) (hcs : ∀ j v, cs[j]? = some v → cur[off + j]? = some v)
    (hu : aggT P ty = true) (hi : (P.info? ty).map (·.size) = some cs.size)
    (k : wpCalm P ops w0 Q rest (a.put o.dst (.agg cs))) : wpCalm P ops w0 Q (o :: rest) a :=
  let ⟨d, h1, h2⟩ := aggT_spec hu
  calm_run hw _ (fun w hb => run_load_part ty x ho g off hx t cur cs (0, 0) d (hg.step hb) hcs h1 (by cases d <;> first | rfl | cases h2) hi) k
theorem calm_whole (hw : Region.wanted o (yielded ops a.tmps) = true) (ty : TypeId) (x : Operand) (ho : o.op = .load ty x) (g : Nat) (hx : a.eval x = .pointer (some ⟨g, 0, none⟩))
    (t : TypeId) (cs : Array Value) (hg : Blk t w0 g cs)
    (hu : aggT P ty = true) (hi : (P.info? ty).map (·.size) = some cs.size)
    (k : wpCalm P ops w0 Q rest (a.put o.dst (.agg cs))) : wpCalm P ops w0 Q (o :: rest) a :=
  calm_part hw ty x ho g 0 hx t cs cs hg (fun j v h => by rw [Nat.zero_add]; exact h) hu hi k
theorem run_load_cell {w : World} (ty : TypeId) (x : Operand) (ho : o.op = .load ty x) (g off : Nat) (hx : a.eval x = .pointer (some ⟨g, off, none⟩)) (v : Value) (hc : w.cell? ⟨g, off, none⟩ = some v)
    (d : TypeDesc) (hu : P.underlying ty = some d) (hd : (match d with | .struct _ | .array _ _ => true | _ => false) = false) : (execOp a.eval o).run P w = .ok (.value v) w := by
  have hagg : (isAgg ty).run P w = .ok false w := by
    unfold isAgg
    rw [Sem.run_bind, run_underlying hu w]
    cases d <;> simp_all
  unfold execOp
  simp only [ho, hx, Instr.loadAt, Instr.sureAddr, Sem.run_bind, Sem.run_pure, Result.andThen_ok]
  simp [loadVar, Sem.run_bind, hagg, hc]
theorem calm_cell (hw : Region.wanted o (yielded ops a.tmps) = true) (ty : TypeId) (x : Operand) (ho : o.op = .load ty x) (g off : Nat) (hx : a.eval x = .pointer (some ⟨g, off, none⟩))
    (t : TypeId) (cs : Array Value) (hg : Blk t w0 g cs) (v : Value) (hv : cs[off]? = some v) (hu : oneT P ty = true)
    (k : wpCalm P ops w0 Q rest (a.put o.dst v)) : wpCalm P ops w0 Q (o :: rest) a :=
  let ⟨d, h1, h2⟩ := oneT_spec hu
  calm_run hw v (fun w hb => run_load_cell ty x ho g off hx v ((hg.step hb).cell off v hv) d h1 (by cases d <;> first | rfl | cases h2)) k
theorem calm_build (hw : Region.wanted o (yielded ops a.tmps) = true) (T : TypeId) (parts : Array (Nat × Operand)) (ho : o.op = .build T parts) (cells : Array Value)
    (hb : P.built T (parts.map fun (i, x) => (i, a.eval x)).toList = some cells) (k : wpCalm P ops w0 Q rest (a.put o.dst (.agg cells))) : wpCalm P ops w0 Q (o :: rest) a :=
  calm_run hw _ (fun w _ => by
    unfold execOp
    simp only [ho, Sem.run_bind, run_build w T _ cells hb, Result.andThen_ok, Sem.run_pure]) k
theorem Oper.wp_false {o : Oper} {a : Act} {w : World} {K : Act → World → Prop} {Q' : Exit → Act → World → Prop} (h : o.wp P a w K (fun _ _ _ => False)) : o.wp P a w K Q' := by
  unfold Oper.wp at *
  generalize (execOp a.eval o).run P w = r at *
  cases r with
  | ok n w' =>
    cases n <;> simp only [Oper.upon] at h ⊢ <;> first
      | exact h
      | (refine Calls.mono h fun e w'' he => ?_; cases e <;> first | exact he | exact he.elim | (obtain ⟨_, _, h⟩ := he; exact h.elim))
  | halt x w' => cases x <;> simp only [Oper.upon] at h ⊢
theorem wpList_calm {Q' : Exit → Act → World → Prop} {tail : List Oper} : ∀ (l1 : List Oper) (a : Act) (w : World), Below w0.heap.size w0 w →
    wpCalm P ops w0 (fun a' => ∀ w, Below w0.heap.size w0 w → wpList P ops Q' tail a' w) l1 a → wpList P ops Q' (l1 ++ tail) a w
  | [], a, w, hb, h => h w hb
  | o :: l1, a, w, hb, h => by
    rw [List.cons_append]
    refine wpList_step fun K hK => ?_
    rcases h with ⟨hw, v, hc, hk⟩ | ⟨hw, hk⟩
    · rw [if_pos hw]
      exact Oper.wp_mono (fun a' w' hx => by obtain ⟨e, hb'⟩ := hx; subst e; exact hK _ _ (wpList_calm l1 _ _ (hb.trans (hb'.mono hb.size)) hk)) (Oper.wp_false (hc w hb))
    · rw [if_neg (by rw [hw]; decide)]
      exact hK _ _ (wpList_calm l1 _ _ hb hk)
theorem at_region {id : Nat} {b : Bool} {Q' : Exit → Act → World → Prop} {w : World} (h : (Code.region id ops b).wp P Q' a w) : (Code.region id ops b).wp P Q' a w := h
theorem calm_ents {l0 : List Oper} : ∀ (l1 : List Oper) (a : Act) (i : Nat), wpCalm P l0.toArray w0 Q l1 a → ∃ es1 : List Ent, es1.length = l1.length ∧ keepsAll es1 ∧ ∃ a', Q a' ∧ a'.tmps.size = a.tmps.size ∧
    ∀ (es : List Ent) (n : Nat) (Fin : Act → World → Prop) (rest : List Oper), (∀ j e, es1[j]? = some e → es[i + j]? = some e) → looseL P l0 es w0 n Fin (i + l1.length) rest a' → looseL P l0 es w0 n Fin i (l1 ++ rest) a
  | [], a, i, h => ⟨[], rfl, trivial, a, h, rfl, fun _ _ _ _ _ h => h⟩
  | o :: l1, a, i, h => by
    rcases h with ⟨hw, v, hc, hk⟩ | ⟨hw, hk⟩
    · obtain ⟨es1, h1, h2, a', h3, h4, h5⟩ := calm_ents l1 _ (i + 1) hk
      refine ⟨.kn v :: es1, by simp [h1], keepsAll_kn h2, a', h3, by rw [h4, Act.putd_size], fun es n Fin rest he hL => ?_⟩
      have he0 : es[i]? = some (.kn v) := he 0 _ rfl
      refine ⟨.inl ⟨hw, fun w hb _ K hK => Oper.wp_mono (fun a' w' hx => by obtain ⟨e, hb'⟩ := hx; subst e; exact hK v w' hb' (by unfold phiOf; rw [he0]; rfl)) (hc w hb)⟩, fun v' hv => ?_⟩
      have : v' = v := by unfold mayOf at hv; rw [he0] at hv; exact hv
      subst this
      exact h5 es n Fin rest (fun j e hj => by have := he (j + 1) e (by simpa using hj); rwa [show i + (j + 1) = i + 1 + j by omega] at this) (by rw [List.length_cons] at hL; rwa [show i + (l1.length + 1) = i + 1 + l1.length by omega] at hL)
    · obtain ⟨es1, h1, h2, a', h3, h4, h5⟩ := calm_ents l1 _ (i + 1) hk
      refine ⟨.kn undef :: es1, by simp [h1], keepsAll_kn h2, a', h3, by rw [h4, Act.putd_size], fun es n Fin rest he hL => ?_⟩
      have he0 : es[i]? = some (.kn undef) := he 0 _ rfl
      refine ⟨.inr ⟨hw, fun w => by unfold phiOf; rw [he0]; rfl⟩, fun v' hv => ?_⟩
      have : v' = undef := by unfold mayOf at hv; rw [he0] at hv; exact hv
      subst this
      exact h5 es n Fin rest (fun j e hj => by have := he (j + 1) e (by simpa using hj); rwa [show i + (j + 1) = i + 1 + j by omega] at this) (by rw [List.length_cons] at hL; rwa [show i + (l1.length + 1) = i + 1 + l1.length by omega] at hL)
variable {l : List Oper} {id : Nat} {Q' : Exit → Act → World → Prop}
theorem draw_tail (n : Nat) (hm : P.follows .mixedOrders = true) (hB : looseB l n = true) (hS : specTailB l n = true)
    (h : wpCalm P l.toArray w0 (fun a' => ∀ w, Below w0.heap.size w0 w → wpList P l.toArray Q' (l.drop n) a' w) (l.take n) a) : (Code.region id l.toArray true).wp P Q' a w0 := by
  obtain ⟨es1, h1, h2, a', h3, h4, h5⟩ := calm_ents (l.take n) a 0 h
  have hL := h5 es1 n (wpList P l.toArray Q' (l.drop n)) [] (fun j e hj => by rw [Nat.zero_add]; exact hj) (fun w hb _ => h3 w hb)
  rw [List.append_nil] at hL
  exact wp_region_loose_tail n es1 hm hB hS h2 hL
theorem draw_all (hm : P.follows .mixedOrders = true) (hB : looseB l l.length = true) (hS : specB l = true)
    (h : wpCalm P l.toArray w0 (fun a' => ∀ w, Below w0.heap.size w0 w → Q' .normal a' w) l a) : (Code.region id l.toArray true).wp P Q' a w0 := by
  obtain ⟨es1, h1, h2, a', h3, h4, h5⟩ := calm_ents l a 0 h
  have hL := h5 es1 l.length (fun a w => Q' .normal a w) [] (fun j e hj => by rw [Nat.zero_add]; exact hj) (fun w hb _ => h3 w hb)
  rw [List.append_nil] at hL
  exact wp_region_loose es1 hm hB hS h2 hL
def newR (w0 : World) (T : TypeId) (zs : Array Value) : Value → World → Prop := fun v w => ∃ b, v = .pointer (some ⟨b, 0, none⟩) ∧ Blk T w b zs ∧ w0.heap.size ≤ b
theorem newR_keeps {T : TypeId} {zs : Array Value} : ∀ v w w', newR w0 T zs v w → Below w.heap.size w w' → newR w0 T zs v w' := fun v w w' ⟨b, h1, h2, h3⟩ hb => ⟨b, h1, h2.step hb, h3⟩
theorem keepsAll_append : ∀ {es fs : List Ent}, keepsAll es → keepsAll fs → keepsAll (es ++ fs)
  | [], _, _, h => h
  | _ :: _, _, h, k => ⟨h.1, keepsAll_append h.2 k⟩
theorem loose_new {l0 : List Oper} {es : List Ent} {n i : Nat} {Fin : Act → World → Prop} {o : Oper} {rest : List Oper} {T : TypeId} {zs : Array Value} (he : es[i]? = some (.lo (newR w0 T zs))) (ho : o.op = .alloc T) (hg : o.guard = none) (hz : (P.info? T).bind (·.zero) = some (.agg zs))
    (h : ∀ v, looseL P l0 es w0 n Fin (i + 1) rest (a.put o.dst v)) : looseL P l0 es w0 n Fin i (o :: rest) a :=
  ⟨.inl ⟨by simp [Region.wanted, hg], fun w hb _ K hK => wp_alloc_new T ho zs hz (hK _ _ ((Below.refl _ _).alloc (Nat.le_refl _) _) (by
    unfold phiOf; rw [he]; exact ⟨_, rfl, Blk.new _ _ _, hb.size⟩))⟩, fun v _ => h v⟩
theorem draw_new1 (n : Nat) (oA : Oper) (hA : (l.drop n).take 1 = [oA]) (T : TypeId) (zs : Array Value) (d : Nat) (ho : oA.op = .alloc T) (hg : oA.guard = none) (hd : oA.dst = some d) (hds : d < a.tmps.size) (hz : (P.info? T).bind (·.zero) = some (.agg zs))
    (hm : P.follows .mixedOrders = true) (hB : looseB l (n + 1) = true) (hS : specTailB l (n + 1) = true)
    (h : wpCalm P l.toArray w0 (fun a' => ∀ b w, w0.heap.size ≤ b → Below w0.heap.size w0 w → Blk T w b zs → wpList P l.toArray Q' (l.drop (n + 1)) (a'.put (some d) (.pointer (some ⟨b, 0, none⟩))) w) (l.take n) a) : (Code.region id l.toArray true).wp P Q' a w0 := by
  have hn : n < l.length := by
    rcases Nat.lt_or_ge n l.length with h1 | h1
    · exact h1
    · rw [List.drop_eq_nil_of_le h1] at hA; cases hA
  have hlA : l[n]? = some oA := by
    have : ((l.drop n).take 1)[0]? = some oA := by rw [hA]; rfl
    rw [List.getElem?_take, if_pos (by decide), List.getElem?_drop, Nat.add_zero] at this; exact this
  obtain ⟨es1, h1, h2, a', h3, h4, h5⟩ := calm_ents (l.take n) a 0 h
  have hl1 : es1.length = n := by rw [h1, List.length_take]; omega
  have hL := h5 (es1 ++ [.lo (newR w0 T zs)]) (n + 1) (wpList P l.toArray Q' (l.drop (n + 1))) [oA]
    (fun j e hj => by
      rw [Nat.zero_add]
      have hj2 : j < es1.length := (List.getElem?_eq_some_iff.1 hj).1
      rw [List.getElem?_append_left hj2]; exact hj)
    (loose_new (by rw [Nat.zero_add, List.length_take, Nat.min_eq_left (by omega), ← hl1]; simp) ho hg hz fun v w hb hphi => by
      have := hphi n oA d (by omega) hlA hd (by rw [Act.putd_size, h4]; exact hds)
      rw [hd, putd_at (by rw [h4]; exact hds)] at this
      unfold phiOf at this
      rw [show (es1 ++ [Ent.lo (newR w0 T zs)])[n]? = some (.lo (newR w0 T zs)) by rw [← hl1]; simp] at this
      obtain ⟨b, rfl, hblk, hle⟩ := this
      rw [hd]
      exact h3 b w hle hb hblk)
  rw [← hA, show l.take n ++ (l.drop n).take 1 = l.take (n + 1) by rw [List.take_add]] at hL
  exact wp_region_loose_tail (n + 1) _ hm hB hS (keepsAll_append h2 (keepsAll_lo newR_keeps (show keepsAll [] from trivial))) hL
theorem draw_new2 (n : Nat) (oA oB : Oper) (hA : (l.drop n).take 2 = [oA, oB]) (T T' : TypeId) (zs zs' : Array Value) (d d' : Nat) (ho : oA.op = .alloc T) (hg : oA.guard = none) (hd : oA.dst = some d) (hds : d < a.tmps.size) (hz : (P.info? T).bind (·.zero) = some (.agg zs))
    (ho' : oB.op = .alloc T') (hg' : oB.guard = none) (hd' : oB.dst = some d') (hds' : d' < a.tmps.size) (hz' : (P.info? T').bind (·.zero) = some (.agg zs')) (hne : d ≠ d')
    (hm : P.follows .mixedOrders = true) (hB : looseB l (n + 2) = true) (hS : specTailB l (n + 2) = true) (hnew : ((l.take (n + 2)).all fun o => !newB P o || o.guard.isNone) = true)
    (h : wpCalm P l.toArray w0 (fun a' => ∀ b b' w, w0.heap.size ≤ b → w0.heap.size ≤ b' → b ≠ b' → Below w0.heap.size w0 w → Blk T w b zs → Blk T' w b' zs' →
      wpList P l.toArray Q' (l.drop (n + 2)) ((a'.put (some d) (.pointer (some ⟨b, 0, none⟩))).put (some d') (.pointer (some ⟨b', 0, none⟩))) w) (l.take n) a) : (Code.region id l.toArray true).wp P Q' a w0 := by
  have hn : n + 1 < l.length := by
    rcases Nat.lt_or_ge (n + 1) l.length with h1 | h1
    · exact h1
    · have : ((l.drop n).take 2).length = 2 := by rw [hA]; rfl
      rw [List.length_take, List.length_drop] at this; omega
  have hlA : l[n]? = some oA := by
    have : ((l.drop n).take 2)[0]? = some oA := by rw [hA]; rfl
    rw [List.getElem?_take, if_pos (by decide), List.getElem?_drop, Nat.add_zero] at this; exact this
  have hlB : l[n + 1]? = some oB := by
    have : ((l.drop n).take 2)[1]? = some oB := by rw [hA]; rfl
    rw [List.getElem?_take, if_pos (by decide), List.getElem?_drop] at this; exact this
  obtain ⟨es1, h1, h2, a', h3, h4, h5⟩ := calm_ents (l.take n) a 0 h
  have hl1 : es1.length = n := by rw [h1, List.length_take]; omega
  have e1 : (es1 ++ [Ent.lo (newR w0 T zs), Ent.lo (newR w0 T' zs')])[n]? = some (.lo (newR w0 T zs)) := by rw [← hl1]; simp
  have e2 : (es1 ++ [Ent.lo (newR w0 T zs), Ent.lo (newR w0 T' zs')])[n + 1]? = some (.lo (newR w0 T' zs')) := by rw [← hl1]; simp
  have hL := h5 (es1 ++ [.lo (newR w0 T zs), .lo (newR w0 T' zs')]) (n + 2) (fun a w => ApartEnd P l (n + 2) a → wpList P l.toArray Q' (l.drop (n + 2)) a w) [oA, oB]
    (fun j e hj => by
      rw [Nat.zero_add]
      have hj2 : j < es1.length := (List.getElem?_eq_some_iff.1 hj).1
      rw [List.getElem?_append_left hj2]; exact hj)
    (loose_new (by rw [Nat.zero_add, List.length_take, Nat.min_eq_left (by omega)]; exact e1) ho hg hz fun v => loose_new (by rw [Nat.zero_add, List.length_take, Nat.min_eq_left (by omega)]; exact e2) ho' hg' hz' fun v' w hb hphi hap => by
      have s1 : d < a'.tmps.size := by rw [h4]; exact hds
      have s2 : d' < a'.tmps.size := by rw [h4]; exact hds'
      have g1 : ((a'.put oA.dst v).put oB.dst v').tmps.getD d undef = v := by rw [hd', putd_ne (by simpa using Ne.symm hne), hd, putd_at s1]
      have g2 : ((a'.put oA.dst v).put oB.dst v').tmps.getD d' undef = v' := by rw [hd', putd_at (by rw [Act.putd_size]; exact s2)]
      have p1 := hphi n oA d (by omega) hlA hd (by rw [Act.putd_size, Act.putd_size]; exact s1)
      have p2 := hphi (n + 1) oB d' (by omega) hlB hd' (by rw [Act.putd_size, Act.putd_size]; exact s2)
      rw [g1] at p1
      rw [g2] at p2
      unfold phiOf at p1 p2
      rw [e1] at p1
      rw [e2] at p2
      obtain ⟨b, rfl, hblk, hle⟩ := p1
      obtain ⟨b', rfl, hblk', hle'⟩ := p2
      have hnb : newB P oA = true := by unfold newB; rw [ho]; simp only; rw [hz]; simp [hd]
      have hnb' : newB P oB = true := by unfold newB; rw [ho']; simp only; rw [hz']; simp [hd']
      have hx := hap n (n + 1) oA oB d d' (by omega) (by omega) (by omega) hlA hlB hnb hnb' hd hd' (by rw [Act.putd_size, Act.putd_size]; exact s1) (by rw [Act.putd_size, Act.putd_size]; exact s2)
      rw [g1, g2] at hx
      rw [hd, hd']
      exact h3 b b' w hle hle' (fun e => hx (by rw [e])) hb hblk hblk')
  rw [← hA, show l.take n ++ (l.drop n).take 2 = l.take (n + 2) by rw [List.take_add]] at hL
  exact wp_region_loose_apart (n + 2) hm hB hS (keepsAll_append h2 (keepsAll_lo newR_keeps (keepsAll_lo newR_keeps (show keepsAll [] from trivial)))) hnew hL
theorem list_tail (n : Nat) (h : wpCalm P l.toArray w0 (fun a' => ∀ w, Below w0.heap.size w0 w → wpList P l.toArray Q' (l.drop n) a' w) (l.take n) a) : (Code.region id l.toArray false).wp P Q' a w0 :=
  wp_region_lit (by
    have := wpList_calm (tail := l.drop n) (l.take n) a w0 (Below.refl _ _) h
    rwa [List.take_append_drop] at this)
theorem list_all (h : wpCalm P l.toArray w0 (fun a' => ∀ w, Below w0.heap.size w0 w → Q' .normal a' w) l a) : (Code.region id l.toArray false).wp P Q' a w0 :=
  wp_region_lit (by
    have := wpList_calm (ops := l.toArray) (Q' := Q') (tail := []) l a w0 (Below.refl _ _) h
    rwa [List.append_nil] at this)
theorem wpList_new {ops : Array Oper} {w : World} (T : TypeId) (zs : Array Value) (ho : o.op = .alloc T) (hg : o.guard = none) (hz : (P.info? T).bind (·.zero) = some (.agg zs))
    (h : ∀ b w', w.heap.size ≤ b → Below w.heap.size w w' → Blk T w' b zs → wpList P ops Q' rest (a.put o.dst (.pointer (some ⟨b, 0, none⟩))) w') : wpList P ops Q' (o :: rest) a w :=
  wpList_alloc_new hg T ho zs hz (h _ _ (Nat.le_refl _) ((Below.refl _ _).alloc (Nat.le_refl _) _) (Blk.new _ _ _))
theorem wpList_set {ops : Array Oper} {w : World} (T : TypeId) (x y : Operand) (ho : o.op = .store T x y) (hg : o.guard = none) (hd : o.dst = none) (b : Nat) (cells : Array Value) (hx : a.eval x = .pointer (some ⟨b, 0, none⟩)) (hy : a.eval y = .agg cells)
    (t : TypeId) (old : Array Value) (hb : Blk t w b old) (hi : (P.info? T).map (·.size) = some cells.size) (hs : old.size = cells.size) (h1 : cells.all (·.oneCell') = true)
    (h : wpList P ops Q' rest a (w.setRow b cells)) : wpList P ops Q' (o :: rest) a w :=
  wpList_store_row hg T x y ho b cells hx hy t old hb hi hs h1 (by rw [hd]; exact h)
theorem run_box {w : World} (T : TypeId) (x : Operand) (ho : o.op = .box T x) (cs : Array Value) (hx : a.eval x = .agg cs) : (execOp a.eval o).run P w = .ok (.value (.pointer (some ⟨w.heap.size, 0, none⟩))) (w.alloc (.cells cs T)) := by
  unfold execOp
  simp only [ho, hx, Instr.box, newVar, newRow, Sem.run_bind, Value.cells]
  simp [Sem.run]
theorem wpList_box {ops : Array Oper} {w : World} (T : TypeId) (x : Operand) (ho : o.op = .box T x) (hg : o.guard = none) (cs : Array Value) (hx : a.eval x = .agg cs)
    (h : wpList P ops Q' rest (a.put o.dst (.pointer (some ⟨w.heap.size, 0, none⟩))) (w.alloc (.cells cs T))) : wpList P ops Q' (o :: rest) a w :=
  wpList_plain hg fun K hK => by unfold Oper.wp; rw [run_box T x ho cs hx]; exact hK _ _ h
theorem entry1 (w : World) (T0 : TypeId) (c0 : Array Value) : ∃ w', w' = w.alloc (.cells c0 T0) ∧ Blk T0 w' (w.heap.size) c0 ∧ Below w.heap.size w w' := by
  have h0 := Blk.new T0 (w) c0
  exact ⟨_, rfl, (h0), (by repeat (first | (with_reducible first | exact Below.refl _ _ | assumption | refine World.ext_below_of ?_ ?_ _ | refine Below.setCell ?_ ?_ _ | refine Below.alloc ?_ ?_ _ | refine Below.drew ?_ | refine World.size_le_ext _ _ _ ?_) | (solve | simp [go_sem] | (simp [go_sem]; omega) | omega)))⟩
theorem entry2 (w : World) (T0 : TypeId) (c0 : Array Value) (T1 : TypeId) (c1 : Array Value) : ∃ w', w' = (w.alloc (.cells c0 T0)).alloc (.cells c1 T1) ∧ Blk T0 w' (w.heap.size) c0 ∧ Blk T1 w' (w.heap.size + 1) c1 ∧ Below w.heap.size w w' := by
  have h0 := Blk.new T0 (w) c0
  have h1 := Blk.new T1 (w.alloc (.cells c0 T0)) c1
  simp only [World.size_alloc] at h1
  exact ⟨_, rfl, ((h0.alloc _)), (h1), (by repeat (first | (with_reducible first | exact Below.refl _ _ | assumption | refine World.ext_below_of ?_ ?_ _ | refine Below.setCell ?_ ?_ _ | refine Below.alloc ?_ ?_ _ | refine Below.drew ?_ | refine World.size_le_ext _ _ _ ?_) | (solve | simp [go_sem] | (simp [go_sem]; omega) | omega)))⟩
theorem entry3 (w : World) (T0 : TypeId) (c0 : Array Value) (T1 : TypeId) (c1 : Array Value) (T2 : TypeId) (c2 : Array Value) : ∃ w', w' = ((w.alloc (.cells c0 T0)).alloc (.cells c1 T1)).alloc (.cells c2 T2) ∧ Blk T0 w' (w.heap.size) c0 ∧ Blk T1 w' (w.heap.size + 1) c1 ∧ Blk T2 w' (w.heap.size + 1 + 1) c2 ∧ Below w.heap.size w w' := by
  have h0 := Blk.new T0 (w) c0
  have h1 := Blk.new T1 (w.alloc (.cells c0 T0)) c1
  simp only [World.size_alloc] at h1
  have h2 := Blk.new T2 ((w.alloc (.cells c0 T0)).alloc (.cells c1 T1)) c2
  simp only [World.size_alloc] at h2
  exact ⟨_, rfl, (((h0.alloc _).alloc _)), ((h1.alloc _)), (h2), (by repeat (first | (with_reducible first | exact Below.refl _ _ | assumption | refine World.ext_below_of ?_ ?_ _ | refine Below.setCell ?_ ?_ _ | refine Below.alloc ?_ ?_ _ | refine Below.drew ?_ | refine World.size_le_ext _ _ _ ?_) | (solve | simp [go_sem] | (simp [go_sem]; omega) | omega)))⟩
theorem entry5 (w : World) (T0 : TypeId) (c0 : Array Value) (T1 : TypeId) (c1 : Array Value) (T2 : TypeId) (c2 : Array Value) (T3 : TypeId) (c3 : Array Value) (T4 : TypeId) (c4 : Array Value) : ∃ w', w' = ((((w.alloc (.cells c0 T0)).alloc (.cells c1 T1)).alloc (.cells c2 T2)).alloc (.cells c3 T3)).alloc (.cells c4 T4) ∧ Blk T0 w' (w.heap.size) c0 ∧ Blk T1 w' (w.heap.size + 1) c1 ∧ Blk T2 w' (w.heap.size + 1 + 1) c2 ∧ Blk T3 w' (w.heap.size + 1 + 1 + 1) c3 ∧ Blk T4 w' (w.heap.size + 1 + 1 + 1 + 1) c4 ∧ Below w.heap.size w w' := by
  have h0 := Blk.new T0 (w) c0
  have h1 := Blk.new T1 (w.alloc (.cells c0 T0)) c1
  simp only [World.size_alloc] at h1
  have h2 := Blk.new T2 ((w.alloc (.cells c0 T0)).alloc (.cells c1 T1)) c2
  simp only [World.size_alloc] at h2
  have h3 := Blk.new T3 (((w.alloc (.cells c0 T0)).alloc (.cells c1 T1)).alloc (.cells c2 T2)) c3
  simp only [World.size_alloc] at h3
  have h4 := Blk.new T4 ((((w.alloc (.cells c0 T0)).alloc (.cells c1 T1)).alloc (.cells c2 T2)).alloc (.cells c3 T3)) c4
  simp only [World.size_alloc] at h4
  exact ⟨_, rfl, (((((h0.alloc _).alloc _).alloc _).alloc _)), ((((h1.alloc _).alloc _).alloc _)), (((h2.alloc _).alloc _)), ((h3.alloc _)), (h4), (by repeat (first | (with_reducible first | exact Below.refl _ _ | assumption | refine World.ext_below_of ?_ ?_ _ | refine Below.setCell ?_ ?_ _ | refine Below.alloc ?_ ?_ _ | refine Below.drew ?_ | refine World.size_le_ext _ _ _ ?_) | (solve | simp [go_sem] | (simp [go_sem]; omega) | omega)))⟩
theorem wpList_get {ops : Array Oper} {w : World} (T : TypeId) (x : Operand) (ho : o.op = .load T x) (hg : o.guard = none) (g : Nat) (hx : a.eval x = .pointer (some ⟨g, 0, none⟩)) (t : TypeId) (cs : Array Value) (hb : Blk t w g cs)
    (hu : aggT P T = true) (hi : (P.info? T).map (·.size) = some cs.size) (h : wpList P ops Q' rest (a.put o.dst (.agg cs)) w) : wpList P ops Q' (o :: rest) a w :=
  wpList_plain hg fun K hK => by
    obtain ⟨d, h1, h2⟩ := aggT_spec hu
    unfold Oper.wp
    rw [run_load_part T x ho g 0 hx t cs cs (0, 0) d hb (fun j v h => by rw [Nat.zero_add]; exact h) h1 (by cases d <;> first | rfl | cases h2) hi]
    exact hK _ _ h
theorem ret_blk {fn : Func} {R : Ending → World → Prop} {w : World} {p : Tmp} {ty : TypeId} (g : Nat) (t : TypeId) (cs : Array Value) (h : fn.results = #[.cell p ty]) (hp : a.tmps.getD p undef = .pointer (some ⟨g, 0, none⟩)) (hg : Blk t w g cs)
    (hu : aggT P ty = true) (hi : (P.info? ty).map (·.size) = some cs.size) (hd : a.defers = []) (hR : R (.returned (.agg cs)) w) : bodyPost P fn R .ret a w := by
  obtain ⟨d, h1, h2⟩ := aggT_spec hu
  exact bodyPost_ret (results_cell_row h a.tmps w g t cs (0, 0) d hp hg h1 (by cases d <;> first | rfl | cases h2) hi) hd hR
end
end Go
namespace Go.Proofs.Ytejnnghfelpioaa
open Go.RowKit
structure F5 where
  a0 : Nat
  a1 : Nat
  a2 : Nat
  a3 : Nat
  a4 : Nat
def cells5 (f : F5) : Array Value := #[.int .u64 (f.a0 : Int), .int .u64 (f.a1 : Int), .int .u64 (f.a2 : Int), .int .u64 (f.a3 : Int), .int .u64 (f.a4 : Int)]
def fe (f : F5) : Value := .agg (cells5 f)
def val5 (f : F5) : Nat := f.a0 + 2251799813685248 * (f.a1 + 2251799813685248 * (f.a2 + 2251799813685248 * (f.a3 + 2251799813685248 * f.a4)))
structure Ok5 (B : Nat) (f : F5) : Prop where
  b0 : f.a0 < B
  b1 : f.a1 < B
  b2 : f.a2 < B
  b3 : f.a3 < B
  b4 : f.a4 < B
theorem Ok5.mono {B C : Nat} {f : F5} (h : Ok5 B f) (hc : B ≤ C) : Ok5 C f :=
  ⟨Nat.lt_of_lt_of_le h.b0 hc, Nat.lt_of_lt_of_le h.b1 hc, Nat.lt_of_lt_of_le h.b2 hc, Nat.lt_of_lt_of_le h.b3 hc, Nat.lt_of_lt_of_le h.b4 hc⟩
def T5 (f : F5) : Prop := Ok5 4503599627370496 f
def one5 : F5 := ⟨1, 0, 0, 0, 0⟩
def zero5 : F5 := ⟨0, 0, 0, 0, 0⟩
theorem t5_one : T5 one5 := ⟨by decide, by decide, by decide, by decide, by decide⟩
theorem t5_zero : T5 zero5 := ⟨by decide, by decide, by decide, by decide, by decide⟩
def car5 (f : F5) : F5 := ⟨f.a0 % 2251799813685248 + 19 * (f.a4 / 2251799813685248), f.a1 % 2251799813685248 + f.a0 / 2251799813685248, f.a2 % 2251799813685248 + f.a1 / 2251799813685248, f.a3 % 2251799813685248 + f.a2 / 2251799813685248, f.a4 % 2251799813685248 + f.a3 / 2251799813685248⟩
theorem car5_val (f : F5) : val5 (car5 f) + pN * (f.a4 / 2251799813685248) = val5 f := by
  unfold val5 car5 pN
  simp only
  omega
theorem car5_mod (f : F5) : val5 (car5 f) % pN = val5 f % pN := by
  rw [← car5_val f, Nat.add_mul_mod_self_left]
theorem car5_t (f : F5) (h : Ok5 18446744073709551616 f) : T5 (car5 f) := by
  obtain ⟨h0, h1, h2, h3, h4⟩ := h
  unfold car5
  refine ⟨?_, ?_, ?_, ?_, ?_⟩ <;> (simp only; omega)
def add5 (f g : F5) : F5 := car5 ⟨f.a0 + g.a0, f.a1 + g.a1, f.a2 + g.a2, f.a3 + g.a3, f.a4 + g.a4⟩
theorem add5_mod (f g : F5) : val5 (add5 f g) % pN = (val5 f + val5 g) % pN := by
  unfold add5
  rw [car5_mod]
  congr 1
  unfold val5
  simp only
  omega
theorem add5_t (f g : F5) (hf : T5 f) (hg : T5 g) : T5 (add5 f g) := by
  obtain ⟨h0, h1, h2, h3, h4⟩ := hf
  obtain ⟨g0, g1, g2, g3, g4⟩ := hg
  exact car5_t _ ⟨by simp only; omega, by simp only; omega, by simp only; omega, by simp only; omega, by simp only; omega⟩
def sub5 (f g : F5) : F5 := car5 ⟨f.a0 + 9007199254740916 - g.a0, f.a1 + 9007199254740988 - g.a1, f.a2 + 9007199254740988 - g.a2, f.a3 + 9007199254740988 - g.a3, f.a4 + 9007199254740988 - g.a4⟩
theorem sub5_mod (f g : F5) (hg : T5 g) : (val5 (sub5 f g) + val5 g) % pN = val5 f % pN := by
  unfold sub5
  rw [Nat.add_mod, car5_mod, ← Nat.add_mod]
  obtain ⟨g0, g1, g2, g3, g4⟩ := hg
  have e : val5 ⟨f.a0 + 9007199254740916 - g.a0, f.a1 + 9007199254740988 - g.a1, f.a2 + 9007199254740988 - g.a2, f.a3 + 9007199254740988 - g.a3, f.a4 + 9007199254740988 - g.a4⟩ + val5 g = val5 f + pN * 4 := by
    unfold val5 pN
    simp only
    omega
  rw [e, Nat.add_mul_mod_self_left]
theorem sub5_t (f g : F5) (hf : T5 f) (hg : T5 g) : T5 (sub5 f g) := by
  obtain ⟨h0, h1, h2, h3, h4⟩ := hf
  exact car5_t _ ⟨by simp only; omega, by simp only; omega, by simp only; omega, by simp only; omega, by simp only; omega⟩
def prd5 (f g : F5) : F5 :=
  ⟨f.a0 * g.a0 + f.a1 * (19 * g.a4) + f.a2 * (19 * g.a3) + f.a3 * (19 * g.a2) + f.a4 * (19 * g.a1),
   f.a0 * g.a1 + f.a1 * g.a0 + f.a2 * (19 * g.a4) + f.a3 * (19 * g.a3) + f.a4 * (19 * g.a2),
   f.a0 * g.a2 + f.a1 * g.a1 + f.a2 * g.a0 + f.a3 * (19 * g.a4) + f.a4 * (19 * g.a3),
   f.a0 * g.a3 + f.a1 * g.a2 + f.a2 * g.a1 + f.a3 * g.a0 + f.a4 * (19 * g.a4),
   f.a0 * g.a4 + f.a1 * g.a3 + f.a2 * g.a2 + f.a3 * g.a1 + f.a4 * g.a0⟩
theorem prd5_I (a0 a1 a2 a3 a4 b0 b1 b2 b3 b4 M q : Int) (hq : q = M * M * M * M * M - 19) :
  (a0 + M*(a1 + M*(a2 + M*(a3 + M*a4)))) * (b0 + M*(b1 + M*(b2 + M*(b3 + M*b4)))) =
  (a0*b0 + a1*(19*b4)+a2*(19*b3)+a3*(19*b2)+a4*(19*b1)) + M*((a0*b1+a1*b0+a2*(19*b4)+a3*(19*b3)+a4*(19*b2)) + M*((a0*b2+a1*b1+a2*b0+a3*(19*b4)+a4*(19*b3)) + M*((a0*b3+a1*b2+a2*b1+a3*b0+a4*(19*b4)) + M*(a0*b4+a1*b3+a2*b2+a3*b1+a4*b0))))
  + q * ((a1*b4+a2*b3+a3*b2+a4*b1) + M*((a2*b4+a3*b3+a4*b2) + M*((a3*b4+a4*b3) + M*(a4*b4)))) := by
  subst hq; grind
theorem prd5_mod (f g : F5) : val5 (prd5 f g) % pN = val5 f * val5 g % pN := by
  have h := prd5_I f.a0 f.a1 f.a2 f.a3 f.a4 g.a0 g.a1 g.a2 g.a3 g.a4 2251799813685248 (pN : Nat) (by decide +kernel)
  have e : val5 f * val5 g = val5 (prd5 f g) + pN * ((f.a1*g.a4+f.a2*g.a3+f.a3*g.a2+f.a4*g.a1) + 2251799813685248*((f.a2*g.a4+f.a3*g.a3+f.a4*g.a2) + 2251799813685248*((f.a3*g.a4+f.a4*g.a3) + 2251799813685248*(f.a4*g.a4)))) := by
    apply Int.ofNat.inj
    show ((val5 f * val5 g : Nat) : Int) = ((val5 (prd5 f g) + pN * _ : Nat) : Int)
    rw [Int.natCast_mul, Int.natCast_add, Int.natCast_mul]
    unfold val5 prd5
    simp only [Int.natCast_mul, Int.natCast_add, Int.cast_ofNat_Int]
    exact h
  rw [e, Nat.add_mul_mod_self_left]
theorem m104 {x y : Nat} (hx : x < 4503599627370496) (hy : y < 4503599627370496) : x * y < 20282409603651670423947251286016 := by
  have : x * y ≤ 4503599627370495 * 4503599627370495 := Nat.mul_le_mul (by omega) (by omega)
  omega
theorem m109 {x y : Nat} (hx : x < 4503599627370496) (hy : y < 4503599627370496) : x * (19 * y) < 385365782469381738054997774434304 := by
  have h := m104 hx hy
  have e : x * (19 * y) = 19 * (x * y) := by rw [Nat.mul_left_comm]
  omega
theorem prd5_ok (f g : F5) (hf : T5 f) (hg : T5 g) : Ok5 1926828912346908690274988872171520 (prd5 f g) := by
  obtain ⟨h0, h1, h2, h3, h4⟩ := hf
  obtain ⟨g0, g1, g2, g3, g4⟩ := hg
  unfold prd5
  refine ⟨?_, ?_, ?_, ?_, ?_⟩
  · simp only
    have := m104 h0 g0; have := m109 h1 g4; have := m109 h2 g3; have := m109 h3 g2; have := m109 h4 g1; omega
  · simp only
    have := m104 h0 g1; have := m104 h1 g0; have := m109 h2 g4; have := m109 h3 g3; have := m109 h4 g2; omega
  · simp only
    have := m104 h0 g2; have := m104 h1 g1; have := m104 h2 g0; have := m109 h3 g4; have := m109 h4 g3; omega
  · simp only
    have := m104 h0 g3; have := m104 h1 g2; have := m104 h2 g1; have := m104 h3 g0; have := m109 h4 g4; omega
  · simp only
    have := m104 h0 g4; have := m104 h1 g3; have := m104 h2 g2; have := m104 h3 g1; have := m104 h4 g0; omega
theorem prd5_top (f g : F5) (hf : T5 f) (hg : T5 g) : (prd5 f g).a4 < 101412048018258352119736256430080 := by
  obtain ⟨h0, h1, h2, h3, h4⟩ := hf
  obtain ⟨g0, g1, g2, g3, g4⟩ := hg
  unfold prd5
  simp only
  have := m104 h0 g4; have := m104 h1 g3; have := m104 h2 g2; have := m104 h3 g1; have := m104 h4 g0; omega
def mul5 (f g : F5) : F5 := car5 (car5 (prd5 f g))
theorem car5_prd (f g : F5) (hf : T5 f) (hg : T5 g) : Ok5 1152921504606846976 (car5 (prd5 f g)) := by
  have h := prd5_ok f g hf hg
  have ht := prd5_top f g hf hg
  obtain ⟨p, hp⟩ : ∃ p, p = prd5 f g := ⟨_, rfl⟩
  rw [← hp] at h ht ⊢
  obtain ⟨h0, h1, h2, h3, h4⟩ := h
  unfold car5
  refine ⟨?_, ?_, ?_, ?_, ?_⟩ <;> (simp only; omega)
theorem mul5_t (f g : F5) (hf : T5 f) (hg : T5 g) : T5 (mul5 f g) := car5_t _ ((car5_prd f g hf hg).mono (by decide))
theorem mul5_mod (f g : F5) : val5 (mul5 f g) % pN = val5 f * val5 g % pN := by
  unfold mul5; rw [car5_mod, car5_mod, prd5_mod]
def car6 (f : F5) : F5 := car5 (car5 (car5 (car5 (car5 (car5 f)))))
theorem car6_mod (f : F5) : val5 (car6 f) % pN = val5 f % pN := by
  unfold car6; rw [car5_mod, car5_mod, car5_mod, car5_mod, car5_mod, car5_mod]
theorem carry_back {x z y c : Nat} (hy : y = x % 2251799813685248 + c * (z / 2251799813685248)) (h : 2251799813685248 ≤ y) : 2251799813685248 ≤ z := by
  rcases Nat.lt_or_ge z 2251799813685248 with h1 | h1
  · rw [Nat.div_eq_of_lt h1, Nat.mul_zero] at hy
    have := Nat.mod_lt x (show 0 < 2251799813685248 by decide)
    omega
  · exact h1
structure Near (B : Nat) (f : F5) : Prop where
  b0 : f.a0 ≤ B
  b1 : f.a1 ≤ B
  b2 : f.a2 ≤ B
  b3 : f.a3 ≤ B
  b4 : f.a4 ≤ B
theorem car5_near {f : F5} (h : T5 f) : Near 2251799813685266 (car5 f) := by
  obtain ⟨h0, h1, h2, h3, h4⟩ := h
  unfold car5
  refine ⟨?_, ?_, ?_, ?_, ?_⟩ <;> (simp only; omega)
theorem digit_sinks {x1 x2 x3 x4 x5 x6 z1 z2 z3 z4 z5 c : Nat} (hc : c ≤ 19) (h : 2251799813685248 ≤ x1) (hn : x1 ≤ 2251799813685266)
    (n1 : z1 ≤ 2251799813685266) (n2 : z2 ≤ 2251799813685266) (n3 : z3 ≤ 2251799813685266) (n4 : z4 ≤ 2251799813685266) (n5 : z5 ≤ 2251799813685266)
    (e2 : x2 = x1 % 2251799813685248 + c * (z1 / 2251799813685248)) (e3 : x3 = x2 % 2251799813685248 + c * (z2 / 2251799813685248)) (e4 : x4 = x3 % 2251799813685248 + c * (z3 / 2251799813685248))
    (e5 : x5 = x4 % 2251799813685248 + c * (z4 / 2251799813685248)) (e6 : x6 = x5 % 2251799813685248 + c * (z5 / 2251799813685248)) : x6 < 2251799813685248 := by
  have k : ∀ z, z ≤ 2251799813685266 → c * (z / 2251799813685248) ≤ 19 := fun z hz => by
    have : z / 2251799813685248 ≤ 1 := by omega
    have := Nat.mul_le_mul hc this
    omega
  have := k z1 n1; have := k z2 n2; have := k z3 n3; have := k z4 n4; have := k z5 n5
  omega
theorem near_t {f : F5} (h : Near 2251799813685266 f) : T5 f :=
  ⟨Nat.lt_of_le_of_lt h.b0 (by decide), Nat.lt_of_le_of_lt h.b1 (by decide), Nat.lt_of_le_of_lt h.b2 (by decide), Nat.lt_of_le_of_lt h.b3 (by decide), Nat.lt_of_le_of_lt h.b4 (by decide)⟩
theorem car6_ok (f : F5) (h : T5 f) : Ok5 2251799813685248 (car6 f) := by
  unfold car6
  have k1 := car5_near h
  obtain ⟨s1, e1⟩ : ∃ s, s = car5 f := ⟨_, rfl⟩
  rw [← e1] at k1 ⊢
  have k2 := car5_near (near_t k1)
  obtain ⟨s2, e2⟩ : ∃ s, s = car5 s1 := ⟨_, rfl⟩
  rw [← e2] at k2 ⊢
  have k3 := car5_near (near_t k2)
  obtain ⟨s3, e3⟩ : ∃ s, s = car5 s2 := ⟨_, rfl⟩
  rw [← e3] at k3 ⊢
  have k4 := car5_near (near_t k3)
  obtain ⟨s4, e4⟩ : ∃ s, s = car5 s3 := ⟨_, rfl⟩
  rw [← e4] at k4 ⊢
  have k5 := car5_near (near_t k4)
  obtain ⟨s5, e5⟩ : ∃ s, s = car5 s4 := ⟨_, rfl⟩
  rw [← e5] at k5 ⊢
  obtain ⟨s6, e6⟩ : ∃ s, s = car5 s5 := ⟨_, rfl⟩
  rw [← e6]
  have d0 : ∀ s t : F5, t = car5 s → t.a0 = s.a0 % 2251799813685248 + 19 * (s.a4 / 2251799813685248) := fun s t e => by rw [e]; rfl
  have d1 : ∀ s t : F5, t = car5 s → t.a1 = s.a1 % 2251799813685248 + 1 * (s.a0 / 2251799813685248) := fun s t e => by rw [e, Nat.one_mul]; rfl
  have d2 : ∀ s t : F5, t = car5 s → t.a2 = s.a2 % 2251799813685248 + 1 * (s.a1 / 2251799813685248) := fun s t e => by rw [e, Nat.one_mul]; rfl
  have d3 : ∀ s t : F5, t = car5 s → t.a3 = s.a3 % 2251799813685248 + 1 * (s.a2 / 2251799813685248) := fun s t e => by rw [e, Nat.one_mul]; rfl
  have d4 : ∀ s t : F5, t = car5 s → t.a4 = s.a4 % 2251799813685248 + 1 * (s.a3 / 2251799813685248) := fun s t e => by rw [e, Nat.one_mul]; rfl
  refine ⟨?_, ?_, ?_, ?_, ?_⟩
  · rcases Nat.lt_or_ge s6.a0 2251799813685248 with g | g
    · exact g
    · have g5 := carry_back (d0 _ _ e6) g
      have g4 := carry_back (d4 _ _ e5) g5
      have g3 := carry_back (d3 _ _ e4) g4
      have g2 := carry_back (d2 _ _ e3) g3
      have g1 := carry_back (d1 _ _ e2) g2
      exact digit_sinks (by decide) g1 k1.b0 k1.b4 k2.b4 k3.b4 k4.b4 k5.b4 (d0 _ _ e2) (d0 _ _ e3) (d0 _ _ e4) (d0 _ _ e5) (d0 _ _ e6)
  · rcases Nat.lt_or_ge s6.a1 2251799813685248 with g | g
    · exact g
    · have g5 := carry_back (d1 _ _ e6) g
      have g4 := carry_back (d0 _ _ e5) g5
      have g3 := carry_back (d4 _ _ e4) g4
      have g2 := carry_back (d3 _ _ e3) g3
      have g1 := carry_back (d2 _ _ e2) g2
      exact digit_sinks (by decide) g1 k1.b1 k1.b0 k2.b0 k3.b0 k4.b0 k5.b0 (d1 _ _ e2) (d1 _ _ e3) (d1 _ _ e4) (d1 _ _ e5) (d1 _ _ e6)
  · rcases Nat.lt_or_ge s6.a2 2251799813685248 with g | g
    · exact g
    · have g5 := carry_back (d2 _ _ e6) g
      have g4 := carry_back (d1 _ _ e5) g5
      have g3 := carry_back (d0 _ _ e4) g4
      have g2 := carry_back (d4 _ _ e3) g3
      have g1 := carry_back (d3 _ _ e2) g2
      exact digit_sinks (by decide) g1 k1.b2 k1.b1 k2.b1 k3.b1 k4.b1 k5.b1 (d2 _ _ e2) (d2 _ _ e3) (d2 _ _ e4) (d2 _ _ e5) (d2 _ _ e6)
  · rcases Nat.lt_or_ge s6.a3 2251799813685248 with g | g
    · exact g
    · have g5 := carry_back (d3 _ _ e6) g
      have g4 := carry_back (d2 _ _ e5) g5
      have g3 := carry_back (d1 _ _ e4) g4
      have g2 := carry_back (d0 _ _ e3) g3
      have g1 := carry_back (d4 _ _ e2) g2
      exact digit_sinks (by decide) g1 k1.b3 k1.b2 k2.b2 k3.b2 k4.b2 k5.b2 (d3 _ _ e2) (d3 _ _ e3) (d3 _ _ e4) (d3 _ _ e5) (d3 _ _ e6)
  · rcases Nat.lt_or_ge s6.a4 2251799813685248 with g | g
    · exact g
    · have g5 := carry_back (d4 _ _ e6) g
      have g4 := carry_back (d3 _ _ e5) g5
      have g3 := carry_back (d2 _ _ e4) g4
      have g2 := carry_back (d1 _ _ e3) g3
      have g1 := carry_back (d0 _ _ e2) g2
      exact digit_sinks (by decide) g1 k1.b4 k1.b3 k2.b3 k3.b3 k4.b3 k5.b3 (d4 _ _ e2) (d4 _ _ e3) (d4 _ _ e4) (d4 _ _ e5) (d4 _ _ e6)
end Go.Proofs.Ytejnnghfelpioaa
namespace Go.Proofs.Ytejnnghfelpioaa
open Go.RowKit
theorem u5 : Try.prog.underlying 64 = some (.array 5 23) := by kernel_rfl
theorem i5 (f : F5) : (Try.prog.info? 64).map (·.size) = some (cells5 f).size := by kernel_rfl
theorem z5 : (Try.prog.info? 64).bind (·.zero) = some (.agg (cells5 zero5)) := by kernel_rfl
theorem one_cells5 (f : F5) : (cells5 f).all (·.oneCell') = true := by simp [cells5, Value.oneCell']
theorem o64 : oneT Try.prog 23 = true := by kernel_rfl
theorem g5 : aggT Try.prog 64 = true := by kernel_rfl
theorem gWd : aggT Try.prog 25 = true := by kernel_rfl
theorem lowA (x : Nat) (hx : x < 2 ^ 64) : bits .and .u64 (x : Int) 2251799813685247 = ((x % 2251799813685248 : Nat) : Int) := by
  rw [show (2251799813685247 : Int) = ((2 ^ 51 - 1 : Nat) : Int) from rfl, u64_and_nat _ _ hx (by decide), Nat.and_two_pow_sub_one_eq_mod]
set_option maxHeartbeats 1000000 in
theorem car5_any (f : F5) (w : World) (hf : Ok5 18446744073709551616 f) : Calls Try.prog 58 #[fe f] w fun e w' => e = .returned (fe (car5 f)) ∧ Below w.heap.size w w' := by
  obtain ⟨h0, h1, h2, h3, h4⟩ := hf
  obtain ⟨a0, a1, a2, a3, a4⟩ := f
  simp only at h0 h1 h2 h3 h4
  have e0 := lowA a0 h0
  have e1 := lowA a1 h1
  have e2 := lowA a2 h2
  have e3 := lowA a3 h3
  have e4 := lowA a4 h4
  unfold fe cells5
  go_enter Try.func58, Try.ntmps58
  go_wp2
  refine bodyPost_ret (results_cell_row rfl _ _ (w.heap.size + 1) 64 (cells5 (car5 ⟨a0, a1, a2, a3, a4⟩)) (0, 0) _ rfl (heap_new_at _ _ _ (by simp only [World.size_alloc])) u5 rfl (i5 _)) rfl ⟨rfl, (by repeat (first | (with_reducible first | exact Below.refl _ _ | assumption | refine World.ext_below_of ?_ ?_ _ | refine Below.setCell ?_ ?_ _ | refine Below.alloc ?_ ?_ _ | refine Below.drew ?_ | refine World.size_le_ext _ _ _ ?_) | (solve | simp [go_sem] | (simp [go_sem]; omega) | omega)))⟩
set_option maxHeartbeats 1000000 in
theorem add5_any (f g : F5) (w : World) (hf : T5 f) (hg : T5 g) : Calls Try.prog 71 #[fe f, fe g] w fun e w' => e = .returned (fe (add5 f g)) ∧ Below w.heap.size w w' := by
  obtain ⟨h0, h1, h2, h3, h4⟩ := hf
  obtain ⟨g0, g1, g2, g3, g4⟩ := hg
  obtain ⟨a0, a1, a2, a3, a4⟩ := f
  obtain ⟨b0, b1, b2, b3, b4⟩ := g
  simp only at h0 h1 h2 h3 h4 g0 g1 g2 g3 g4
  have hC := hid fun w => car5_any ⟨a0 + b0, a1 + b1, a2 + b2, a3 + b3, a4 + b4⟩ w ⟨by simp only; omega, by simp only; omega, by simp only; omega, by simp only; omega, by simp only; omega⟩
  have hr := hid (show add5 ⟨a0, a1, a2, a3, a4⟩ ⟨b0, b1, b2, b3, b4⟩ = car5 ⟨a0 + b0, a1 + b1, a2 + b2, a3 + b3, a4 + b4⟩ from rfl)
  rw [hr.out]
  obtain ⟨r, hrr⟩ : ∃ r, r = car5 ⟨a0 + b0, a1 + b1, a2 + b2, a3 + b3, a4 + b4⟩ := ⟨_, rfl⟩
  rw [← hrr] at hC ⊢
  clear hrr hr
  have hR := hid (Blk.new 64 ((w.alloc (.cells (cells5 ⟨a0, a1, a2, a3, a4⟩) 64)).alloc (.cells (cells5 ⟨b0, b1, b2, b3, b4⟩) 64)) (cells5 zero5))
  rw [World.size_alloc, World.size_alloc] at hR
  have hb0 : Below w.heap.size w (((w.alloc (.cells (cells5 ⟨a0, a1, a2, a3, a4⟩) 64)).alloc (.cells (cells5 ⟨b0, b1, b2, b3, b4⟩) 64)).alloc (.cells (cells5 zero5) 64)) := (((Below.refl _ _).alloc (Nat.le_refl _) _).alloc (by simp) _).alloc (by simp; omega) _
  unfold fe cells5 at *
  go_enter Try.func71, Try.ntmps71
  go_wp2_with fail
  refine (hC.out _).mono ?_
  rintro e w' ⟨rfl, hb⟩
  have hR2 := hid (hR.out.step hb)
  have hb2 := hb0.trans (hb.mono hb0.size)
  clear hR hb hb0
  go_wp2_with (refine wpList_store_row rfl 64 (.tmp 4) (.tmp 31) rfl (w.heap.size + 1 + 1) _ rfl rfl 64 _ hR2.out (i5 _) rfl (one_cells5 _) ?_; simp only [Act.put])
  refine bodyPost_ret (results_cell_row rfl _ _ (w.heap.size + 1 + 1) 64 (cells5 r) (0, 0) _ rfl (heap_setRow' _ _ _ _ _ hR2.out) u5 rfl (i5 _)) rfl ⟨rfl, below_setRow' hb2 _ (by omega) _⟩
set_option maxHeartbeats 1000000 in
theorem sub5_any (f g : F5) (w : World) (hf : T5 f) (hg : T5 g) : Calls Try.prog 72 #[fe f, fe g] w fun e w' => e = .returned (fe (sub5 f g)) ∧ Below w.heap.size w w' := by
  obtain ⟨h0, h1, h2, h3, h4⟩ := hf
  obtain ⟨g0, g1, g2, g3, g4⟩ := hg
  obtain ⟨a0, a1, a2, a3, a4⟩ := f
  obtain ⟨b0, b1, b2, b3, b4⟩ := g
  simp only at h0 h1 h2 h3 h4 g0 g1 g2 g3 g4
  have hC := hid fun w => car5_any ⟨a0 + 9007199254740916 - b0, a1 + 9007199254740988 - b1, a2 + 9007199254740988 - b2, a3 + 9007199254740988 - b3, a4 + 9007199254740988 - b4⟩ w ⟨by simp only; omega, by simp only; omega, by simp only; omega, by simp only; omega, by simp only; omega⟩
  have hr := hid (show sub5 ⟨a0, a1, a2, a3, a4⟩ ⟨b0, b1, b2, b3, b4⟩ = car5 ⟨a0 + 9007199254740916 - b0, a1 + 9007199254740988 - b1, a2 + 9007199254740988 - b2, a3 + 9007199254740988 - b3, a4 + 9007199254740988 - b4⟩ from rfl)
  rw [hr.out]
  obtain ⟨r, hrr⟩ : ∃ r, r = car5 ⟨a0 + 9007199254740916 - b0, a1 + 9007199254740988 - b1, a2 + 9007199254740988 - b2, a3 + 9007199254740988 - b3, a4 + 9007199254740988 - b4⟩ := ⟨_, rfl⟩
  rw [← hrr] at hC ⊢
  clear hrr hr
  have e0 : (a0 : Int) + 9007199254740916 - (b0 : Int) = ((a0 + 9007199254740916 - b0 : Nat) : Int) := by omega
  have e1 : (a1 : Int) + 9007199254740988 - (b1 : Int) = ((a1 + 9007199254740988 - b1 : Nat) : Int) := by omega
  have e2 : (a2 : Int) + 9007199254740988 - (b2 : Int) = ((a2 + 9007199254740988 - b2 : Nat) : Int) := by omega
  have e3 : (a3 : Int) + 9007199254740988 - (b3 : Int) = ((a3 + 9007199254740988 - b3 : Nat) : Int) := by omega
  have e4 : (a4 : Int) + 9007199254740988 - (b4 : Int) = ((a4 + 9007199254740988 - b4 : Nat) : Int) := by omega
  have hR := hid (Blk.new 64 ((w.alloc (.cells (cells5 ⟨a0, a1, a2, a3, a4⟩) 64)).alloc (.cells (cells5 ⟨b0, b1, b2, b3, b4⟩) 64)) (cells5 zero5))
  rw [World.size_alloc, World.size_alloc] at hR
  have hb0 : Below w.heap.size w (((w.alloc (.cells (cells5 ⟨a0, a1, a2, a3, a4⟩) 64)).alloc (.cells (cells5 ⟨b0, b1, b2, b3, b4⟩) 64)).alloc (.cells (cells5 zero5) 64)) := (((Below.refl _ _).alloc (Nat.le_refl _) _).alloc (by simp) _).alloc (by simp; omega) _
  unfold fe cells5 at *
  go_enter Try.func72, Try.ntmps72
  go_wp2_with fail
  refine (hC.out _).mono ?_
  rintro e w' ⟨rfl, hb⟩
  have hR2 := hid (hR.out.step hb)
  have hb2 := hb0.trans (hb.mono hb0.size)
  clear hR hb hb0
  go_wp2_with (refine wpList_store_row rfl 64 (.tmp 4) (.tmp 36) rfl (w.heap.size + 1 + 1) _ rfl rfl 64 _ hR2.out (i5 _) rfl (one_cells5 _) ?_; simp only [Act.put])
  refine bodyPost_ret (results_cell_row rfl _ _ (w.heap.size + 1 + 1) 64 (cells5 r) (0, 0) _ rfl (heap_setRow' _ _ _ _ _ hR2.out) u5 rfl (i5 _)) rfl ⟨rfl, below_setRow' hb2 _ (by omega) _⟩
theorem shr_or (x y A B r : Nat) (hB : B = 2 ^ r) (hr : r ≤ 64) (hA : 0 < A) (hx : x / A < B) (hx64 : x < 2 ^ 64) : bits .or .u64 ((x : Int) / (A : Int)) (IntKind.u64.wrap ((y : Int) * (B : Int))) = ((x / A + y * B % 2 ^ 64 : Nat) : Int) := by
  have e1 : IntKind.u64.wrap ((y : Int) * (B : Int)) = ((y * B % 2 ^ 64 : Nat) : Int) := by
    rw [← Int.natCast_mul, IntKind.wrap_u64]; omega
  have e2 : y * B % 2 ^ 64 = y % 2 ^ (64 - r) * 2 ^ r := by
    rw [hB, show (2 : Nat) ^ 64 = 2 ^ (64 - r) * 2 ^ r by rw [← Nat.pow_add]; congr 1; omega, Nat.mul_mod_mul_right]
  have h3 : y * B % 2 ^ 64 < 2 ^ 64 := Nat.mod_lt _ (by decide)
  rw [e1, ← Int.natCast_ediv, u64_or_nat _ _ (Nat.lt_of_le_of_lt (Nat.div_le_self _ _) hx64) h3, e2, or_add _ _ _ (by rw [← hB]; exact hx)]
def fOf (x : Nat) : F5 := ⟨x % 2251799813685248, x / 2251799813685248 % 2251799813685248, x / 5070602400912917605986812821504 % 2251799813685248, x / 11417981541647679048466287755595961091061972992 % 2251799813685248, x / 25711008708143844408671393477458601640355247900524685364822016⟩
theorem fOf_val (x : Nat) : val5 (fOf x) = x := by unfold val5 fOf; simp only; omega
theorem fOf_t (x : Nat) (hx : x < 2 ^ 256) : T5 (fOf x) := ⟨by unfold fOf; simp only; omega, by unfold fOf; simp only; omega, by unfold fOf; simp only; omega, by unfold fOf; simp only; omega, by unfold fOf; simp only; omega⟩
set_option maxHeartbeats 1000000 in
theorem feOf_any (x : Nat) (w : World) (hx : x < 2 ^ 256) : Calls Try.prog 28 #[wd x] w fun e w' => e = .returned (fe (fOf x)) ∧ Below w.heap.size w w' := by
  have g0 := lmN_lt x 0
  have g1 := lmN_lt x 1
  have g2 := lmN_lt x 2
  have g3 := lmN_lt x 3
  have hs := limbs_sum x hx
  unfold wd cellsW lm
  generalize lmN x 0 = x0 at *
  generalize lmN x 1 = x1 at *
  generalize lmN x 2 = x2 at *
  generalize lmN x 3 = x3 at *
  have e0 := lowA x0 g0
  have o1 : bits .or .u64 ((x0 : Int) / 2251799813685248) (IntKind.u64.wrap ((x1 : Int) * 8192)) = _ := shr_or x0 x1 2251799813685248 8192 13 rfl (by decide) (by decide) (by omega) g0
  have o2 : bits .or .u64 ((x1 : Int) / 274877906944) (IntKind.u64.wrap ((x2 : Int) * 67108864)) = _ := shr_or x1 x2 274877906944 67108864 26 rfl (by decide) (by decide) (by omega) g1
  have o3 : bits .or .u64 ((x2 : Int) / 33554432) (IntKind.u64.wrap ((x3 : Int) * 549755813888)) = _ := shr_or x2 x3 33554432 549755813888 39 rfl (by decide) (by decide) (by omega) g2
  have l1 := lowA (x0 / 2251799813685248 + x1 * 8192 % 2 ^ 64) (by omega)
  have l2 := lowA (x1 / 274877906944 + x2 * 67108864 % 2 ^ 64) (by omega)
  have l3 := lowA (x2 / 33554432 + x3 * 549755813888 % 2 ^ 64) (by omega)
  rw [← o1] at l1
  rw [← o2] at l2
  rw [← o3] at l3
  rw [show x0 % 2251799813685248 = (fOf x).a0 by unfold fOf; simp only; omega] at e0
  rw [show (x0 / 2251799813685248 + x1 * 8192 % 2 ^ 64) % 2251799813685248 = (fOf x).a1 by unfold fOf; simp only; omega] at l1
  rw [show (x1 / 274877906944 + x2 * 67108864 % 2 ^ 64) % 2251799813685248 = (fOf x).a2 by unfold fOf; simp only; omega] at l2
  rw [show (x2 / 33554432 + x3 * 549755813888 % 2 ^ 64) % 2251799813685248 = (fOf x).a3 by unfold fOf; simp only; omega] at l3
  have l4 : (x3 : Int) / 4096 = ((fOf x).a4 : Int) := by
    have : x3 / 4096 = (fOf x).a4 := by unfold fOf; simp only; omega
    rw [← this]; rfl
  clear o1 o2 o3 hs hx
  generalize fOf x = f at *
  go_enter Try.func28, Try.ntmps28
  go_wp2
  refine bodyPost_ret (results_cell_row rfl _ _ (w.heap.size + 1) 64 (cells5 f) (0, 0) _ rfl (heap_new_at _ _ _ (by simp only [World.size_alloc])) u5 rfl (i5 _)) rfl ⟨rfl, (by repeat (first | (with_reducible first | exact Below.refl _ _ | assumption | refine World.ext_below_of ?_ ?_ _ | refine Below.setCell ?_ ?_ _ | refine Below.alloc ?_ ?_ _ | refine Below.drew ?_ | refine World.size_le_ext _ _ _ ?_) | (solve | simp [go_sem] | (simp [go_sem]; omega) | omega)))⟩
end Go.Proofs.Ytejnnghfelpioaa
namespace Go.Proofs.Ytejnnghfelpioaa
open Go.RowKit
def cells2 (s : Nat) : Array Value := #[.int .u64 ((s / 2 ^ 64 : Nat) : Int), .int .u64 ((s % 2 ^ 64 : Nat) : Int)]
def w128 (s : Nat) : Value := .agg (cells2 s)
theorem g2 : aggT Try.prog 91 = true := by kernel_rfl
theorem i2 (s : Nat) : (Try.prog.info? 91).map (·.size) = some (cells2 s).size := by kernel_rfl
theorem z2 : (Try.prog.info? 91).bind (·.zero) = some (.agg (cells2 0)) := by kernel_rfl
theorem one_cells2 (s : Nat) : (cells2 s).all (·.oneCell') = true := by simp [cells2, Value.oneCell']
theorem one_two (a b : Int) : (#[.int .u64 a, .int .u64 b] : Array Value).all (·.oneCell') = true := by simp [Value.oneCell']
theorem b2_zero : Try.prog.built 91 [] = some (cells2 0) := by kernel_rfl
set_option maxHeartbeats 1000000 in
theorem w128add_any (s a b : Nat) (w : World) (ha : a < 2 ^ 64) (hb : b < 2 ^ 64) (hs : s + a * b < 2 ^ 128) : Calls Try.prog 56 #[w128 s, .int .u64 (a : Int), .int .u64 (b : Int)] w fun e w' => e = .returned (w128 (s + a * b)) ∧ Below w.heap.size w w' := by
  obtain ⟨mh, ml, m1, m2, m3, m4⟩ := mul64_nat a b ha hb
  obtain ⟨u1, v1, p1, p2, p3, p4⟩ := add64_nat0 ml (s % 2 ^ 64) m2 (Nat.mod_lt _ (by decide))
  obtain ⟨u2, v2, r1, r2, r3, r4⟩ := add64_nat mh (s / 2 ^ 64) v1 m1 (by omega) p2
  have hr := hid (show cells2 (s + a * b) = #[.int .u64 (u2 : Int), .int .u64 (u1 : Int)] by
    have h1 : (s + a * b) / 2 ^ 64 = u2 := by omega
    have h2 : (s + a * b) % 2 ^ 64 = u1 := by omega
    unfold cells2; rw [h1, h2])
  have M4 := hid m4
  unfold w128
  rw [hr.out]
  have hA := hid (show Blk 91 ((w.alloc (.cells (cells2 s) 91)).alloc (.cells (cells2 0) 91)) w.heap.size (cells2 s) from (Blk.new _ w _).alloc _)
  have hR := hid (Blk.new 91 (w.alloc (.cells (cells2 s) 91)) (cells2 0))
  rw [World.size_alloc] at hR
  have hb0 : Below w.heap.size w ((w.alloc (.cells (cells2 s) 91)).alloc (.cells (cells2 0) 91)) := ((Below.refl _ _).alloc (Nat.le_refl _) _).alloc (by simp) _
  clear m3 p3 r3 hs hr m4
  go_enter Try.func56, Try.ntmps56
  go_wp2_with fail
  refine (M4.out _).mono ?_
  rintro e w2 ⟨rfl, hb2⟩
  have hA2 := hid (hA.out.step hb2)
  have hR2 := hid (hR.out.step hb2)
  have hb3 := hb0.trans (hb2.mono hb0.size)
  have c0 := hA2.out.cell 0 (.int .u64 ((s / 2 ^ 64 : Nat) : Int)) rfl
  have c1 := hA2.out.cell 1 (.int .u64 ((s % 2 ^ 64 : Nat) : Int)) rfl
  have lA := hA2.out.lt
  have lR := hR2.out.lt
  clear hA hR hb0 hb2 M4
  obtain ⟨sh, hsh⟩ : ∃ sh, sh = s / 2 ^ 64 := ⟨_, rfl⟩
  obtain ⟨sl, hsl⟩ : ∃ sl, sl = s % 2 ^ 64 := ⟨_, rfl⟩
  rw [← hsh] at c0 r4
  rw [← hsl] at c1 p4
  clear hsh hsl
  go_wp2_with (refine wpList_set 91 (.tmp 6) (.tmp 33) rfl rfl rfl (w.heap.size + 1) #[.int .u64 (u2 : Int), .int .u64 (u1 : Int)] rfl rfl 91 (cells2 0) hR2.out (i2 0) rfl (one_two _ _) ?_)
  refine ret_blk (w.heap.size + 1) 91 #[.int .u64 (u2 : Int), .int .u64 (u1 : Int)] rfl rfl (hR2.out.set _) g2 (i2 0) rfl ?_
  exact ⟨rfl, below_set hb3 _ (by omega) _⟩
set_option maxHeartbeats 1000000 in
theorem above_any (s : Nat) (w : World) (hs : s < 2 ^ 112) : Calls Try.prog 57 #[w128 s] w fun e w' => e = .returned (.int .u64 ((s / 2251799813685248 : Nat) : Int)) ∧ Below w.heap.size w w' := by
  have e1 : IntKind.u64.wrap (((s / 2 ^ 64 : Nat) : Int) * 8192) = ((s / 2 ^ 64 * 8192 : Nat) : Int) := by
    rw [IntKind.wrap_u64]; omega
  have e2 : bits .or .u64 ((s / 2 ^ 64 * 8192 : Nat) : Int) (((s % 2 ^ 64 : Nat) : Int) / 2251799813685248) = ((s / 2251799813685248 : Nat) : Int) := by
    rw [show (((s % 2 ^ 64 : Nat) : Int) / 2251799813685248) = ((s % 2 ^ 64 / 2251799813685248 : Nat) : Int) from rfl, u64_or_nat _ _ (by omega) (by omega), Nat.or_comm,
      show s / 2 ^ 64 * 8192 = s / 2 ^ 64 * 2 ^ 13 from rfl, or_add _ _ _ (by omega)]
    congr 1; omega
  unfold w128 cells2
  rw [← e1] at e2
  obtain ⟨r, hr⟩ : ∃ r, r = s / 2251799813685248 := ⟨_, rfl⟩
  rw [← hr] at e2 ⊢
  obtain ⟨sh, hsh⟩ : ∃ sh, sh = s / 2 ^ 64 := ⟨_, rfl⟩
  obtain ⟨sl, hsl⟩ : ∃ sl, sl = s % 2 ^ 64 := ⟨_, rfl⟩
  have b1 : sh < 2 ^ 64 := by omega
  have b2 : sl < 2 ^ 64 := by omega
  rw [← hsh, ← hsl] at e2 ⊢
  clear hsh hsl e1 hr hs
  go_enter Try.func57, Try.ntmps57
  go_wp2
  go_ret
  exact ⟨rfl, (by repeat (first | (with_reducible first | exact Below.refl _ _ | assumption | refine World.ext_below_of ?_ ?_ _ | refine Below.setCell ?_ ?_ _ | refine Below.alloc ?_ ?_ _ | refine Below.drew ?_ | refine World.size_le_ext _ _ _ ?_) | (solve | simp [go_sem] | (simp [go_sem]; omega) | omega)))⟩
end Go.Proofs.Ytejnnghfelpioaa
