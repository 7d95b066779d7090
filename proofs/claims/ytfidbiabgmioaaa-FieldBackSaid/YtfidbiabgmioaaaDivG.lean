import Derived.Test.YtfidbiabgmioaaaDivF
/-! word.divide by more limbs: the walk. -/
set_option maxRecDepth 4000
set_option linter.unusedVariables false
set_option linter.unusedSimpArgs false
namespace Go.Proofs.Ytfidbiabgmioaaa
open Go.RowKit

/-- What the rows hold while the divisor is shifted. -/
structure DvA (N L m d : Nat) (w wr : World) (Vv : Nat) : Prop where
  box : ArrW 24 wr N d
  res : ArrW 24 wr (N + 1) 0
  quo : ArrM 22 L wr (N + 2) 0
  dv : ArrM 22 (m + 2) wr (N + 3) Vv
  below : Below N w wr
theorem DvA.put {N L m d : Nat} {w wr : World} {Vv : Nat} (h : DvA N L m d w wr Vv) (j v : Nat) (hv : v < 2 ^ 64) : DvA N L m d w (wr.setCell ⟨N + 3, j, none⟩ (.int .u64 (v : Int))) (setL Vv j v) :=
  ⟨h.box.other (by show N ≠ N + 3; omega) _, h.res.other (by show N + 1 ≠ N + 3; omega) _, h.quo.other (by show N + 2 ≠ N + 3; omega) _, h.dv.set j v hv, h.below.setCell (p := ⟨N + 3, j, none⟩) (by show N ≤ N + 3; omega) _⟩
theorem DvA.ext {N L m d : Nat} {w wr : World} {Vv : Nat} (h : DvA N L m d w wr Vv) (hN : N ≤ w.heap.size) (y : World) : DvA N L m d w (wr.ext y) Vv :=
  ⟨h.box.ext y, h.res.ext y, h.quo.ext y, h.dv.ext y, World.ext_below_of h.below (Nat.le_trans hN h.below.size) y⟩

/-- What the rows hold from then on. -/
structure DvC (N L m d X V : Nat) (w wr : World) (Q Z : Nat) : Prop where
  box : ArrW 24 wr N d
  res : ArrW 24 wr (N + 1) 0
  quo : ArrM 22 L wr (N + 2) Q
  dv : ArrM 22 (m + 2) wr (N + 3) V
  xs : ArrM 22 (L + 1) wr X Z
  below : Below N w wr
theorem DvC.put {N L m d X V : Nat} {w wr : World} {Q Z : Nat} (h : DvC N L m d X V w wr Q Z) (hX : N + 3 < X) (j v : Nat) (hv : v < 2 ^ 64) : DvC N L m d X V w (wr.setCell ⟨X, j, none⟩ (.int .u64 (v : Int))) Q (setL Z j v) :=
  ⟨h.box.other (by show N ≠ X; omega) _, h.res.other (by show N + 1 ≠ X; omega) _, h.quo.other (by show N + 2 ≠ X; omega) _, h.dv.other (by show N + 3 ≠ X; omega) _, h.xs.set j v hv, h.below.setCell (p := ⟨X, j, none⟩) (by show N ≤ X; omega) _⟩
theorem DvC.putq {N L m d X V : Nat} {w wr : World} {Q Z : Nat} (h : DvC N L m d X V w wr Q Z) (hX : N + 3 < X) (j v : Nat) (hv : v < 2 ^ 64) : DvC N L m d X V w (wr.setCell ⟨N + 2, j, none⟩ (.int .u64 (v : Int))) (setL Q j v) Z :=
  ⟨h.box.other (by show N ≠ N + 2; omega) _, h.res.other (by show N + 1 ≠ N + 2; omega) _, h.quo.set j v hv, h.dv.other (by show N + 3 ≠ N + 2; omega) _, h.xs.other (by show X ≠ N + 2; omega) _, h.below.setCell (p := ⟨N + 2, j, none⟩) (by show N ≤ N + 2; omega) _⟩
theorem DvC.ext {N L m d X V : Nat} {w wr : World} {Q Z : Nat} (h : DvC N L m d X V w wr Q Z) (hN : N ≤ w.heap.size) (y : World) : DvC N L m d X V w (wr.ext y) Q Z :=
  ⟨h.box.ext y, h.res.ext y, h.quo.ext y, h.dv.ext y, h.xs.ext y, World.ext_below_of h.below (Nat.le_trans hN h.below.size) y⟩
/-- A step turned the row. -/
theorem DvC.turn {N L m d X V : Nat} {w wr wn : World} {Q Z Z' : Nat} (h : DvC N L m d X V w wr Q Z) (hX : N + 3 < X) (hb : Below X wr wn) (hx : ArrM 22 (L + 1) wn X Z') : DvC N L m d X V w wn Q Z' :=
  ⟨h.box.below hb (by omega), h.res.below hb (by omega), h.quo.below hb (by omega), h.dv.below hb (by omega), hx, h.below.trans (hb.mono (by omega))⟩
theorem DvC.alloc {N L m d X V : Nat} {w wr : World} {Q Z : Nat} (h : DvC N L m d X V w wr Q Z) (hN : N ≤ w.heap.size) (o : Obj) : DvC N L m d X V w (wr.alloc o) Q Z :=
  ⟨h.box.alloc _, h.res.alloc _, h.quo.alloc _, h.dv.alloc _, h.xs.alloc _, h.below.alloc (Nat.le_trans hN h.below.size) _⟩

set_option maxRecDepth 100000 in
set_option maxHeartbeats 8000000 in
theorem divideN_any (L U d : Nat) (v : Value) (w : World) (hr : RdM w v L U) (hU : U < 2 ^ (64 * L)) (hL4 : 4 ≤ L) (hL9 : L ≤ 9) (hd : 2 ^ 64 ≤ d) (hd256 : d < 2 ^ 256) :
    Calls Try.prog 120 #[v, wd d] w fun e w' => ∃ gq, e = .returned (.tuple #[.slice (some ⟨gq, 0, none⟩) L L, wd (U % d)]) ∧ ArrM 22 L w' gq (U / d) ∧ w.heap.size ≤ gq ∧ Below w.heap.size w w' := by
  have hW := hid (fun v w hr => width_any 4 d v w hr hd256 (by omega))
  obtain ⟨m, hm2, hbn, hdn, htop, hbt⟩ := top_limb d hd hd256
  have hb2 := bl_le d 256 hd256
  have htl := bl_le (lmN d (m + 1)) 64 (lmN_lt _ _)
  have hLZ := hid (fun w => lz64_same (lmN d (m + 1)) (lmN_lt _ _) w)
  have hds := bl_spec d (by omega)
  obtain ⟨s, hs⟩ : ∃ s, s = 64 - bl (lmN d (m + 1)) := ⟨_, rfl⟩
  rw [← hs] at hLZ
  have htb := (bl_spec (lmN d (m + 1)) (by omega)).1
  have hs63 : s ≤ 63 := by omega
  obtain ⟨V, hV⟩ : ∃ V, V = d * 2 ^ s := ⟨_, rfl⟩
  have hps : 0 < 2 ^ s := Nat.pow_pos (by omega)
  have hV1 : V < 2 ^ (64 * (m + 2)) := by
    rw [hV, show 64 * (m + 2) = bl d + s by omega, Nat.pow_add]
    exact Nat.mul_lt_mul_of_pos_right hds.2.2 hps
  have hV0 : 2 ^ (64 * (m + 1) + 63) ≤ V := by
    rw [hV, show 64 * (m + 1) + 63 = bl d - 1 + s by omega, Nat.pow_add]
    exact Nat.mul_le_mul_right _ hds.2.1
  have hV2 : 0 < lmN V (m + 1) := by
    unfold lmN
    have hp : 0 < 2 ^ (64 * (m + 1)) := Nat.pow_pos (by omega)
    have h1 := hV1
    rw [show m + 2 = (m + 1) + 1 from rfl, pow64_succ, Nat.mul_comm] at h1
    rw [Nat.mod_eq_of_lt ((Nat.div_lt_iff_lt_mul hp).2 h1)]
    exact Nat.div_pos (Nat.le_trans (Nat.pow_le_pow_right (by omega) (by omega)) hV0) hp
  have hVpos : 0 < V := by rw [hV]; exact Nat.mul_pos (by omega) hps
  have hZ0 : U * 2 ^ s < V * 2 ^ (64 * (L - (m + 2) + 1)) := by
    have h1 : U * 2 ^ s < 2 ^ (64 * L) * 2 ^ s := Nat.mul_lt_mul_of_pos_right hU hps
    have h2 : 2 ^ (64 * L) * 2 ^ s ≤ 2 ^ (64 * L) * 2 ^ 63 := Nat.mul_le_mul_left _ (Nat.pow_le_pow_right (by omega) hs63)
    have h3 : 2 ^ (64 * (m + 1) + 63) * 2 ^ (64 * (L - (m + 2) + 1)) ≤ V * 2 ^ (64 * (L - (m + 2) + 1)) := Nat.mul_le_mul_right _ hV0
    rw [← Nat.pow_add] at h2 h3
    rw [← Nat.pow_add] at h2
    rw [show 64 * (m + 1) + 63 + 64 * (L - (m + 2) + 1) = 64 * L + 63 by omega] at h3
    rw [← Nat.pow_add] at h1
    omega
  have HU := hid (show U % 2 ^ (64 * L) = U from Nat.mod_eq_of_lt hU)
  obtain ⟨bd, hbd⟩ : ∃ b, b = bl d := ⟨_, rfl⟩
  rw [← hbd] at hW
  have hne : (((bd : Int) + 63) / 64) = (m : Int) + 2 := by omega
  have HV := hid hV
  have HV1 := hid hV1
  have HV2 := hid hV2
  have HVp := hid hVpos
  have HZ0 := hid hZ0
  have hVd : V / 2 ^ s = d := by rw [hV, Nat.mul_div_cancel _ hps]
  have HVd := hid hVd
  have hmk := mkM L (by omega)
  have hmk2 : ∀ w : World, (Instr.makeSlice 71 (.int .i64 ((m : Int) + 2)) (.int .i64 ((m : Int) + 2))).run Try.prog w = .ok (.slice (some ⟨w.heap.size, 0, none⟩) (m + 2) (m + 2)) (w.alloc (.cells (cellsM (m + 2) 0) 22)) := fun w => mkM (m + 2) (by omega) w
  have hmk3 : ∀ w : World, (Instr.makeSlice 71 (.int .i64 ((L : Int) + 1)) (.int .i64 ((L : Int) + 1))).run Try.prog w = .ok (.slice (some ⟨w.heap.size, 0, none⟩) (L + 1) (L + 1)) (w.alloc (.cells (cellsM (L + 1) 0) 22)) := fun w => mkM (L + 1) (by omega) w
  obtain ⟨a, cap, rfl, hc, hr⟩ := hr
  have HR := hid hr
  have hmne : ¬ (m : Int) + 2 = 1 := by omega
  have hml : m + 2 ≤ 4 := by omega
  clear hr hU hd hd256 hbn hdn htop hbt hb2 htl hds hs htb hV hV1 hV0 hV2 hVpos hZ0 hVd hbd hps
  unfold wd at *
  have hA0 := hid (show ArrW 24 (((w.alloc (.cells (cellsW d) 24)).alloc (.cells (cellsW 0) 24)).alloc (.cells (cellsM L 0) 22)) w.heap.size d from ((ArrW.new _ w d).alloc _).alloc _)
  have hrd := hid (show RdM ((w.alloc (.cells (cellsW d) 24)).alloc (.cells (cellsW 0) 24)) (.slice (some ⟨w.heap.size, 0, none⟩) 4 4) 4 d from ((ArrW.new _ w d).alloc _).toM.rd 4 (by omega))
  have hB0 := hid (show ArrW 24 (((w.alloc (.cells (cellsW d) 24)).alloc (.cells (cellsW 0) 24)).alloc (.cells (cellsM L 0) 22)) (w.heap.size + 1) 0 by
    have := ArrW.new 24 (w.alloc (.cells (cellsW d) 24)) 0
    rw [World.size_alloc] at this; exact this.alloc _)
  have hC0 := hid (show ArrM 22 L (((w.alloc (.cells (cellsW d) 24)).alloc (.cells (cellsW 0) 24)).alloc (.cells (cellsM L 0) 22)) (w.heap.size + 2) 0 by
    have := ArrM.new 22 L ((w.alloc (.cells (cellsW d) 24)).alloc (.cells (cellsW 0) 24)) 0
    rw [World.size_alloc, World.size_alloc] at this; exact this)
  have hb0 : Below w.heap.size w (((w.alloc (.cells (cellsW d) 24)).alloc (.cells (cellsW 0) 24)).alloc (.cells (cellsM L 0) 22)) := (((Below.refl _ _).alloc (Nat.le_refl _) _).alloc (by simp) _).alloc (by simp; omega) _
  have cd := hA0.out.cell (m + 1) (by omega)
  have ld := hA0.out.lt
  go_enter Try.func120, Try.ntmps120
  go_wp2_with (refine wpList_alloc_new rfl 24 rfl (cellsW 0) zWd ?_; simp only [Act.put, List.setIfInBounds_toArray, List.set_cons_zero, List.set_cons_succ, World.size_alloc])
  refine (hW.out _ _ hrd.out).mono ?_
  rintro e w1 ⟨rfl, rfl⟩
  go_wp2_with fail
  refine (hLZ.out _).mono ?_
  rintro e w1 ⟨rfl, rfl⟩
  have hbf : (((m : Int) + 2) == 1) = false := beq_eq_false_iff_ne.2 (by omega)
  simp only [hne, hbf]
  have hI0 : Hid (DvA w.heap.size L m d w ((((w.alloc (.cells (cellsW d) 24)).alloc (.cells (cellsW 0) 24)).alloc (.cells (cellsM L 0) 22)).alloc (.cells (cellsM (m + 2) 0) 22)) (V % 2 ^ (64 * 0))) := hid ⟨hA0.out.alloc _, hB0.out.alloc _, hC0.out.alloc _, by
    rw [Nat.mul_zero, Nat.pow_zero, Nat.mod_one]
    have := ArrM.new 22 (m + 2) (((w.alloc (.cells (cellsW d) 24)).alloc (.cells (cellsW 0) 24)).alloc (.cells (cellsM L 0) 22)) 0
    rw [World.size_alloc, World.size_alloc, World.size_alloc] at this; exact this, hb0.alloc hb0.size _⟩
  clear hA0 hB0 hC0 hb0 hrd cd ld hW hLZ hbf
  go_wp2_with fail
  (try simp only [World.size_alloc, show m + 2 - 1 = m + 1 from rfl])
  generalize (((w.alloc (.cells (cellsW d) 24)).alloc (.cells (cellsW 0) 24)).alloc (.cells (cellsM L 0) 22)).alloc (.cells (cellsM (m + 2) 0) 22) = w1 at hI0 ⊢
  have h64 : (64 - (s : Int)).toNat = 64 - s := by omega
  go_loopw [59] (fun iv wr => ∃ i : Nat, i ≤ m + 2 ∧ iv = .int .i64 (i : Int) ∧ Hid (DvA w.heap.size L m d w wr (V % 2 ^ (64 * i))))
    (fun iv _ => m + 2 - (intOf iv).toNat)
  case atStart => exact ⟨0, by omega, rfl, hI0⟩
  case round =>
    clear hI0
    obtain ⟨i, hi, rfl, hI⟩ := hrel
    by_cases hlt : i < m + 2
    · have cd := hI.out.box.cell i (by omega)
      have ld := hI.out.box.lt
      have cv := hI.out.dv.cell i hlt
      have fv := hI.out.dv.free i
      have lv := hI.out.dv.lt
      have gd := lmN_lt d i
      obtain ⟨u1, hu1⟩ : ∃ u, u = lmN d i * 2 ^ s % 2 ^ 64 := ⟨_, rfl⟩
      have bu1 : u1 < 2 ^ 64 := by rw [hu1]; exact Nat.mod_lt _ (by decide)
      have E1 : IntKind.u64.wrap (lm d i * 2 ^ s) = (u1 : Int) := by
        unfold lm
        rw [hu1, show ((lmN d i : Nat) : Int) * 2 ^ s = ((lmN d i * 2 ^ s : Nat) : Int) by rw [Int.natCast_mul, Int.natCast_pow]; rfl, u64w_nat]
      rcases Nat.eq_zero_or_pos i with h0 | h0
      · subst h0
        have HS := hid (show V % 2 ^ (64 * (0 + 1)) = setL (V % 2 ^ (64 * 0)) 0 u1 by
          rw [low_succ, setL_top _ _ _ (low_lt V 0), HV.out, shl_limb0, hu1])
        clear hu1
        go_wp2_with fail
        go_roundw
        case rel => exact ⟨1, by omega, by go_num, hid (by rw [show (1 : Nat) = 0 + 1 from rfl, HS.out]; exact hI.out.put 0 u1 bu1)⟩
        case measure => simp [intOf]
      · obtain ⟨j, rfl⟩ : ∃ j, i = j + 1 := ⟨i - 1, by omega⟩
        have cd2 := hI.out.box.cell j (by omega)
        have hv2 : lmN V (j + 1) = u1 ||| lmN d j / 2 ^ (64 - s) := by rw [HV.out, shl_limb d s j (by omega), hu1]
        have HVal := hid (show bits .or .u64 (u1 : Int) (lm d j / 2 ^ (64 - s)) = ((lmN V (j + 1) : Nat) : Int) by
          rw [hv2, ← u64_or_nat _ _ bu1 (Nat.lt_of_le_of_lt (Nat.div_le_self _ _) (lmN_lt d j)), Int.natCast_ediv, Int.natCast_pow]; rfl)
        have HS := hid (show V % 2 ^ (64 * (j + 1 + 1)) = setL (setL (V % 2 ^ (64 * (j + 1))) (j + 1) u1) (j + 1) (lmN V (j + 1)) by
          rw [low_succ, setL_twice _ _ _ _ (low_lt V (j + 1)) bu1])
        have hI1 := hid (hI.out.put (j + 1) u1 bu1)
        clear hu1 hv2
        go_wp2_with fail
        clear cd cd2 ld cv fv lv hI
        generalize wr.setCell ⟨w.heap.size + 3, j + 1, none⟩ (.int .u64 (u1 : Int)) = wr at hI1 ⊢
        have cd2 := hI1.out.box.cell j (by omega)
        have ld := hI1.out.box.lt
        have cv := hI1.out.dv.cell (j + 1) hlt
        rw [lmN_setL _ _ _ _ bu1, if_pos rfl] at cv
        have fv := hI1.out.dv.free (j + 1)
        have lv := hI1.out.dv.lt
        (refine wp_region_ext_tail 13 (by kernel_rfl) (by kernel_rfl) ?_; simp only [List.take_succ_cons, List.take_zero, List.drop_succ_cons, List.drop_zero]; (repeat (go_big_quiet_step (first | fail))); refine wpQuiet_nil ?_; rintro _ ⟨xw, rfl⟩)
        go_wp2_with fail
        go_roundw
        case rel =>
          rw [HVal.out]
          exact ⟨j + 1 + 1, by omega, by go_num, hid (by rw [HS.out]; exact (hI1.out.ext (Nat.le_refl _) xw).put (j + 1) _ (lmN_lt _ _))⟩
        case measure => simp [intOf]; omega
    · obtain rfl : i = m + 2 := by omega
      rw [Nat.mod_eq_of_lt HV1.out] at hI
      have hXn := hI.out.dv.lt
      obtain ⟨X, hX⟩ : ∃ X, X = wr.heap.size := ⟨_, rfl⟩
      have hXA : Hid (ArrM 22 (L + 1) (wr.alloc (.cells (cellsM (L + 1) 0) 22)) X (U % 2 ^ (64 * 0) * 2 ^ s)) := hid (by
        rw [Nat.mul_zero, Nat.pow_zero, Nat.mod_one, Nat.zero_mul, hX]; exact ArrM.new _ _ _ _)
      have hI2 : Hid (DvA w.heap.size L m d w (wr.alloc (.cells (cellsM (L + 1) 0) 22)) V) := hid ⟨hI.out.box.alloc _, hI.out.res.alloc _, hI.out.quo.alloc _, hI.out.dv.alloc _, hI.out.below.alloc hI.out.below.size _⟩
      clear hI hlt hi
      go_wp2_with fail
      (try simp only [← hX])
      generalize wr.alloc (.cells (cellsM (L + 1) 0) 22) = w2 at hXA hI2 ⊢
      rw [← hX] at hXn
      clear hX
      have hJ : Hid (DvC w.heap.size L m d X V w w2 0 (U % 2 ^ (64 * 0) * 2 ^ s)) := hid ⟨hI2.out.box, hI2.out.res, hI2.out.quo, hI2.out.dv, hXA.out, hI2.out.below⟩
      clear hXA hI2
      go_loopw [92] (fun iv wr => ∃ i : Nat, i ≤ L ∧ iv = .int .i64 (i : Int) ∧ Hid (DvC w.heap.size L m d X V w wr 0 (U % 2 ^ (64 * i) * 2 ^ s)))
        (fun iv _ => L - (intOf iv).toNat)
      case atStart => exact ⟨0, by omega, rfl, hJ⟩
      case round =>
        clear hJ
        obtain ⟨i, hi, rfl, hJ⟩ := hrel
        by_cases hlt : i < L
        · obtain ⟨b, off, rfl, hbl, hcell⟩ := HR.out (by omega)
          obtain ⟨t1, t2, t3⟩ := lift_step U s i (by omega)
          have cx := hJ.out.xs.cell i (by omega)
          have fx := hJ.out.xs.free i
          have lx := hJ.out.xs.lt
          have cu := (hJ.out.below.cell (p := ⟨b, off + i, none⟩) hbl).trans (hcell i hlt)
          have lu : b < wr.heap.size := Nat.lt_of_lt_of_le hbl hJ.out.below.size
          have gu := lmN_lt U i
          obtain ⟨c, hc2⟩ : ∃ c, c = lmN (U % 2 ^ (64 * i) * 2 ^ s) i := ⟨_, rfl⟩
          rw [← hc2] at t1 t2 t3 cx
          have hcs : c < 2 ^ 64 := Nat.lt_trans t1 (Nat.lt_of_le_of_lt (Nat.pow_le_pow_right (by omega) hs63) (by decide))
          obtain ⟨y, hy⟩ : ∃ y, y = c + lmN U i * 2 ^ s % 2 ^ 64 := ⟨_, rfl⟩
          have HVal := hid (show bits .or .u64 (c : Int) (IntKind.u64.wrap (((lmN U i : Nat) : Int) * 2 ^ s)) = (y : Int) by
            rw [show ((lmN U i : Nat) : Int) * 2 ^ s = ((lmN U i * 2 ^ s : Nat) : Int) by rw [Int.natCast_mul, Int.natCast_pow]; rfl, u64w_nat, show (18446744073709551616 : Nat) = 2 ^ 64 from by decide]
            rw [u64_or_nat _ _ hcs (Nat.mod_lt _ (by decide)), or_shl c _ s (by omega) t1, hy])
          rw [← hy] at t2 t3
          have HT3 := hid t3
          obtain ⟨z, hz⟩ : ∃ z, z = lmN U i / 2 ^ (64 - s) := ⟨_, rfl⟩
          have hz2 : z < 2 ^ 64 := by rw [hz]; exact Nat.lt_of_le_of_lt (Nat.div_le_self _ _) gu
          have HZv := hid (show (((lmN U i : Nat) : Int)) / 2 ^ (64 - s) = (z : Int) by rw [hz, Int.natCast_ediv, Int.natCast_pow]; rfl)
          rw [← hz] at HT3
          clear hc2 hy hz t3 hcell t1
          go_wp2_with fail
          (refine wp_region_ext_tail 12 (by kernel_rfl) (by kernel_rfl) ?_; simp only [List.take_succ_cons, List.take_zero, List.drop_succ_cons, List.drop_zero]; (repeat (go_big_quiet_step (first | fail))); refine wpQuiet_nil ?_; rintro _ ⟨xw, rfl⟩)
          have hJ1 := hid ((hJ.out.ext (Nat.le_refl _) xw).put hXn i y t2)
          have cx1 := hJ.out.xs.cell (i + 1) (by omega)
          have fx1 := hJ.out.xs.free (i + 1)
          have hbX : ¬ b = X := by omega
          have hbX' : ¬ X = b := by omega
          go_wp2_with fail
          rw [HVal.out]
          rw [HZv.out]
          go_roundw
          case rel => exact ⟨i + 1, by omega, by go_num, hid (by rw [← HT3.out]; exact hJ1.out.put hXn (i + 1) z hz2)⟩
          case measure => simp [intOf]; omega
        · obtain rfl : L = i := by omega
          rw [HU.out] at hJ
          clear hlt hi
          have hge : ¬ ((L : Int) - ((m : Int) + 2) < 0) := by omega
          go_wp2_with fail
          go_loopw [15] (fun kv wr => ∃ k Q Z : Nat, k ≤ L - (m + 2) + 1 ∧ kv = .int .i64 ((k : Int) - 1) ∧ Hid (Z < V * 2 ^ (64 * k) ∧ Z + V * Q = U * 2 ^ s ∧ Q % 2 ^ (64 * k) = 0) ∧ Hid (DvC w.heap.size L m d X V w wr Q Z))
            (fun kv _ => (intOf kv + 1).toNat)
          case atStart => exact ⟨L - (m + 2) + 1, 0, U * 2 ^ s, Nat.le_refl _, by go_num, hid ⟨HZ0.out, by rw [Nat.mul_zero, Nat.add_zero], Nat.zero_mod _⟩, hJ⟩
          case round =>
            clear hJ
            obtain ⟨k, Q, Z, hk, rfl, hQ, hJ⟩ := hrel
            by_cases h0 : k = 0
            · subst h0
              have hZV : Z < V := by have := hQ.out.1; rw [Nat.mul_zero, Nat.pow_zero, Nat.mul_one] at this; exact this
              have hdiv : U * 2 ^ s / V = Q := by
                rw [← hQ.out.2.1, Nat.add_mul_div_left _ _ HVp.out, Nat.div_eq_of_lt hZV, Nat.zero_add]
              have hmod : U * 2 ^ s % V = Z := by
                rw [← hQ.out.2.1, Nat.add_mul_mod_self_left, Nat.mod_eq_of_lt hZV]
              have hsh := div_shift U d s
              rw [← HV.out, hdiv, hmod] at hsh
              have HQd := hid hsh.1.symm
              have HRd := hid hsh.2.symm
              have HZl := hid (show Z / 2 ^ s % 2 ^ (64 * (m + 2)) = Z / 2 ^ s from Nat.mod_eq_of_lt (Nat.lt_of_le_of_lt (Nat.div_le_self _ _) (Nat.lt_trans hZV HV1.out)))
              have hRs := hid hJ.out.below.size
              have hJ1 := hid (hJ.out.alloc (Nat.le_refl _) (.cells (cellsW 0) 24))
              have hR1 := hid (ArrW.new 24 wr 0)
              have hXR := hJ.out.xs.lt
              have hqR := hJ.out.quo.lt
              clear hQ hZV hdiv hmod hsh hJ hk
              go_wp2_with (refine wpList_alloc_new rfl 24 rfl (cellsW 0) zWd ?_; simp only [Act.put, List.setIfInBounds_toArray, List.set_cons_zero, List.set_cons_succ, World.size_alloc])
              generalize ((0 : Nat) : Int) - 1 = mone
              obtain ⟨R, hR⟩ : ∃ R, R = wr.heap.size := ⟨_, rfl⟩
              have hK : Hid (DvC w.heap.size L m d X V w (wr.alloc (.cells (cellsW 0) 24)) Q Z ∧ ArrM 24 4 (wr.alloc (.cells (cellsW 0) 24)) R (Z / 2 ^ s % 2 ^ (64 * 0))) := hid ⟨hJ1.out, by
                rw [Nat.mul_zero, Nat.pow_zero, Nat.mod_one, hR]; exact hR1.out.toM⟩
              rw [← hR] at hXR ⊢
              generalize wr.alloc (.cells (cellsW 0) 24) = w6 at hK ⊢
              clear hJ1 hR1 hR hRs hqR
              go_loopw [140] (fun iv wr => ∃ i : Nat, i ≤ m + 2 ∧ iv = .int .i64 (i : Int) ∧ Hid (DvC w.heap.size L m d X V w wr Q Z ∧ ArrM 24 4 wr R (Z / 2 ^ s % 2 ^ (64 * i))))
                (fun iv _ => m + 2 - (intOf iv).toNat)
              case atStart => exact ⟨0, by omega, rfl, hK⟩
              case round =>
                clear hK
                obtain ⟨i, hi, rfl, hK⟩ := hrel
                by_cases hlt : i < m + 2
                · have cx := hK.out.1.xs.cell i (by omega)
                  have cx1 := hK.out.1.xs.cell (i + 1) (by omega)
                  have lx := hK.out.1.xs.lt
                  have cr := hK.out.2.cell i (by omega)
                  have fr := hK.out.2.free i
                  have lr := hK.out.2.lt
                  have gx := lmN_lt Z i
                  have gx1 := lmN_lt Z (i + 1)
                  have HVal := hid (show bits .or .u64 (((lmN Z i : Nat) : Int) / 2 ^ s) (IntKind.u64.wrap (((lmN Z (i + 1) : Nat) : Int) * 2 ^ (64 - s))) = ((lmN (Z / 2 ^ s) i : Nat) : Int) by
                    rw [shr_limb Z s i (by omega), show ((lmN Z i : Nat) : Int) / 2 ^ s = ((lmN Z i / 2 ^ s : Nat) : Int) by rw [Int.natCast_ediv, Int.natCast_pow]; rfl]
                    rw [show ((lmN Z (i + 1) : Nat) : Int) * 2 ^ (64 - s) = ((lmN Z (i + 1) * 2 ^ (64 - s) : Nat) : Int) by rw [Int.natCast_mul, Int.natCast_pow]; rfl, u64w_nat, show (18446744073709551616 : Nat) = 2 ^ 64 from by decide]
                    rw [u64_or_nat _ _ (Nat.lt_of_le_of_lt (Nat.div_le_self _ _) gx) (Nat.mod_lt _ (by decide))])
                  have HS := hid (show Z / 2 ^ s % 2 ^ (64 * (i + 1)) = setL (Z / 2 ^ s % 2 ^ (64 * i)) i (lmN (Z / 2 ^ s) i) by
                    rw [low_succ, setL_top _ _ _ (low_lt _ i)])
                  go_wp2_with fail
                  (refine wp_region_ext_tail 17 (by kernel_rfl) (by kernel_rfl) ?_; simp only [List.take_succ_cons, List.take_zero, List.drop_succ_cons, List.drop_zero]; (repeat (go_big_quiet_step (first | fail))); refine wpQuiet_nil ?_; rintro _ ⟨xw, rfl⟩)
                  go_wp2_with fail
                  go_roundw
                  case rel =>
                    rw [HVal.out]
                    refine ⟨i + 1, by omega, by go_num, hid ⟨?_, by rw [HS.out]; exact (hK.out.2.ext xw).set i _ (lmN_lt _ _)⟩⟩
                    have hE := hK.out.1.ext (Nat.le_refl _) xw
                    exact ⟨hE.box.other (by show w.heap.size ≠ R; omega) _, hE.res.other (by show w.heap.size + 1 ≠ R; omega) _, hE.quo.other (by show w.heap.size + 2 ≠ R; omega) _, hE.dv.other (by show w.heap.size + 3 ≠ R; omega) _, hE.xs.other (by show X ≠ R; omega) _, hE.below.setCell (p := ⟨R, i, none⟩) (by show w.heap.size ≤ R; omega) _⟩
                  case measure => simp [intOf]; omega
                · obtain rfl : i = m + 2 := by omega
                  rw [HZl.out, ← HRd.out, ← HQd.out] at hK
                  obtain ⟨r, hr⟩ : ∃ r, r = U % d := ⟨_, rfl⟩
                  rw [← hr] at hK
                  have HRR := hid hr
                  have hRw := hid hK.out.2.toW
                  have hres := hid hK.out.1.res
                  have hquo := hid hK.out.1.quo
                  have hbel := hK.out.1.below
                  have iR := hid (iW r)
                  have nR := hid (one_cellsW r)
                  clear hr hK hlt hi
                  go_wp2_with fail
                  ((try simp only [World.size_alloc]); refine wp_region_ext_tail 3 (by kernel_rfl) (by kernel_rfl) ?_; simp only [List.take_succ_cons, List.take_zero, List.drop_succ_cons, List.drop_zero]; (repeat (first | (refine wpQuiet_load_part rfl 24 (.tmp 16) rfl R 0 rfl 24 _ (cellsW _) (0, 0) _ hRw.out (fun j v h => by rw [Nat.zero_add]; exact h) uWd rfl iR.out ?_; simp only [Act.put, List.setIfInBounds_toArray, List.set_cons_zero, List.set_cons_succ]) | go_big_quiet_step (first | fail))); refine wpQuiet_nil ?_; rintro _ ⟨xw, rfl⟩)
                  have hres2 := hid (hres.out.ext xw)
                  have hquo2 := hid (hquo.out.ext xw)
                  have hbel2 := World.ext_below_of hbel hbel.size xw
                  clear hres hquo hbel
                  go_wp2_with (refine wpList_store_row rfl 24 (.tmp 5) (.tmp 162) rfl (w.heap.size + 1) _ rfl rfl 24 _ hres2.out iR.out rfl nR.out ?_; simp only [Act.put])
                  refine bodyPost_ret (results_tmp_row rfl _ _ (w.heap.size + 1) 24 (cellsW r) (0, 0) _ rfl (heap_setRow' _ _ _ _ _ hres2.out) uWd rfl iR.out) rfl ⟨w.heap.size + 2, by rw [HRR.out]; rfl, ?_, by omega, below_setRow' hbel2 _ (by omega) _⟩
                  have h9 := hquo2.out
                  unfold ArrM at *
                  simp only [World.setRow, Array.getElem?_modify]
                  rw [if_neg (by omega)]; exact h9
            · obtain ⟨j, rfl⟩ : ∃ j, k = j + 1 := ⟨k - 1, by omega⟩
              have e1 : (((j + 1 : Nat) : Int) - 1) = (j : Int) := by omega
              rw [e1]
              obtain ⟨w1', w2'⟩ := long_win Z V j (m + 2) HV1.out hQ.out.1
              have hSt := hid (step_any X j (L + 1) Z (w.heap.size + 3) m V (L + 1 - j) wr hJ.out.xs hJ.out.dv hXn (by omega) (by omega) (by omega) (by omega) HV1.out HV2.out w2')
              obtain ⟨q, hq⟩ : ∃ q, q = win Z j (m + 3) / V := ⟨_, rfl⟩
              rw [← hq] at hSt
              have hq64 : q < 2 ^ 64 := by rw [hq, Nat.div_lt_iff_lt_mul HVp.out, Nat.mul_comm]; exact w2'
              have hqe := hid (show q = Z / 2 ^ (64 * j) / V by rw [hq, ← w1'])
              have hW1 := hid w1'
              have cq := hJ.out.quo.cell j (by omega)
              clear e1 h0 hq w1' w2'
              go_wp2_with fail
              rw [show j + (m + 2) + 1 - j = m + 3 by omega]
              refine hSt.out.mono ?_
              rintro e w5 ⟨Z', rfl, hx5, he5, hb5⟩
              have hJ5 := hid (hJ.out.turn hXn hb5 hx5)
              have cq5 := hJ5.out.quo.cell j (by omega)
              have fq5 := hJ5.out.quo.free j
              have lq5 := hJ5.out.quo.lt
              have hnew := setL_below Q j q hQ.out.2.2
              have HN1 := hid hnew.1
              have HN2 := hid (And.intro (long_step Z Z' V j q (m + 2) HVp.out HV1.out hQ.out.1 hW1.out hqe.out he5) (And.intro (show Z' + V * (Q + 2 ^ (64 * j) * q) = U * 2 ^ s by
                have h1 := hQ.out.2.1
                rw [← he5] at h1
                rw [Nat.mul_add, Nat.mul_left_comm V, Nat.mul_comm V q]
                omega) hnew.2))
              clear hJ hb5 hx5 he5 hSt hnew cq
              go_wp2_with fail
              go_roundw
              case rel => exact ⟨j, Q + 2 ^ (64 * j) * q, Z', by omega, by go_num, HN2, hid (by rw [← HN1.out]; exact hJ5.out.putq hXn j q hq64)⟩
              case measure => simp [intOf]
end Go.Proofs.Ytfidbiabgmioaaa
