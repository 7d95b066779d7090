import Derived.Test.YtfidbiabgmioaaaFldM
import Derived.Test.YtfidbiabgmioaaaDivI
/-! field: scalars; bytes read. -/
set_option maxRecDepth 4000
set_option linter.unusedVariables false
set_option linter.unusedSimpArgs false
namespace Go.Proofs.Ytfidbiabgmioaaa
open Go.RowKit

theorem modW_lN (s : Nat) : modW s lN = s % lN := by unfold modW; rw [if_neg (by have := lN_pos; omega)]
set_option maxHeartbeats 1000000 in
theorem ladd_any (a b : Nat) (w : World) (ha : a < 2 ^ 256) (hb : b < 2 ^ 256) : Calls Try.prog 74 #[wd a, wd b] w fun e w' => e = .returned (wd ((a + b) % lN)) ∧ Below w.heap.size w w' := by
  have hL := hid fL_any
  have hM := hid (fun w => waddmod_any a b lN w ha hb lN_lt)
  rw [modW_lN] at hM
  obtain ⟨r, hr⟩ : ∃ r, r = (a + b) % lN := ⟨_, rfl⟩
  rw [← hr] at hM ⊢
  generalize lN = l at *
  clear ha hb hr
  unfold wd at *
  have iA := hid (iW a)
  have iB := hid (iW b)
  have iR := hid (iW r)
  have nR := hid (one_cellsW r)
  have hA0 := hid (show ArrW 24 (((w.alloc (.cells (cellsW a) 24)).alloc (.cells (cellsW b) 24)).alloc (.cells (cellsW 0) 24)) w.heap.size a from ((ArrW.new _ w a).alloc _).alloc _)
  have hB0 := hid (show ArrW 24 (((w.alloc (.cells (cellsW a) 24)).alloc (.cells (cellsW b) 24)).alloc (.cells (cellsW 0) 24)) (w.heap.size + 1) b by
    have := ArrW.new 24 (w.alloc (.cells (cellsW a) 24)) b
    rw [World.size_alloc] at this; exact this.alloc _)
  have hC0 := hid (show ArrW 24 (((w.alloc (.cells (cellsW a) 24)).alloc (.cells (cellsW b) 24)).alloc (.cells (cellsW 0) 24)) (w.heap.size + 2) 0 by
    have := ArrW.new 24 ((w.alloc (.cells (cellsW a) 24)).alloc (.cells (cellsW b) 24)) 0
    rw [World.size_alloc, World.size_alloc] at this; exact this)
  have hb0 : Below w.heap.size w (((w.alloc (.cells (cellsW a) 24)).alloc (.cells (cellsW b) 24)).alloc (.cells (cellsW 0) 24)) := (((Below.refl _ _).alloc (Nat.le_refl _) _).alloc (by simp) _).alloc (by simp; omega) _
  go_enter Try.func74, Try.ntmps74
  go_wp2_with (refine wpList_alloc_new rfl 24 rfl (cellsW 0) zWd ?_; simp only [Act.put, List.setIfInBounds_toArray, List.set_cons_zero, List.set_cons_succ, World.size_alloc])
  generalize ((w.alloc (.cells (cellsW a) 24)).alloc (.cells (cellsW b) 24)).alloc (.cells (cellsW 0) 24) = w1 at hA0 hB0 hC0 hb0 ⊢
  ((try simp only [World.size_alloc]); refine wp_region_ext_tail 4 (by kernel_rfl) (by kernel_rfl) ?_; simp only [List.take_succ_cons, List.take_zero, List.drop_succ_cons, List.drop_zero]; (repeat (first | (refine wpQuiet_load_want 24 (.tmp 2) rfl w.heap.size rfl 24 (cellsW _) _ hA0.out uWd rfl iA.out rfl ?_; simp only [Act.put, List.setIfInBounds_toArray, List.set_cons_zero, List.set_cons_succ]) | (refine wpQuiet_load_want 24 (.tmp 3) rfl (w.heap.size + 1) rfl 24 (cellsW _) _ hB0.out uWd rfl iB.out rfl ?_; simp only [Act.put, List.setIfInBounds_toArray, List.set_cons_zero, List.set_cons_succ]) | go_big_quiet_step (first | (go_at_call 98; with_reducible refine Calls.ext_of (hL.out _)) | (go_at_call 70; with_reducible refine Calls.ext_of (hM.out _))))); refine wpQuiet_nil ?_; rintro _ ⟨xw, rfl⟩)
  have hC1 := hid (hC0.out.ext xw)
  have hb1 := World.ext_below_of hb0 hb0.size xw
  generalize w1.ext xw = w2 at hC1 hb1 ⊢
  clear hA0 hB0 hC0 hb0
  (refine wpList_store_row rfl 24 (.tmp 4) (.tmp 8) rfl (w.heap.size + 2) _ rfl rfl 24 _ hC1.out iR.out rfl nR.out ?_; simp only [Act.put])
  go_wp2
  refine bodyPost_ret (results_cell_row rfl _ _ (w.heap.size + 2) 24 (cellsW r) (0, 0) _ rfl (heap_setRow' _ _ _ _ _ hC1.out) uWd rfl iR.out) rfl ⟨rfl, below_setRow' hb1 _ (by omega) _⟩
set_option maxHeartbeats 1000000 in
theorem lmul_any (a b : Nat) (w : World) (ha : a < 2 ^ 256) (hb : b < 2 ^ 256) : Calls Try.prog 76 #[wd a, wd b] w fun e w' => e = .returned (wd ((a * b) % lN)) ∧ Below w.heap.size w w' := by
  have hL := hid fL_any
  have hM := hid (fun w => wmulmod_any a b lN w ha hb lN_lt)
  rw [modW_lN] at hM
  obtain ⟨r, hr⟩ : ∃ r, r = (a * b) % lN := ⟨_, rfl⟩
  rw [← hr] at hM ⊢
  generalize lN = l at *
  clear ha hb hr
  unfold wd at *
  have iA := hid (iW a)
  have iB := hid (iW b)
  have iR := hid (iW r)
  have nR := hid (one_cellsW r)
  have hA0 := hid (show ArrW 24 (((w.alloc (.cells (cellsW a) 24)).alloc (.cells (cellsW b) 24)).alloc (.cells (cellsW 0) 24)) w.heap.size a from ((ArrW.new _ w a).alloc _).alloc _)
  have hB0 := hid (show ArrW 24 (((w.alloc (.cells (cellsW a) 24)).alloc (.cells (cellsW b) 24)).alloc (.cells (cellsW 0) 24)) (w.heap.size + 1) b by
    have := ArrW.new 24 (w.alloc (.cells (cellsW a) 24)) b
    rw [World.size_alloc] at this; exact this.alloc _)
  have hC0 := hid (show ArrW 24 (((w.alloc (.cells (cellsW a) 24)).alloc (.cells (cellsW b) 24)).alloc (.cells (cellsW 0) 24)) (w.heap.size + 2) 0 by
    have := ArrW.new 24 ((w.alloc (.cells (cellsW a) 24)).alloc (.cells (cellsW b) 24)) 0
    rw [World.size_alloc, World.size_alloc] at this; exact this)
  have hb0 : Below w.heap.size w (((w.alloc (.cells (cellsW a) 24)).alloc (.cells (cellsW b) 24)).alloc (.cells (cellsW 0) 24)) := (((Below.refl _ _).alloc (Nat.le_refl _) _).alloc (by simp) _).alloc (by simp; omega) _
  go_enter Try.func76, Try.ntmps76
  go_wp2_with (refine wpList_alloc_new rfl 24 rfl (cellsW 0) zWd ?_; simp only [Act.put, List.setIfInBounds_toArray, List.set_cons_zero, List.set_cons_succ, World.size_alloc])
  generalize ((w.alloc (.cells (cellsW a) 24)).alloc (.cells (cellsW b) 24)).alloc (.cells (cellsW 0) 24) = w1 at hA0 hB0 hC0 hb0 ⊢
  ((try simp only [World.size_alloc]); refine wp_region_ext_tail 4 (by kernel_rfl) (by kernel_rfl) ?_; simp only [List.take_succ_cons, List.take_zero, List.drop_succ_cons, List.drop_zero]; (repeat (first | (refine wpQuiet_load_want 24 (.tmp 2) rfl w.heap.size rfl 24 (cellsW _) _ hA0.out uWd rfl iA.out rfl ?_; simp only [Act.put, List.setIfInBounds_toArray, List.set_cons_zero, List.set_cons_succ]) | (refine wpQuiet_load_want 24 (.tmp 3) rfl (w.heap.size + 1) rfl 24 (cellsW _) _ hB0.out uWd rfl iB.out rfl ?_; simp only [Act.put, List.setIfInBounds_toArray, List.set_cons_zero, List.set_cons_succ]) | go_big_quiet_step (first | (go_at_call 98; with_reducible refine Calls.ext_of (hL.out _)) | (go_at_call 72; with_reducible refine Calls.ext_of (hM.out _))))); refine wpQuiet_nil ?_; rintro _ ⟨xw, rfl⟩)
  have hC1 := hid (hC0.out.ext xw)
  have hb1 := World.ext_below_of hb0 hb0.size xw
  generalize w1.ext xw = w2 at hC1 hb1 ⊢
  clear hA0 hB0 hC0 hb0
  (refine wpList_store_row rfl 24 (.tmp 4) (.tmp 8) rfl (w.heap.size + 2) _ rfl rfl 24 _ hC1.out iR.out rfl nR.out ?_; simp only [Act.put])
  go_wp2
  refine bodyPost_ret (results_cell_row rfl _ _ (w.heap.size + 2) 24 (cellsW r) (0, 0) _ rfl (heap_setRow' _ _ _ _ _ hC1.out) uWd rfl iR.out) rfl ⟨rfl, below_setRow' hb1 _ (by omega) _⟩

/-- The number of bytes, the lowest first. -/
def leN (ys : List (BitVec 8)) : Nat := num (ys.map fun y => y.toNat)
theorem le_dig (ys : List (BitVec 8)) : Dig (ys.map fun y => y.toNat) := fun d hd => by
  obtain ⟨y, _, rfl⟩ := List.mem_map.1 hd
  exact y.isLt
theorem le_nd (ys : List (BitVec 8)) (i : Nat) : ((nd (ys.map fun y => y.toNat) i : Nat) : Int) = yv (ny ys i) := by
  unfold nd ny yv
  rw [List.getD_eq_getElem?_getD, List.getD_eq_getElem?_getD, List.getElem?_map]
  cases ys[i]? <;> rfl
theorem leN_lt (ys : List (BitVec 8)) (h : ys.length ≤ 32) : leN ys < 2 ^ 256 := by
  have h1 := num_lt _ (le_dig ys)
  have h2 : 256 ^ (ys.map fun y => y.toNat).length ≤ 256 ^ 32 := Nat.pow_le_pow_right (by omega) (by rw [List.length_map]; exact h)
  rw [pow256_32] at h2
  exact Nat.lt_of_lt_of_le h1 h2

set_option maxHeartbeats 2000000 in
theorem little_any (ys : List (BitVec 8)) (v : Value) (w : World) (hr : RdY w v ys) (hl : ys.length ≤ 32) : Calls Try.prog 125 #[v] w fun e w' => e = .returned (wd (leN ys)) ∧ Below w.heap.size w w' := by
  obtain ⟨a, cap, rfl, hc, hx⟩ := hr
  have HX := hid hx
  obtain ⟨l, hL⟩ : ∃ l, l = ys.map fun y => y.toNat := ⟨_, rfl⟩
  have hD : Dig l := by rw [hL]; exact le_dig ys
  have hnd : ∀ i, ((nd l i : Nat) : Int) = yv (ny ys i) := fun i => by rw [hL]; exact le_nd ys i
  have hll : l.length = ys.length := by rw [hL, List.length_map]
  have HLE := hid (show leN ys = num l by rw [hL]; rfl)
  rw [HLE.out]
  have HD := hid hD
  have HND := hid hnd
  clear hx hL hD hnd HLE
  unfold wd
  have hA0 := hid (ArrW.new 24 w 0)
  have hb0 : Below w.heap.size w (w.alloc (.cells (cellsW 0) 24)) := (Below.refl _ _).alloc (Nat.le_refl _) _
  go_enter Try.func125, Try.ntmps125
  go_wp2_with (refine wpList_alloc_new rfl 24 rfl (cellsW 0) zWd ?_; simp only [Act.put, List.setIfInBounds_toArray, List.set_cons_zero, List.set_cons_succ, World.size_alloc])
  generalize w.alloc (.cells (cellsW 0) 24) = w1 at hA0 hb0 ⊢
  go_loopw [7] (fun iv wr => ∃ i : Nat, i ≤ ys.length ∧ iv = .int .i64 (i : Int) ∧ Hid (ArrW 24 wr w.heap.size (num (l.take i))) ∧ Below w.heap.size w wr)
    (fun iv _ => ys.length - (intOf iv).toNat)
  case atStart => exact ⟨0, by omega, rfl, hA0, hb0⟩
  case round =>
    clear hA0 hb0
    obtain ⟨i, hi, rfl, hA, hb⟩ := hrel
    by_cases hlt : i < ys.length
    · obtain ⟨b, off, rfl, hbl, hcell⟩ := HX.out (by intro e; subst e; simp at hlt)
      have cx := (hb.cell (p := ⟨b, off + i, none⟩) hbl).trans (hcell i hlt)
      have gx := nd_dig HD.out i
      have c1 := hA.out.cell (i / 8) (by omega)
      have f1 := hA.out.free (i / 8)
      have l1 := hA.out.lt
      have lb : b < wr.heap.size := Nat.lt_of_lt_of_le hbl hb.size
      have hsh : (8 * ((i : Int) % 8)).toNat = 8 * (i % 8) := by omega
      have hxl := num_take_lt l HD.out i
      have hq := cellsW_add (num (l.take i)) (nd l i) i hxl gx (by omega)
      have hn := hid (show num (l.take (i + 1)) = num (l.take i) + 256 ^ i * nd l i from num_take_succ l i)
      have hle : nd l i * 2 ^ (8 * (i % 8)) < 18446744073709551616 := by
        have h1 : 2 ^ (8 * (i % 8)) ≤ 2 ^ 56 := Nat.pow_le_pow_right (by omega) (by omega)
        have h2 : nd l i * 2 ^ (8 * (i % 8)) ≤ 255 * 2 ^ 56 := Nat.mul_le_mul (by omega) h1
        omega
      have hv : bits .or .u64 (lm (num (l.take i)) (i / 8)) (IntKind.u64.wrap (((nd l i : Nat) : Int) * 2 ^ (8 * (i % 8)))) = ((lmN (num (l.take i)) (i / 8) ||| nd l i * 2 ^ (8 * (i % 8)) : Nat) : Int) := by
        rw [show ((nd l i : Nat) : Int) * 2 ^ (8 * (i % 8)) = ((nd l i * 2 ^ (8 * (i % 8)) : Nat) : Int) by rw [Int.natCast_mul, Int.natCast_pow]; rfl]
        rw [show IntKind.u64.wrap ((nd l i * 2 ^ (8 * (i % 8)) : Nat) : Int) = ((nd l i * 2 ^ (8 * (i % 8)) : Nat) : Int) by rw [IntKind.wrap_u64]; omega]
        exact u64_or_nat _ _ (lmN_lt _ _) hle
      rw [← HND.out i] at cx
      have HV := hid hv
      have HQ := hid hq
      clear hq hv hle hxl hcell
      obtain ⟨d, hd⟩ : ∃ d, d = nd l i := ⟨_, rfl⟩
      rw [← hd] at cx HV HQ hn gx
      clear hd
      go_wp2_with fail
      (refine wp_region_ext_tail 12 (by kernel_rfl) (by kernel_rfl) ?_; simp only [List.take_succ_cons, List.take_zero, List.drop_succ_cons, List.drop_zero]; (repeat (go_big_quiet_step (first | fail))); refine wpQuiet_nil ?_; rintro _ ⟨xw, rfl⟩)
      go_wp2
      go_roundw
      case rel =>
        rw [HV.out]
        refine ⟨i + 1, by omega, by go_num, hid ?_, (World.ext_below_of hb hb.size xw).setCell (p := ⟨w.heap.size, i / 8, none⟩) (Nat.le_refl _) _⟩
        rw [hn.out]
        exact (hA.out.ext xw).set _ _ HQ.out
      case measure => simp [intOf]; omega
    · obtain rfl : i = ys.length := by omega
      rw [List.take_of_length_le (by omega)] at hA
      obtain ⟨y, hy⟩ : ∃ y, y = num l := ⟨_, rfl⟩
      rw [← hy] at hA
      have HY := hid hy
      have iY := hid (iW y)
      have nY := hid (one_cellsW y)
      clear hy
      go_wp2_with (first | (refine wpList_load_row rfl 24 (.tmp 2) rfl w.heap.size rfl 24 _ (0, 0) _ hA.out uWd rfl iY.out ?_; simp only [Act.put, List.setIfInBounds_toArray, List.set_cons_zero, List.set_cons_succ]) | (refine wpList_store_row rfl 24 (.tmp 2) (.tmp 25) rfl w.heap.size _ rfl rfl 24 _ hA.out iY.out rfl nY.out ?_; simp only [Act.put]))
      refine bodyPost_ret (results_cell_row rfl _ _ w.heap.size 24 (cellsW y) (0, 0) _ rfl (heap_setRow' _ _ _ _ _ hA.out) uWd rfl iY.out) rfl ⟨by rw [HY.out], below_setRow' hb _ (Nat.le_refl _) _⟩

/-- What reading makes of bytes below m. -/
def fdN (m : Nat) (ys : List (BitVec 8)) : Nat := if ys.length = 32 ∧ leN ys < m then leN ys else 0
def fdE (m : Nat) (ys : List (BitVec 8)) : Int := if ys.length = 32 then (if leN ys < m then 0 else 20) else 1
theorem fdN_lt (m : Nat) (ys : List (BitVec 8)) : fdN m ys < 2 ^ 256 := by
  unfold fdN; split
  · rename_i h; exact leN_lt ys (by omega)
  · exact Nat.pow_pos (by omega)

set_option maxHeartbeats 2000000 in
theorem fread_any (ys : List (BitVec 8)) (m : Nat) (v : Value) (w : World) (hr : RdY w v ys) (hm : m < 2 ^ 256) : Calls Try.prog 100 #[v, wd m] w fun e w' => e = .returned (.tuple #[wd (fdN m ys), .int .i64 (fdE m ys)]) ∧ Below w.heap.size w w' := by
  have iM := hid (iW m)
  have iZ := hid (iW 0)
  have nZ := hid (one_cellsW 0)
  have hBn := hid nil_built
  have HM := hid hm
  clear hm
  have hA0 := hid (show ArrW 24 ((w.alloc (.cells (cellsW m) 24)).alloc (.cells (cellsW 0) 24)) w.heap.size m from (ArrW.new _ w m).alloc _)
  have hC0 := hid (show ArrW 24 ((w.alloc (.cells (cellsW m) 24)).alloc (.cells (cellsW 0) 24)) (w.heap.size + 1) 0 by
    have := ArrW.new 24 (w.alloc (.cells (cellsW m) 24)) 0
    rw [World.size_alloc] at this; exact this)
  have hb0 : Below w.heap.size w ((w.alloc (.cells (cellsW m) 24)).alloc (.cells (cellsW 0) 24)) := ((Below.refl _ _).alloc (Nat.le_refl _) _).alloc (by simp) _
  have hv0 := hid (hr.below hb0)
  clear hr
  obtain ⟨a, cap, rfl, hc, hx⟩ := hv0.out
  have HX := hid hx
  clear hx
  unfold wd
  by_cases hlen : ys.length = 32
  · have hll : (ys.length : Int) = 32 := by omega
    have HLt := hid (leN_lt ys (by omega))
    have hL := hid (fun w h => little_any ys (.slice a ys.length cap) w h (by omega))
    have HN := hid (show fdN m ys = if leN ys < m then leN ys else 0 by unfold fdN; simp only [hlen, true_and])
    have HE := hid (show fdE m ys = if leN ys < m then 0 else 20 by unfold fdE; rw [if_pos hlen])
    have hC := hid (fun w => wcmp_any (leN ys) m w HLt.out HM.out)
    obtain ⟨x, hx⟩ : ∃ x, x = leN ys := ⟨_, rfl⟩
    rw [← hx] at HN HE hL hC
    rw [hlen] at hL hv0
    have HV := hid hlen
    have hcond : ((x < m) ∧ cmpI x m < 0) ∨ (¬ x < m ∧ 0 ≤ cmpI x m) := by
      have := cmpI_neg x m
      by_cases h : x < m
      · exact .inl ⟨h, this.2 h⟩
      · exact .inr ⟨h, by omega⟩
    obtain ⟨c, hcc⟩ : ∃ c, c = cmpI x m := ⟨_, rfl⟩
    rw [← hcc] at hC hcond
    unfold wd at *
    have iX := hid (iW x)
    have nX := hid (one_cellsW x)
    clear hx hcc HLt
    rw [hlen]
    clear hlen hll
    go_enter Try.func100, Try.ntmps100
    go_wp2_with (refine wpList_alloc_new rfl 24 rfl (cellsW 0) zWd ?_; simp only [Act.put, List.setIfInBounds_toArray, List.set_cons_zero, List.set_cons_succ, World.size_alloc])
    refine (hL.out _ hv0.out).mono ?_
    rintro e w1 ⟨rfl, hb1⟩
    have hA1 := hid ((hA0.out.below hb1 hA0.out.lt).alloc (.cells (cellsW x) 24))
    have hC1 := hid ((hC0.out.below hb1 hC0.out.lt).alloc (.cells (cellsW x) 24))
    have hX1 := hid (ArrW.new 24 w1 x)
    have hb2 := hb0.trans (hb1.mono hb0.size)
    have hb3 := hb2.alloc hb2.size (.cells (cellsW x) 24)
    have hsz : w.heap.size + 2 ≤ w1.heap.size := by have := (hC0.out.below hb1 hC0.out.lt).lt; omega
    clear hA0 hC0 hb0 hb1 hb2 hv0
    obtain ⟨G, hG⟩ : ∃ G, G = w1.heap.size := ⟨_, rfl⟩
    go_wp2_with (first | (refine wpList_allocStore 24 12 6 (cellsW x) (cellsW 0) rfl rfl rfl rfl rfl rfl (by decide) (by simp) rfl (by kernel_rfl) rfl iX.out nX.out ?_; simp only [Act.put, List.setIfInBounds_toArray, List.set_cons_zero, List.set_cons_succ]) | (refine wpList_load_row rfl 24 (.tmp 6) rfl w1.heap.size rfl 24 _ (0, 0) _ hX1.out uWd rfl iX.out ?_; simp only [Act.put, List.setIfInBounds_toArray, List.set_cons_zero, List.set_cons_succ]) | (refine wpList_load_row rfl 24 (.tmp 3) rfl w.heap.size rfl 24 _ (0, 0) _ hA1.out uWd rfl iM.out ?_; simp only [Act.put, List.setIfInBounds_toArray, List.set_cons_zero, List.set_cons_succ]))
    rw [← hG] at hX1 hsz ⊢
    generalize w1.alloc (.cells (cellsW x) 24) = w2 at hA1 hC1 hX1 hb3 ⊢
    clear hG
    refine (hC.out _).mono ?_
    rintro e w3 ⟨rfl, hb4⟩
    have hC2 := hid (hC1.out.below hb4 hC1.out.lt)
    have hX2 := hid (hX1.out.below hb4 hX1.out.lt)
    have hb5 := hb3.trans (hb4.mono hb3.size)
    clear hA1 hC1 hX1 hb3 hb4
    rcases hcond with ⟨h1, h2⟩ | ⟨h1, h2⟩
    · have H1 := hid h1
      clear h1
      go_wp2_with (first | (refine wpList_load_row rfl 24 (.tmp 6) rfl G rfl 24 _ (0, 0) _ hX2.out uWd rfl iX.out ?_; simp only [Act.put, List.setIfInBounds_toArray, List.set_cons_zero, List.set_cons_succ]) | (refine wpList_store_row rfl 24 (.tmp 4) (.tmp 18) rfl (w.heap.size + 1) _ rfl rfl 24 _ hC2.out iX.out rfl nX.out ?_; simp only [Act.put]))
      refine bodyPost_ret (results_row_tmp rfl _ _ (w.heap.size + 1) 24 (cellsW x) (0, 0) _ rfl (heap_setRow' _ _ _ _ _ hC2.out) uWd rfl iX.out) rfl ⟨by rw [HN.out, HE.out, if_pos H1.out, if_pos H1.out]; rfl, below_setRow' hb5 _ (by omega) _⟩
    · have H1 := hid h1
      clear h1
      go_wp2_with (refine wpList_buildStore 24 _ (.tmp 4) 17 (cellsW 0) _ rfl rfl rfl rfl rfl rfl (by simp) (by first | exact hBn.out | (simp only [List.map_toArray, List.map_cons, List.map_nil]; exact hBn.out)) rfl 24 _ hC2.out iZ.out rfl nZ.out ?_; simp only [Act.put, List.setIfInBounds_toArray, List.set_cons_zero, List.set_cons_succ])
      refine bodyPost_ret (results_row_tmp rfl _ _ (w.heap.size + 1) 24 (cellsW 0) (0, 0) _ rfl (heap_setRow' _ _ _ _ _ hC2.out) uWd rfl iZ.out) rfl ⟨by rw [HN.out, HE.out, if_neg H1.out, if_neg H1.out]; rfl, below_setRow' hb5 _ (by omega) _⟩
  · have hll : ¬ (ys.length : Int) = 32 := by omega
    have HN := hid (show fdN m ys = 0 by unfold fdN; rw [if_neg (fun h => hlen h.1)])
    have HE := hid (show fdE m ys = 1 by unfold fdE; rw [if_neg hlen])
    rw [HN.out, HE.out]
    clear hlen
    go_enter Try.func100, Try.ntmps100
    go_wp2_with (first | (refine wpList_alloc_new rfl 24 rfl (cellsW 0) zWd ?_; simp only [Act.put, List.setIfInBounds_toArray, List.set_cons_zero, List.set_cons_succ, World.size_alloc]) | (refine wpList_buildStore 24 _ (.tmp 4) 10 (cellsW 0) _ rfl rfl rfl rfl rfl rfl (by simp) (by first | exact hBn.out | (simp only [List.map_toArray, List.map_cons, List.map_nil]; exact hBn.out)) rfl 24 _ hC0.out iZ.out rfl nZ.out ?_; simp only [Act.put, List.setIfInBounds_toArray, List.set_cons_zero, List.set_cons_succ]))
    refine bodyPost_ret (results_row_tmp rfl _ _ (w.heap.size + 1) 24 (cellsW 0) (0, 0) _ rfl (heap_setRow' _ _ _ _ _ hC0.out) uWd rfl iZ.out) rfl ⟨rfl, below_setRow' hb0 _ (by omega) _⟩
set_option maxHeartbeats 1000000 in
theorem fRead_any (ys : List (BitVec 8)) (v : Value) (w : World) (hr : RdY w v ys) : Calls Try.prog 20 #[v] w fun e w' => e = .returned (.tuple #[wd (fdN pN ys), .int .i64 (fdE pN ys)]) ∧ Below w.heap.size w w' := by
  have hP := hid fP_any
  have hR := hid (fun w h => fread_any ys pN v w h pN_lt)
  obtain ⟨x, hx⟩ : ∃ x, x = fdN pN ys := ⟨_, rfl⟩
  obtain ⟨y, hy⟩ : ∃ y, y = fdE pN ys := ⟨_, rfl⟩
  rw [← hx, ← hy] at hR ⊢
  generalize pN = k at *
  clear hx hy
  unfold wd at *
  have iX := hid (iW x)
  have nX := hid (one_cellsW x)
  have hC0 := hid (ArrW.new 24 w 0)
  have hb0 : Below w.heap.size w (w.alloc (.cells (cellsW 0) 24)) := (Below.refl _ _).alloc (Nat.le_refl _) _
  have hv0 := hid (hr.below hb0)
  clear hr
  go_enter Try.func20, Try.ntmps20
  go_wp2_with (refine wpList_alloc_new rfl 24 rfl (cellsW 0) zWd ?_; simp only [Act.put, List.setIfInBounds_toArray, List.set_cons_zero, List.set_cons_succ, World.size_alloc])
  refine (hP.out _).mono ?_
  rintro e w1 ⟨rfl, hb1⟩
  have hC1 := hid (hC0.out.below hb1 hC0.out.lt)
  have hv1 := hid (hv0.out.below hb1)
  have hb2 := hb0.trans (hb1.mono hb0.size)
  clear hC0 hv0 hb0 hb1
  go_wp2_with fail
  refine (hR.out _ hv1.out).mono ?_
  rintro e w2 ⟨rfl, hb3⟩
  have hC2 := hid (hC1.out.below hb3 hC1.out.lt)
  have hb4 := hb2.trans (hb3.mono hb2.size)
  clear hC1 hv1 hb2 hb3
  go_wp2_with (refine wpList_store_row rfl 24 (.tmp 2) (.tmp 7) rfl w.heap.size _ rfl rfl 24 _ hC2.out iX.out rfl nX.out ?_; simp only [Act.put])
  refine bodyPost_ret (results_row_tmp rfl _ _ w.heap.size 24 (cellsW x) (0, 0) _ rfl (heap_setRow' _ _ _ _ _ hC2.out) uWd rfl iX.out) rfl ⟨rfl, below_setRow' hb4 _ (Nat.le_refl _) _⟩
set_option maxHeartbeats 1000000 in
theorem fLread_any (ys : List (BitVec 8)) (v : Value) (w : World) (hr : RdY w v ys) : Calls Try.prog 81 #[v] w fun e w' => e = .returned (.tuple #[wd (fdN lN ys), .int .i64 (fdE lN ys)]) ∧ Below w.heap.size w w' := by
  have hP := hid fL_any
  have hR := hid (fun w h => fread_any ys lN v w h lN_lt)
  obtain ⟨x, hx⟩ : ∃ x, x = fdN lN ys := ⟨_, rfl⟩
  obtain ⟨y, hy⟩ : ∃ y, y = fdE lN ys := ⟨_, rfl⟩
  rw [← hx, ← hy] at hR ⊢
  generalize lN = k at *
  clear hx hy
  unfold wd at *
  have iX := hid (iW x)
  have nX := hid (one_cellsW x)
  have hC0 := hid (ArrW.new 24 w 0)
  have hb0 : Below w.heap.size w (w.alloc (.cells (cellsW 0) 24)) := (Below.refl _ _).alloc (Nat.le_refl _) _
  have hv0 := hid (hr.below hb0)
  clear hr
  go_enter Try.func81, Try.ntmps81
  go_wp2_with (refine wpList_alloc_new rfl 24 rfl (cellsW 0) zWd ?_; simp only [Act.put, List.setIfInBounds_toArray, List.set_cons_zero, List.set_cons_succ, World.size_alloc])
  refine (hP.out _).mono ?_
  rintro e w1 ⟨rfl, hb1⟩
  have hC1 := hid (hC0.out.below hb1 hC0.out.lt)
  have hv1 := hid (hv0.out.below hb1)
  have hb2 := hb0.trans (hb1.mono hb0.size)
  clear hC0 hv0 hb0 hb1
  go_wp2_with fail
  refine (hR.out _ hv1.out).mono ?_
  rintro e w2 ⟨rfl, hb3⟩
  have hC2 := hid (hC1.out.below hb3 hC1.out.lt)
  have hb4 := hb2.trans (hb3.mono hb2.size)
  clear hC1 hv1 hb2 hb3
  go_wp2_with (refine wpList_store_row rfl 24 (.tmp 2) (.tmp 7) rfl w.heap.size _ rfl rfl 24 _ hC2.out iX.out rfl nX.out ?_; simp only [Act.put])
  refine bodyPost_ret (results_row_tmp rfl _ _ w.heap.size 24 (cellsW x) (0, 0) _ rfl (heap_setRow' _ _ _ _ _ hC2.out) uWd rfl iX.out) rfl ⟨rfl, below_setRow' hb4 _ (Nat.le_refl _) _⟩
end Go.Proofs.Ytfidbiabgmioaaa
