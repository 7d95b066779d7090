import Derived.Test.YtfidbiabgmioaaaWordH
/-! word.Read; conclaveref01: Bytes, Short, Byte, Read. -/
set_option maxRecDepth 4000
set_option linter.unusedVariables false
set_option linter.unusedSimpArgs false
namespace Go.Proofs.Ytfidbiabgmioaaa
open Go.RowKit

/-- Bytes as digits, the lowest first. -/
def dsY (ys : List (BitVec 8)) : List Nat := (ys.map (·.toNat)).reverse
/-- The number that bytes are, the highest first. -/
def numY (ys : List (BitVec 8)) : Nat := num (dsY ys)
theorem dsY_len (ys : List (BitVec 8)) : (dsY ys).length = ys.length := by simp [dsY]
theorem dsY_dig (ys : List (BitVec 8)) : Dig (dsY ys) := fun d hd => by
  simp only [dsY, List.mem_reverse, List.mem_map] at hd
  obtain ⟨y, _, rfl⟩ := hd
  exact y.isLt
theorem dsY_at (ys : List (BitVec 8)) (i : Nat) (h : i < ys.length) : ((nd (dsY ys) i : Nat) : Int) = yv (ny ys (ys.length - 1 - i)) := by
  unfold nd dsY ny yv
  rw [List.getD_eq_getElem?_getD, List.getElem?_reverse (by simpa using h), List.getD_eq_getElem?_getD, List.getElem?_map, List.length_map]
  have : ys.length - 1 - i < ys.length := by omega
  simp [this]
theorem numY_lt (ys : List (BitVec 8)) : numY ys < 256 ^ ys.length := by
  have := num_lt _ (dsY_dig ys); rw [dsY_len] at this; exact this

theorem uErrno : Try.prog.underlying 31 = some (.int .i64) := by kernel_rfl

set_option maxHeartbeats 1000000 in
theorem wread_any (ys : List (BitVec 8)) (v : Value) (w : World) (hr : RdY w v ys) : Calls Try.prog 48 #[v] w fun e w' => e = .returned (.tuple (if ys.length ≤ 32 then #[wd (numY ys), .int .i64 0] else #[wd 0, .int .i64 3])) ∧ Below w.heap.size w w' := by
  obtain ⟨a, cap, rfl, hc, hr⟩ := hr
  have HX := hid hr
  clear hr
  have hA0 := hid (show ArrW 24 ((w.alloc (.cells (cellsW 0) 24)).alloc (.cells (cellsW 0) 24)) (w.heap.size + 1) 0 by
    have := ArrW.new 24 (w.alloc (.cells (cellsW 0) 24)) 0
    rw [World.size_alloc] at this; exact this)
  have hR0 := hid (show ArrW 24 ((w.alloc (.cells (cellsW 0) 24)).alloc (.cells (cellsW 0) 24)) w.heap.size 0 from (ArrW.new _ w 0).alloc _)
  have hb0 : Below w.heap.size w ((w.alloc (.cells (cellsW 0) 24)).alloc (.cells (cellsW 0) 24)) := ((Below.refl _ _).alloc (Nat.le_refl _) _).alloc (by simp) _
  have i0 := hid (iW 0)
  have n0 := hid (one_cellsW 0)
  by_cases hl : ys.length ≤ 32
  · rw [if_pos hl]
    go_enter Try.func48, Try.ntmps48
    go_wp2_with (refine wpList_alloc_new rfl 24 rfl (cellsW 0) zWd ?_; simp only [Act.put, List.setIfInBounds_toArray, List.set_cons_zero, List.set_cons_succ, World.size_alloc])
    (try simp only [World.size_alloc])
    go_loopw [13] (fun iv wr => ∃ i : Nat, i ≤ ys.length ∧ iv = .int .i64 i ∧ Hid (ArrW 24 wr (w.heap.size + 1) (num ((dsY ys).take i))) ∧ Hid (ArrW 24 wr w.heap.size 0) ∧ Below w.heap.size w wr)
      (fun iv _ => 32 - (intOf iv).toNat)
    case atStart => exact ⟨0, by omega, rfl, hA0, hR0, hb0⟩
    case round =>
      clear hA0 hR0 hb0
      obtain ⟨i, hi, rfl, hA, hR, hb⟩ := hrel
      by_cases hlt : i < ys.length
      · obtain ⟨b, off, rfl, hbl, hcell⟩ := HX.out (by intro e; subst e; simp at hlt)
        have cx := (hb.cell (p := ⟨b, off + (ys.length - 1 - i), none⟩) hbl).trans (hcell (ys.length - 1 - i) (by omega))
        rw [← dsY_at ys i hlt] at cx
        have gx := nd_dig (dsY_dig ys) i
        have hi32 : i < 32 := by omega
        have c1 := hA.out.cell (i / 8) (by omega)
        have f1 := hA.out.free (i / 8)
        have l1 := hA.out.lt
        have lb : b < wr.heap.size := Nat.lt_of_lt_of_le hbl hb.size
        have hsh : (8 * ((i : Int) % 8)).toNat = 8 * (i % 8) := by omega
        have hix : ((ys.length : Int) - 1 - (i : Int)).toNat = ys.length - 1 - i := by omega
        have hxl := num_take_lt (dsY ys) (dsY_dig ys) i
        have hq := cellsW_add (num ((dsY ys).take i)) (nd (dsY ys) i) i hxl gx hi32
        have hn := hid (show num ((dsY ys).take (i + 1)) = num ((dsY ys).take i) + 256 ^ i * nd (dsY ys) i from num_take_succ (dsY ys) i)
        have hle : nd (dsY ys) i * 2 ^ (8 * (i % 8)) < 18446744073709551616 := by
          have h1 : 2 ^ (8 * (i % 8)) ≤ 2 ^ 56 := Nat.pow_le_pow_right (by omega) (by omega)
          have h2 : nd (dsY ys) i * 2 ^ (8 * (i % 8)) ≤ 255 * 2 ^ 56 := Nat.mul_le_mul (by omega) h1
          omega
        have hv : bits .or .u64 (lm (num ((dsY ys).take i)) (i / 8)) (IntKind.u64.wrap (((nd (dsY ys) i : Nat) : Int) * 2 ^ (8 * (i % 8)))) = ((lmN (num ((dsY ys).take i)) (i / 8) ||| nd (dsY ys) i * 2 ^ (8 * (i % 8)) : Nat) : Int) := by
          rw [show ((nd (dsY ys) i : Nat) : Int) * 2 ^ (8 * (i % 8)) = ((nd (dsY ys) i * 2 ^ (8 * (i % 8)) : Nat) : Int) by rw [Int.natCast_mul, Int.natCast_pow]; rfl]
          rw [show IntKind.u64.wrap ((nd (dsY ys) i * 2 ^ (8 * (i % 8)) : Nat) : Int) = ((nd (dsY ys) i * 2 ^ (8 * (i % 8)) : Nat) : Int) by rw [IntKind.wrap_u64]; omega]
          exact u64_or_nat _ _ (lmN_lt _ _) hle
        have HV := hid hv
        have HQ := hid hq
        clear hq hv hle hxl hcell
        go_wp2_with fail
        (refine wp_region_ext_tail 15 (by kernel_rfl) (by kernel_rfl) ?_; simp only [List.take_succ_cons, List.take_zero, List.drop_succ_cons, List.drop_zero]; (repeat (go_big_quiet_step (first | fail))); refine wpQuiet_nil ?_; rintro _ ⟨xw, rfl⟩)
        go_wp2
        go_roundw
        case rel =>
          rw [HV.out]
          refine ⟨i + 1, by omega, by go_num, hid ?_, hid ((hR.out.ext xw).other (by show w.heap.size ≠ w.heap.size + 1; omega) _), (World.ext_below_of hb hb.size xw).setCell (p := ⟨w.heap.size + 1, i / 8, none⟩) (by show w.heap.size ≤ w.heap.size + 1; omega) _⟩
          rw [hn.out]
          exact (hA.out.ext xw).set _ _ HQ.out
        case measure => simp [intOf]; omega
      · obtain rfl : i = ys.length := by omega
        rw [show (dsY ys).take ys.length = dsY ys by rw [← dsY_len]; exact List.take_length] at hA
        rw [show num (dsY ys) = numY ys from rfl] at hA
        obtain ⟨y, hy⟩ : ∃ y, y = numY ys := ⟨_, rfl⟩
        rw [← hy] at hA
        have HY := hid hy
        have iY := hid (iW y)
        have nY := hid (one_cellsW y)
        clear hy hlt hi HX
        go_wp2_with (first | (refine wpList_load_row rfl 24 (.tmp 4) rfl (w.heap.size + 1) rfl 24 _ (0, 0) _ hA.out uWd rfl iY.out ?_; simp only [Act.put, List.setIfInBounds_toArray, List.set_cons_zero, List.set_cons_succ]) | (refine wpList_store_row rfl 24 (.tmp 2) (.tmp 37) rfl w.heap.size _ rfl rfl 24 _ hR.out iY.out rfl nY.out ?_; simp only [Act.put]))
        refine bodyPost_ret (results_row_tmp rfl _ _ w.heap.size 24 (cellsW y) (0, 0) _ rfl (heap_setRow' _ _ _ _ _ hR.out) uWd rfl iY.out) rfl ⟨by rw [HY.out]; rfl, below_setRow' hb _ (Nat.le_refl _) _⟩
  · rw [if_neg hl]
    clear HX
    go_enter Try.func48, Try.ntmps48
    go_wp2_with (first | (refine wpList_alloc_new rfl 24 rfl (cellsW 0) zWd ?_; simp only [Act.put, List.setIfInBounds_toArray, List.set_cons_zero, List.set_cons_succ, World.size_alloc]) | (refine wpList_load_row rfl 24 (.tmp 4) rfl (w.heap.size + 1) rfl 24 _ (0, 0) _ hA0.out uWd rfl i0.out ?_; simp only [Act.put, List.setIfInBounds_toArray, List.set_cons_zero, List.set_cons_succ]) | (refine wpList_store_row rfl 24 (.tmp 2) (.tmp 10) rfl w.heap.size _ rfl rfl 24 _ hR0.out i0.out rfl n0.out ?_; simp only [Act.put]))
    refine bodyPost_ret (results_row_tmp rfl _ _ w.heap.size 24 (cellsW 0) (0, 0) _ rfl (heap_setRow' _ _ _ _ _ hR0.out) uWd rfl i0.out) rfl ⟨rfl, below_setRow' hb0 _ (Nat.le_refl _) _⟩

theorem nd_dg (x i : Nat) : nd (dg x) i = x / 256 ^ i % 256 := by rw [nd_num (dg x) (dg_dig x) i, num_dg]
theorem nd_b8 (x i : Nat) : ((nd (dg x) i : Nat) : Int) = yv (b8 (x / 256 ^ i)) := by rw [nd_dg, yv_b8]

set_option maxHeartbeats 1000000 in
theorem rbytes_any (x : Nat) (w : World) (hx : x < 2 ^ 256) : Calls Try.prog 52 #[wd x] w fun e w' => ∃ b, e = .returned (.slice (some ⟨b, 0, none⟩) 32 32) ∧ ArrY 5 w' b (be 32 x) ∧ w.heap.size ≤ b ∧ Below w.heap.size w w' := by
  have hl := dg_word_len x hx
  have hend := hid (bs_end x (dg x).length (lt_len x) hl)
  have hO := hid (fun w => of_any x w hx)
  have hmk : ∀ w : World, (Instr.makeSlice 30 (.int .i64 32) (.int .i64 32)).run Try.prog w = .ok (.slice (some ⟨w.heap.size, 0, none⟩) 32 32) (w.alloc (.cells (cellsY (bs x 0)) 5)) := mkY 32 (by omega)
  clear hx
  unfold wd at *
  have iX := hid (iW x)
  have hA0 := hid (ArrW.new 24 w x)
  have hb0 : Below w.heap.size w (w.alloc (.cells (cellsW x) 24)) := (Below.refl _ _).alloc (Nat.le_refl _) _
  go_enter Try.func52, Try.ntmps52
  go_wp2_with (refine wpList_load_row rfl 24 (.tmp 1) rfl w.heap.size rfl 24 _ (0, 0) _ hA0.out uWd rfl iX.out ?_; simp only [Act.put, List.setIfInBounds_toArray, List.set_cons_zero, List.set_cons_succ])
  refine (hO.out _).mono ?_
  rintro e w1 ⟨v1, rfl, hr1, hb1⟩
  have hb2 := hb0.trans (hb1.mono hb0.size)
  have hb3 := hb2.alloc hb2.size (.cells (cellsY (bs x 0)) 5)
  have hY0 := hid (ArrY.new 5 w1 (bs x 0))
  have hN0 := hid (hr1.below (show Below w1.heap.size w1 (w1.alloc (.cells (cellsY (bs x 0)) 5)) from (Below.refl _ _).alloc (Nat.le_refl _) _))
  have hsz := hb2.size
  obtain ⟨a, cap, rfl, hc, hx⟩ := hr1
  clear hA0 hb0 hb1 hb2 hO
  go_wp2
  generalize w1.alloc (.cells (cellsY (bs x 0)) 5) = w2 at hY0 hN0 hb3 ⊢
  obtain ⟨S, hS⟩ : ∃ S, S = w1.heap.size := ⟨_, rfl⟩
  rw [← hS] at hY0 hsz ⊢
  have hne : ∀ b off, a = some ⟨b, off, none⟩ → dg x ≠ [] → b < S := by
    intro b off e hne2
    obtain ⟨b', off', e2, h2, _⟩ := hx hne2
    rw [e] at e2; cases e2; rw [hS]; exact h2
  clear hS hx
  have HNE := hid hne
  clear hne
  go_loopw [5] (fun iv wr => ∃ i : Nat, i ≤ (dg x).length ∧ iv = .int .i64 i ∧ Hid (RdN wr (.slice a (dg x).length cap) x) ∧ Hid (ArrY 5 wr S (bs x i)) ∧ Below w.heap.size w wr)
    (fun iv _ => 32 - (intOf iv).toNat)
  case atStart => exact ⟨0, by omega, rfl, hN0, hY0, hb3⟩
  case round =>
    clear hN0 hY0 hb3
    obtain ⟨i, hi, rfl, hN, hY, hb⟩ := hrel
    by_cases hlt : i < (dg x).length
    · have hne2 : dg x ≠ [] := by intro e; rw [e] at hlt; simp at hlt
      obtain ⟨a', cap', e1, e2, e3⟩ := hN.out
      simp at e1
      obtain ⟨rfl, rfl⟩ := e1
      obtain ⟨b, off, rfl, hbl, hcell⟩ := e3 hne2
      have hbS := HNE.out b off rfl hne2
      have cx := hcell i hlt
      have c2 := hY.out.cell (31 - i) (by rw [bs_len]; omega)
      have f2 := hY.out.free (31 - i)
      have l2 := hY.out.lt
      have gx := nd_dig (dg_dig x) i
      have hV := hid (nd_b8 x i)
      have hix : (31 - (i : Int)).toNat = 31 - i := by omega
      have hN2 := hid (show RdN (wr.setCell ⟨S, 31 - i, none⟩ (.int .u8 (yv (b8 (x / 256 ^ i))))) (.slice (some ⟨b, off, none⟩) (dg x).length cap) x from ⟨_, cap, rfl, e2, fun _ => ⟨b, off, rfl, by simpa using hbl, fun j hj => by
        have := hcell j hj
        rw [← this]
        unfold World.cell?
        rw [Below.heap_setCell _ _ _ _ (show b ≠ S by omega)]⟩⟩)
      clear hcell e3 hN hne2
      go_wp2
      go_roundw
      case rel =>
        rw [hV.out]
        exact ⟨i + 1, by omega, by go_num, hN2, hid (hY.out.set _ _), hb.setCell (p := ⟨S, 31 - i, none⟩) (by show w.heap.size ≤ S; omega) _⟩
      case measure => simp [intOf]; omega
    · obtain rfl : i = (dg x).length := by omega
      have hE := hY.out
      rw [hend.out] at hE
      clear hY HNE
      go_wp2
      go_ret
      exact ⟨_, rfl, hE, by omega, hb⟩

set_option maxHeartbeats 1000000 in
theorem rshort_any (x : Nat) (w : World) (hx : x < 2 ^ 256) : Calls Try.prog 54 #[wd x] w fun e w' => ∃ v', e = .returned v' ∧ RdY w' v' (shortW x) ∧ Below w.heap.size w w' := by
  have hB := hid (fun w => rbytes_any x w hx)
  have hO := hid (fun w => of_any x w hx)
  have hl := wlen_le x hx
  have hE := hid (show ((be 32 x).drop (32 - wlen x)).take (wlen x) = shortW x from be_drop 32 _ x hl)
  have hS0 := hid (fun (h : wlen x = 0) => show shortW x = [] by unfold shortW; rw [h]; rfl)
  clear hx
  unfold wlen at hl hE hS0
  unfold wd at *
  have iX := hid (iW x)
  have hA0 := hid (ArrW.new 24 w x)
  have hb0 : Below w.heap.size w (w.alloc (.cells (cellsW x) 24)) := (Below.refl _ _).alloc (Nat.le_refl _) _
  go_enter Try.func54, Try.ntmps54
  go_wp2_with (refine wpList_load_row rfl 24 (.tmp 1) rfl w.heap.size rfl 24 _ (0, 0) _ hA0.out uWd rfl iX.out ?_; simp only [Act.put, List.setIfInBounds_toArray, List.set_cons_zero, List.set_cons_succ])
  refine (hO.out _).mono ?_
  rintro e w1 ⟨v1, rfl, ⟨a, cap, rfl, _, _⟩, hb1⟩
  have hA1 := hid (hA0.out.below hb1 hA0.out.lt)
  have hb2 := hb0.trans (hb1.mono hb0.size)
  obtain ⟨n, hn⟩ : ∃ n, n = (dg x).length := ⟨_, rfl⟩
  rw [← hn] at hl hE hS0 ⊢
  clear hn hA0 hb0 hb1
  go_wp2_with (refine wpList_load_row rfl 24 (.tmp 1) rfl w.heap.size rfl 24 _ (0, 0) _ hA1.out uWd rfl iX.out ?_; simp only [Act.put, List.setIfInBounds_toArray, List.set_cons_zero, List.set_cons_succ])
  refine (hB.out _).mono ?_
  rintro e w2 ⟨b, rfl, hY, hbS, hb3⟩
  have h2 := hid (hY.sub (32 - n) n n (by rw [be_len]; omega) (Nat.le_refl _))
  rw [hE.out] at h2
  have hb4 := hb2.trans (hb3.mono hb2.size)
  clear hA1 hb3 hb2 hY
  rcases Nat.eq_zero_or_pos n with h0 | h0
  · have hS1 := hid (hS0.out h0)
    subst h0
    clear hS0
    go_wp2
    go_ret
    exact ⟨_, rfl, by rw [hS1.out]; exact RdY.nil _ _ _, hb4⟩
  · have e3 : (32 : Nat) - (32 - n) = n := by omega
    have e4 : ¬ (32 : Nat) = 32 - n := by omega
    go_wp2
    go_ret
    exact ⟨_, rfl, h2.out, hb4⟩

set_option maxHeartbeats 1000000 in
theorem rbyte_any (n x : Nat) (w : World) (hn : n < 2 ^ 256) (hx : x < 2 ^ 256) : Calls Try.prog 29 #[wd n, wd x] w fun e w' => e = .returned (wd (byteW n x)) ∧ Below w.heap.size w w' := by
  have hU := hid (fun w => small_any n 32 w hn (by omega))
  have hB := hid (fun w => rbytes_any x w hx)
  have iN := hid (iW n)
  have iX := hid (iW x)
  by_cases hlt : n < 32
  · have hUn : upT n 32 = n := by unfold upT; rw [if_pos hlt]
    rw [hUn] at hU
    have HY := hid (show yv (ny (be 32 x) n) = ((byteW n x : Nat) : Int) by
      unfold ny byteW
      rw [List.getD_eq_getElem?_getD, be_at 32 x n hlt, if_pos hlt]
      show yv (b8 _) = _
      rw [yv_b8])
    obtain ⟨y, hy⟩ : ∃ y, y = byteW n x := ⟨_, rfl⟩
    have hy2 := byteW_lt n x
    rw [← hy] at HY hy2 ⊢
    have hc := hid (cellsW_one y (by omega))
    clear hy hn hx hUn
    unfold wd at *
    have iY := hid (iW y)
    have nY := hid (one_cellsW y)
    have hne : ¬ (n : Int) = 32 := by omega
    have hA0 := hid (show ArrW 24 (((w.alloc (.cells (cellsW n) 24)).alloc (.cells (cellsW x) 24)).alloc (.cells (cellsW 0) 24)) w.heap.size n from ((ArrW.new _ w n).alloc _).alloc _)
    have hB0 := hid (show ArrW 24 (((w.alloc (.cells (cellsW n) 24)).alloc (.cells (cellsW x) 24)).alloc (.cells (cellsW 0) 24)) (w.heap.size + 1) x by
      have := ArrW.new 24 (w.alloc (.cells (cellsW n) 24)) x
      rw [World.size_alloc] at this; exact this.alloc _)
    have hC0 := hid (show ArrW 24 (((w.alloc (.cells (cellsW n) 24)).alloc (.cells (cellsW x) 24)).alloc (.cells (cellsW 0) 24)) (w.heap.size + 2) 0 by
      have := ArrW.new 24 ((w.alloc (.cells (cellsW n) 24)).alloc (.cells (cellsW x) 24)) 0
      rw [World.size_alloc, World.size_alloc] at this; exact this)
    have hb0 : Below w.heap.size w (((w.alloc (.cells (cellsW n) 24)).alloc (.cells (cellsW x) 24)).alloc (.cells (cellsW 0) 24)) := (((Below.refl _ _).alloc (Nat.le_refl _) _).alloc (by simp) _).alloc (by simp; omega) _
    go_enter Try.func29, Try.ntmps29
    go_wp2_with (first | (refine wpList_alloc_new rfl 24 rfl (cellsW 0) zWd ?_; simp only [Act.put, List.setIfInBounds_toArray, List.set_cons_zero, List.set_cons_succ, World.size_alloc]) | (refine wpList_load_row rfl 24 (.tmp 2) rfl w.heap.size rfl 24 _ (0, 0) _ hA0.out uWd rfl iN.out ?_; simp only [Act.put, List.setIfInBounds_toArray, List.set_cons_zero, List.set_cons_succ]))
    refine (hU.out _).mono ?_
    rintro e w1 ⟨rfl, hb1⟩
    have hB1 := hid (hB0.out.below hb1 hB0.out.lt)
    have hC1 := hid (hC0.out.below hb1 hC0.out.lt)
    have hb2 := hb0.trans (hb1.mono hb0.size)
    clear hA0 hB0 hC0 hb0 hb1
    go_wp2_with (refine wpList_load_row rfl 24 (.tmp 3) rfl (w.heap.size + 1) rfl 24 _ (0, 0) _ hB1.out uWd rfl iX.out ?_; simp only [Act.put, List.setIfInBounds_toArray, List.set_cons_zero, List.set_cons_succ])
    refine (hB.out _).mono ?_
    rintro e w2 ⟨b, rfl, hYY, hbS, hb3⟩
    have hC2 := hid (hC1.out.below hb3 hC1.out.lt)
    have hb4 := hb2.trans (hb3.mono hb2.size)
    have cY := hYY.cell n (by rw [be_len]; exact hlt)
    rw [HY.out] at cY
    have lY := hYY.lt
    have iV := hid (show (Try.prog.info? 24).map (·.size) = some (#[.int .u64 (y : Int), .int .u64 0, .int .u64 0, .int .u64 0] : Array Value).size from iWd)
    clear hB1 hC1 hb2 hb3 hYY
    go_wp2_with (refine wpList_store_row rfl 24 (.tmp 4) (.tmp 17) rfl (w.heap.size + 2) _ rfl rfl 24 _ hC2.out iV.out rfl (by simp [Value.oneCell']) ?_; simp only [Act.put])
    refine bodyPost_ret (results_cell_row rfl _ _ (w.heap.size + 2) 24 (#[.int .u64 (y : Int), .int .u64 0, .int .u64 0, .int .u64 0] : Array Value) (0, 0) _ rfl (heap_setRow' _ _ _ _ _ hC2.out) uWd rfl iV.out) rfl ⟨by rw [hc.out], below_setRow' hb4 _ (by omega) _⟩
  · have hUn : upT n 32 = 32 := by unfold upT; rw [if_neg hlt]
    rw [hUn] at hU
    have HY := hid (show byteW n x = 0 by unfold byteW; rw [if_neg hlt])
    clear hUn hlt hn hB hx
    rw [HY.out]
    have i0 := hid (iW 0)
    have n0 := hid (one_cellsW 0)
    have b0 : Try.prog.built 24 [] = some (cellsW 0) := by kernel_rfl
    unfold wd at *
    have hA0 := hid (show ArrW 24 (((w.alloc (.cells (cellsW n) 24)).alloc (.cells (cellsW x) 24)).alloc (.cells (cellsW 0) 24)) w.heap.size n from ((ArrW.new _ w n).alloc _).alloc _)
    have hB0 := hid (show ArrW 24 (((w.alloc (.cells (cellsW n) 24)).alloc (.cells (cellsW x) 24)).alloc (.cells (cellsW 0) 24)) (w.heap.size + 1) x by
      have := ArrW.new 24 (w.alloc (.cells (cellsW n) 24)) x
      rw [World.size_alloc] at this; exact this.alloc _)
    have hC0 := hid (show ArrW 24 (((w.alloc (.cells (cellsW n) 24)).alloc (.cells (cellsW x) 24)).alloc (.cells (cellsW 0) 24)) (w.heap.size + 2) 0 by
      have := ArrW.new 24 ((w.alloc (.cells (cellsW n) 24)).alloc (.cells (cellsW x) 24)) 0
      rw [World.size_alloc, World.size_alloc] at this; exact this)
    have hb0 : Below w.heap.size w (((w.alloc (.cells (cellsW n) 24)).alloc (.cells (cellsW x) 24)).alloc (.cells (cellsW 0) 24)) := (((Below.refl _ _).alloc (Nat.le_refl _) _).alloc (by simp) _).alloc (by simp; omega) _
    go_enter Try.func29, Try.ntmps29
    go_wp2_with (first | (refine wpList_alloc_new rfl 24 rfl (cellsW 0) zWd ?_; simp only [Act.put, List.setIfInBounds_toArray, List.set_cons_zero, List.set_cons_succ, World.size_alloc]) | (refine wpList_load_row rfl 24 (.tmp 2) rfl w.heap.size rfl 24 _ (0, 0) _ hA0.out uWd rfl iN.out ?_; simp only [Act.put, List.setIfInBounds_toArray, List.set_cons_zero, List.set_cons_succ]))
    refine (hU.out _).mono ?_
    rintro e w1 ⟨rfl, hb1⟩
    have hC1 := hid (hC0.out.below hb1 hC0.out.lt)
    have hb2 := hb0.trans (hb1.mono hb0.size)
    clear hA0 hB0 hC0 hb0 hb1
    go_wp2_with (first | (refine wpList_store_row rfl 24 (.tmp 4) (.tmp 10) rfl (w.heap.size + 2) _ rfl rfl 24 _ hC1.out i0.out rfl n0.out ?_; simp only [Act.put]))
    refine bodyPost_ret (results_cell_row rfl _ _ (w.heap.size + 2) 24 (cellsW 0) (0, 0) _ rfl (heap_setRow' _ _ _ _ _ hC1.out) uWd rfl i0.out) rfl ⟨rfl, below_setRow' hb2 _ (by omega) _⟩

theorem infoI2 : (Try.prog.info? 3).map (fun i => (i.zero, i.size, i.bytes)) = some (some (.int .i64 0), 1, 8) := by kernel_rfl
theorem take_digV (l : List Nat) (i : Nat) (h : i < l.length) : digV (l.take (i + 1)) = digV (l.take i) ++ [.int .i64 ((nd l i : Nat) : Int)] := by
  rw [List.take_succ_eq_append_getElem h, digV_snoc]
  unfold nd
  rw [List.getD_eq_getElem?_getD, List.getElem?_eq_getElem h]; rfl

set_option maxHeartbeats 1000000 in
theorem rread_any (ys : List (BitVec 8)) (v : Value) (w : World) (hr : RdY w v ys) : Calls Try.prog 49 #[v] w fun e w' => e = .returned (.tuple (if ys.length ≤ 32 then #[wd (numY ys), .int .i64 0] else #[wd 0, .int .i64 3])) ∧ Below w.heap.size w w' := by
  obtain ⟨i0, hi0, hz0, hz1, hz2⟩ := info_parts infoI
  obtain ⟨a, cap, rfl, hc, hr⟩ := hr
  have HX := hid hr
  clear hr
  have hR0 := hid (ArrW.new 24 w 0)
  have hb0 : Below w.heap.size w (w.alloc (.cells (cellsW 0) 24)) := (Below.refl _ _).alloc (Nat.le_refl _) _
  have j0 := hid (iW 0)
  have n0 := hid (one_cellsW 0)
  have b0 : Try.prog.built 24 [] = some (cellsW 0) := by kernel_rfl
  by_cases hl : ys.length ≤ 32
  · rw [if_pos hl]
    have hT := hid (fun v w h => trim_any (dsY ys) v w h (dsY_dig ys) (by rw [dsY_len]; omega))
    have hlt2 : numY ys < 2 ^ 256 := by
      have := numY_lt ys
      have h2 : 256 ^ ys.length ≤ 256 ^ 32 := Nat.pow_le_pow_right (by omega) hl
      rw [pow256_32] at h2; omega
    have hW := hid (fun v w h => wordN_any (numY ys) v w h (by have := dg_word_len _ hlt2; omega))
    rw [Nat.mod_eq_of_lt hlt2] at hW
    rw [show num (dsY ys) = numY ys from rfl] at hT
    clear hlt2
    unfold wd at *
    go_enter Try.func49, Try.ntmps49
    go_wp2_with (refine wpList_alloc_new rfl 24 rfl (cellsW 0) zWd ?_; simp only [Act.put, List.setIfInBounds_toArray, List.set_cons_zero, List.set_cons_succ, World.size_alloc])
    (try simp only [World.size_alloc])
    go_loopw [4, 5] (fun ov iv wr => ∃ i : Nat, i ≤ ys.length ∧ iv = .int .i64 ((ys.length : Int) - 1 - (i : Int)) ∧ Hid (wr.ownsRow (w.heap.size + 1) 3 1 ov i (digV ((dsY ys).take i))) ∧ Hid (ArrW 24 wr w.heap.size 0) ∧ Below w.heap.size w wr)
      (fun _ iv _ => (intOf iv + 1).toNat)
    case atStart => exact ⟨0, by omega, by go_num, hid (World.ownsRow_nil _ _ _ _), hR0, hb0⟩
    case round =>
      clear hR0 hb0
      obtain ⟨i, hi, rfl, ho, hR, hb⟩ := hrel
      by_cases hlt : i < ys.length
      · obtain ⟨b, off, rfl, hbl, hcell⟩ := HX.out (by intro e; subst e; simp at hlt)
        have cx := (hb.cell (p := ⟨b, off + (ys.length - 1 - i), none⟩) hbl).trans (hcell (ys.length - 1 - i) (by omega))
        rw [← dsY_at ys i hlt] at cx
        have gx := nd_dig (dsY_dig ys) i
        have lb : b < wr.heap.size := Nat.lt_of_lt_of_le hbl hb.size
        have hix : ((ys.length : Int) - 1 - (i : Int)).toNat = ys.length - 1 - i := by omega
        have HD := hid (take_digV (dsY ys) i (by rw [dsY_len]; exact hlt))
        have lR := hR.out.lt
        have HL2 := hid ho.out.lt
        clear hcell
        go_wp2_with (at_builtin; refine wpList_append_any rfl (.tmp 17) (.tmp 23) 42 rfl (w.heap.size + 1) 3 i0 _ 1 8 uNat hi0 hz0 hz1 hz2 rfl (by decide) _ _ rfl rfl i _ (ho.out.alloc _) 1 _ ⟨rfl, by simp [Value.oneCell'], _, _, rfl, fun _ => ⟨_, rfl, cell_one_new _ _ _⟩⟩ (by unfold maxLen; omega) (by omega) (by simp; omega) ?_)
        intro v2 w2 ho2 hg2 _
        rw [← HD.out] at ho2
        have H2 := hid ho2
        have hR2 := hid (show ArrW 24 w2 w.heap.size 0 from (hg2.block _ (by simp; omega) (fun e => by have := (HL2.out _ e.symm).1; omega)).trans (hR.out.alloc _))
        have hb2 : Below w.heap.size w w2 := (hb.alloc hb.size _).grown hg2 (by simp; omega) (fun k e => by have := (HL2.out k e).1; omega)
        clear ho2 hg2
        go_wp2
        go_roundw
        case rel => exact ⟨i + 1, by omega, by go_num, H2, hR2, hb2⟩
        case measure => simp [intOf]; omega
      · obtain rfl : i = ys.length := by omega
        rw [show (dsY ys).take ys.length = dsY ys by rw [← dsY_len]; exact List.take_length] at ho
        have hR3 := RdL.owned (by rw [dsY_len]; exact ho.out)
        have HR3 := hid hR3
        obtain ⟨y, hy⟩ : ∃ y, y = numY ys := ⟨_, rfl⟩
        rw [← hy] at hT hW
        have HY := hid hy
        have iY := hid (iW y)
        have nY := hid (one_cellsW y)
        clear hy hlt hi HX hR3
        go_wp2_with fail
        refine (hT.out _ _ HR3.out).mono ?_
        rintro e w3 ⟨v3, rfl, hr3, hb3⟩
        have hR4 := hid (hR.out.below hb3 hR.out.lt)
        have hb4 := hb.trans (hb3.mono hb.size)
        clear hR hb hb3 HR3 ho
        go_wp2_with fail
        refine (hW.out _ _ hr3).mono ?_
        rintro e w4 ⟨rfl, hb5⟩
        have hR5 := hid (hR4.out.below hb5 hR4.out.lt)
        have hb6 := hb4.trans (hb5.mono hb4.size)
        clear hR4 hb4 hb5 hr3
        go_wp2_with (refine wpList_store_row rfl 24 (.tmp 2) (.tmp 27) rfl w.heap.size _ rfl rfl 24 _ hR5.out iY.out rfl nY.out ?_; simp only [Act.put])
        refine bodyPost_ret (results_row_tmp rfl _ _ w.heap.size 24 (cellsW y) (0, 0) _ rfl (heap_setRow' _ _ _ _ _ hR5.out) uWd rfl iY.out) rfl ⟨by rw [HY.out]; rfl, below_setRow' hb6 _ (Nat.le_refl _) _⟩
  · rw [if_neg hl]
    clear HX
    unfold wd
    go_enter Try.func49, Try.ntmps49
    go_wp2_with (first | (refine wpList_alloc_new rfl 24 rfl (cellsW 0) zWd ?_; simp only [Act.put, List.setIfInBounds_toArray, List.set_cons_zero, List.set_cons_succ, World.size_alloc]) | (refine wpList_store_row rfl 24 (.tmp 2) (.tmp 9) rfl w.heap.size _ rfl rfl 24 _ hR0.out j0.out rfl n0.out ?_; simp only [Act.put]))
    refine bodyPost_ret (results_row_tmp rfl _ _ w.heap.size 24 (cellsW 0) (0, 0) _ rfl (heap_setRow' _ _ _ _ _ hR0.out) uWd rfl j0.out) rfl ⟨rfl, below_setRow' hb0 _ (Nat.le_refl _) _⟩
end Go.Proofs.Ytfidbiabgmioaaa
