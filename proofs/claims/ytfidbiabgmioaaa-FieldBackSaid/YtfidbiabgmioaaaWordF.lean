import Derived.Test.YtfidbiabgmioaaaWordE
/-! word: Shr, Sar, Signext, Byte, Exp, Len, Bytes, Short, Read. -/
set_option maxRecDepth 4000
set_option linter.unusedVariables false
set_option linter.unusedSimpArgs false
namespace Go.Proofs.Ytfidbiabgmioaaa
open Go.RowKit

theorem upT_le (n m : Nat) : upT n m ≤ m := by unfold upT; split <;> omega
set_option maxHeartbeats 1000000 in
theorem wshr_any (n x : Nat) (w : World) (hn : n < 2 ^ 256) (hx : x < 2 ^ 256) : Calls Try.prog 32 #[wd n, wd x] w fun e w' => e = .returned (wd (x / 2 ^ upT n 256)) ∧ Below w.heap.size w w' := by
  have hU := hid (fun w => upto_any n 256 hn (by omega) w)
  have hk := upT_le n 256
  obtain ⟨k, hk2⟩ : ∃ k, k = upT n 256 := ⟨_, rfl⟩
  rw [← hk2] at hU hk ⊢
  have hD := hid (fun w => down_any k x 0 x w hk (by omega) (wide0 x hx))
  have hlt : x / 2 ^ k < 2 ^ 256 := Nat.lt_of_le_of_lt (Nat.div_le_self _ _) hx
  rw [Nat.mod_eq_of_lt hlt] at hD
  clear hn hk2 hx hlt hk
  obtain ⟨y, hy⟩ : ∃ y, y = x / 2 ^ k := ⟨_, rfl⟩
  rw [← hy] at hD ⊢
  clear hy
  unfold wd at *
  have iN := hid (iW n)
  have iX := hid (iW x)
  have iY := hid (iW y)
  have nY := hid (one_cellsW y)
  have hA0 := hid (show ArrW 24 (((w.alloc (.cells (cellsW n) 24)).alloc (.cells (cellsW x) 24)).alloc (.cells (cellsW 0) 24)) w.heap.size n from ((ArrW.new _ w n).alloc _).alloc _)
  have hB0 := hid (show ArrW 24 (((w.alloc (.cells (cellsW n) 24)).alloc (.cells (cellsW x) 24)).alloc (.cells (cellsW 0) 24)) (w.heap.size + 1) x by
    have := ArrW.new 24 (w.alloc (.cells (cellsW n) 24)) x
    rw [World.size_alloc] at this; exact this.alloc _)
  have hC0 := hid (show ArrW 24 (((w.alloc (.cells (cellsW n) 24)).alloc (.cells (cellsW x) 24)).alloc (.cells (cellsW 0) 24)) (w.heap.size + 2) 0 by
    have := ArrW.new 24 ((w.alloc (.cells (cellsW n) 24)).alloc (.cells (cellsW x) 24)) 0
    rw [World.size_alloc, World.size_alloc] at this; exact this)
  have hb0 : Below w.heap.size w (((w.alloc (.cells (cellsW n) 24)).alloc (.cells (cellsW x) 24)).alloc (.cells (cellsW 0) 24)) := (((Below.refl _ _).alloc (Nat.le_refl _) _).alloc (by simp) _).alloc (by simp; omega) _
  go_enter Try.func32, Try.ntmps32
  go_wp2_with (refine wpList_alloc_new rfl 24 rfl (cellsW 0) zWd ?_; simp only [Act.put, List.setIfInBounds_toArray, List.set_cons_zero, List.set_cons_succ])
  ((try simp only [World.size_alloc]); refine wp_region_ext_tail 4 (by kernel_rfl) (by kernel_rfl) ?_; simp only [List.take_succ_cons, List.take_zero, List.drop_succ_cons, List.drop_zero]; (repeat (first | (refine wpQuiet_load_part rfl 24 (.tmp 2) rfl w.heap.size 0 rfl 24 _ (cellsW _) (0, 0) _ hA0.out (fun j v h => by rw [Nat.zero_add]; exact h) uWd rfl iN.out ?_; simp only [Act.put, List.setIfInBounds_toArray, List.set_cons_zero, List.set_cons_succ]) | (refine wpQuiet_load_part rfl 24 (.tmp 3) rfl (w.heap.size + 1) 0 rfl 24 _ (cellsW _) (0, 0) _ hB0.out (fun j v h => by rw [Nat.zero_add]; exact h) uWd rfl iX.out ?_; simp only [Act.put, List.setIfInBounds_toArray, List.set_cons_zero, List.set_cons_succ]) | go_big_quiet_step (first | (go_at_call 102; with_reducible refine Calls.ext_of (hU.out _)) | (go_at_call 106; with_reducible refine Calls.ext_of (hD.out _))))); refine wpQuiet_nil ?_; rintro _ ⟨xw, rfl⟩)
  go_wp2_with (refine wpList_store_row rfl 24 (.tmp 4) (.tmp 8) rfl (w.heap.size + 2) _ rfl rfl 24 _ (hC0.out.ext _) iY.out rfl nY.out ?_; simp only [Act.put])
  refine bodyPost_ret (results_cell_row rfl _ _ (w.heap.size + 2) 24 (cellsW y) (0, 0) _ rfl (heap_setRow' _ _ _ _ _ (hC0.out.ext _)) uWd rfl iY.out) rfl ⟨rfl, below_setRow' (World.ext_below_of hb0 hb0.size _) _ (by omega) _⟩

/-- Shifted down, with the sign coming in. -/
def sarW (x k : Nat) : Nat := if negW x = true then (x + 2 ^ 256 * onesW) / 2 ^ k % 2 ^ 256 else x / 2 ^ k
theorem sarW_lt (x k : Nat) (h : x < 2 ^ 256) : sarW x k < 2 ^ 256 := by
  unfold sarW; split
  · exact Nat.mod_lt _ (by decide)
  · exact Nat.lt_of_le_of_lt (Nat.div_le_self _ _) h
set_option maxHeartbeats 1000000 in
theorem wsar_any (n x : Nat) (w : World) (hn : n < 2 ^ 256) (hx : x < 2 ^ 256) : Calls Try.prog 34 #[wd n, wd x] w fun e w' => e = .returned (wd (sarW x (upT n 256))) ∧ Below w.heap.size w w' := by
  have hU := hid (fun w => upto_any n 256 hn (by omega) w)
  have hN := hid (fun w => wneg_any x w hx)
  have hk := upT_le n 256
  obtain ⟨k, hk2⟩ : ∃ k, k = upT n 256 := ⟨_, rfl⟩
  rw [← hk2] at hU hk ⊢
  have iN := hid (iW n)
  have iX := hid (iW x)
  cases hs : negW x with
  | true =>
    have hD := hid (fun w => down_any k x 18446744073709551615 _ w hk (by omega) (wide1 x hx))
    have HY := hid (show sarW x k = (x + 2 ^ 256 * onesW) / 2 ^ k % 2 ^ 256 by unfold sarW; rw [if_pos hs])
    obtain ⟨y, hy⟩ : ∃ y, y = (x + 2 ^ 256 * onesW) / 2 ^ k % 2 ^ 256 := ⟨_, rfl⟩
    rw [← hy] at hD HY
    rw [HY.out]
    rw [hs] at hN
    clear hn hk2 hx hk hy HY hs
    unfold wd at *
    have iY := hid (iW y)
    have nY := hid (one_cellsW y)
    have eF : bits .xor .u64 IntKind.u64.max 0 = 18446744073709551615 := by decide
    have hA0 := hid (show ArrW 24 (((w.alloc (.cells (cellsW n) 24)).alloc (.cells (cellsW x) 24)).alloc (.cells (cellsW 0) 24)) w.heap.size n from ((ArrW.new _ w n).alloc _).alloc _)
    have hB0 := hid (show ArrW 24 (((w.alloc (.cells (cellsW n) 24)).alloc (.cells (cellsW x) 24)).alloc (.cells (cellsW 0) 24)) (w.heap.size + 1) x by
      have := ArrW.new 24 (w.alloc (.cells (cellsW n) 24)) x
      rw [World.size_alloc] at this; exact this.alloc _)
    have hC0 := hid (show ArrW 24 (((w.alloc (.cells (cellsW n) 24)).alloc (.cells (cellsW x) 24)).alloc (.cells (cellsW 0) 24)) (w.heap.size + 2) 0 by
      have := ArrW.new 24 ((w.alloc (.cells (cellsW n) 24)).alloc (.cells (cellsW x) 24)) 0
      rw [World.size_alloc, World.size_alloc] at this; exact this)
    have hb0 : Below w.heap.size w (((w.alloc (.cells (cellsW n) 24)).alloc (.cells (cellsW x) 24)).alloc (.cells (cellsW 0) 24)) := (((Below.refl _ _).alloc (Nat.le_refl _) _).alloc (by simp) _).alloc (by simp; omega) _
    go_enter Try.func34, Try.ntmps34
    go_wp2_with (first | (refine wpList_alloc_new rfl 24 rfl (cellsW 0) zWd ?_; simp only [Act.put, List.setIfInBounds_toArray, List.set_cons_zero, List.set_cons_succ]) | (refine wpList_load_row rfl 24 (.tmp 3) rfl (w.heap.size + 1) rfl 24 _ (0, 0) _ hB0.out uWd rfl iX.out ?_; simp only [Act.put, List.setIfInBounds_toArray, List.set_cons_zero, List.set_cons_succ]))
    refine (hN.out _).mono ?_
    rintro e w1 ⟨rfl, hb1⟩
    have hA1 := hid (hA0.out.below hb1 hA0.out.lt)
    have hB1 := hid (hB0.out.below hb1 hB0.out.lt)
    have hC1 := hid (hC0.out.below hb1 hC0.out.lt)
    have hb2 := hb0.trans (hb1.mono hb0.size)
    clear hA0 hB0 hC0 hb0 hb1
    go_wp2_with fail
    ((try simp only [World.size_alloc]); refine wp_region_ext_tail 5 (by kernel_rfl) (by kernel_rfl) ?_; simp only [List.take_succ_cons, List.take_zero, List.drop_succ_cons, List.drop_zero]; (repeat (first | (refine wpQuiet_load_part rfl 24 (.tmp 2) rfl w.heap.size 0 rfl 24 _ (cellsW _) (0, 0) _ hA1.out (fun j v h => by rw [Nat.zero_add]; exact h) uWd rfl iN.out ?_; simp only [Act.put, List.setIfInBounds_toArray, List.set_cons_zero, List.set_cons_succ]) | (refine wpQuiet_load_part rfl 24 (.tmp 3) rfl (w.heap.size + 1) 0 rfl 24 _ (cellsW _) (0, 0) _ hB1.out (fun j v h => by rw [Nat.zero_add]; exact h) uWd rfl iX.out ?_; simp only [Act.put, List.setIfInBounds_toArray, List.set_cons_zero, List.set_cons_succ]) | go_big_quiet_step (first | (go_at_call 102; with_reducible refine Calls.ext_of (hU.out _)) | (go_at_call 106; with_reducible refine Calls.ext_of (hD.out _))))); refine wpQuiet_nil ?_; rintro _ ⟨xw, rfl⟩)
    go_wp2_with (refine wpList_store_row rfl 24 (.tmp 4) (.tmp 14) rfl (w.heap.size + 2) _ rfl rfl 24 _ (hC1.out.ext _) iY.out rfl nY.out ?_; simp only [Act.put])
    refine bodyPost_ret (results_cell_row rfl _ _ (w.heap.size + 2) 24 (cellsW y) (0, 0) _ rfl (heap_setRow' _ _ _ _ _ (hC1.out.ext _)) uWd rfl iY.out) rfl ⟨rfl, below_setRow' (World.ext_below_of hb2 hb2.size _) _ (by omega) _⟩
  | false =>
    have hD := hid (fun w => down_any k x 0 x w hk (by omega) (wide0 x hx))
    have hlt : x / 2 ^ k < 2 ^ 256 := Nat.lt_of_le_of_lt (Nat.div_le_self _ _) hx
    rw [Nat.mod_eq_of_lt hlt] at hD
    have HY := hid (show sarW x k = x / 2 ^ k by unfold sarW; rw [if_neg (by rw [hs]; decide)])
    obtain ⟨y, hy⟩ : ∃ y, y = x / 2 ^ k := ⟨_, rfl⟩
    rw [← hy] at hD HY
    rw [HY.out]
    rw [hs] at hN
    clear hn hk2 hx hk hy HY hs hlt
    unfold wd at *
    have iY := hid (iW y)
    have nY := hid (one_cellsW y)
    have hA0 := hid (show ArrW 24 (((w.alloc (.cells (cellsW n) 24)).alloc (.cells (cellsW x) 24)).alloc (.cells (cellsW 0) 24)) w.heap.size n from ((ArrW.new _ w n).alloc _).alloc _)
    have hB0 := hid (show ArrW 24 (((w.alloc (.cells (cellsW n) 24)).alloc (.cells (cellsW x) 24)).alloc (.cells (cellsW 0) 24)) (w.heap.size + 1) x by
      have := ArrW.new 24 (w.alloc (.cells (cellsW n) 24)) x
      rw [World.size_alloc] at this; exact this.alloc _)
    have hC0 := hid (show ArrW 24 (((w.alloc (.cells (cellsW n) 24)).alloc (.cells (cellsW x) 24)).alloc (.cells (cellsW 0) 24)) (w.heap.size + 2) 0 by
      have := ArrW.new 24 ((w.alloc (.cells (cellsW n) 24)).alloc (.cells (cellsW x) 24)) 0
      rw [World.size_alloc, World.size_alloc] at this; exact this)
    have hb0 : Below w.heap.size w (((w.alloc (.cells (cellsW n) 24)).alloc (.cells (cellsW x) 24)).alloc (.cells (cellsW 0) 24)) := (((Below.refl _ _).alloc (Nat.le_refl _) _).alloc (by simp) _).alloc (by simp; omega) _
    go_enter Try.func34, Try.ntmps34
    go_wp2_with (first | (refine wpList_alloc_new rfl 24 rfl (cellsW 0) zWd ?_; simp only [Act.put, List.setIfInBounds_toArray, List.set_cons_zero, List.set_cons_succ]) | (refine wpList_load_row rfl 24 (.tmp 3) rfl (w.heap.size + 1) rfl 24 _ (0, 0) _ hB0.out uWd rfl iX.out ?_; simp only [Act.put, List.setIfInBounds_toArray, List.set_cons_zero, List.set_cons_succ]))
    refine (hN.out _).mono ?_
    rintro e w1 ⟨rfl, hb1⟩
    have hA1 := hid (hA0.out.below hb1 hA0.out.lt)
    have hB1 := hid (hB0.out.below hb1 hB0.out.lt)
    have hC1 := hid (hC0.out.below hb1 hC0.out.lt)
    have hb2 := hb0.trans (hb1.mono hb0.size)
    clear hA0 hB0 hC0 hb0 hb1
    go_wp2_with fail
    ((try simp only [World.size_alloc]); refine wp_region_ext_tail 5 (by kernel_rfl) (by kernel_rfl) ?_; simp only [List.take_succ_cons, List.take_zero, List.drop_succ_cons, List.drop_zero]; (repeat (first | (refine wpQuiet_load_part rfl 24 (.tmp 2) rfl w.heap.size 0 rfl 24 _ (cellsW _) (0, 0) _ hA1.out (fun j v h => by rw [Nat.zero_add]; exact h) uWd rfl iN.out ?_; simp only [Act.put, List.setIfInBounds_toArray, List.set_cons_zero, List.set_cons_succ]) | (refine wpQuiet_load_part rfl 24 (.tmp 3) rfl (w.heap.size + 1) 0 rfl 24 _ (cellsW _) (0, 0) _ hB1.out (fun j v h => by rw [Nat.zero_add]; exact h) uWd rfl iX.out ?_; simp only [Act.put, List.setIfInBounds_toArray, List.set_cons_zero, List.set_cons_succ]) | go_big_quiet_step (first | (go_at_call 102; with_reducible refine Calls.ext_of (hU.out _)) | (go_at_call 106; with_reducible refine Calls.ext_of (hD.out _))))); refine wpQuiet_nil ?_; rintro _ ⟨xw, rfl⟩)
    go_wp2_with (refine wpList_store_row rfl 24 (.tmp 4) (.tmp 14) rfl (w.heap.size + 2) _ rfl rfl 24 _ (hC1.out.ext _) iY.out rfl nY.out ?_; simp only [Act.put])
    refine bodyPost_ret (results_cell_row rfl _ _ (w.heap.size + 2) 24 (cellsW y) (0, 0) _ rfl (heap_setRow' _ _ _ _ _ (hC1.out.ext _)) uWd rfl iY.out) rfl ⟨rfl, below_setRow' (World.ext_below_of hb2 hb2.size _) _ (by omega) _⟩

/-- A sign drawn out from byte k. -/
def sexW (k x : Nat) : Nat := sarW (x * 2 ^ upT (248 - 8 * upT k 31) 256 % 2 ^ 256) (upT (248 - 8 * upT k 31) 256)
theorem sexW_lt (k x : Nat) : sexW k x < 2 ^ 256 := sarW_lt _ _ (Nat.mod_lt _ (by decide))
set_option maxHeartbeats 1000000 in
theorem wsext_any (n x : Nat) (w : World) (hn : n < 2 ^ 256) (hx : x < 2 ^ 256) : Calls Try.prog 36 #[wd n, wd x] w fun e w' => e = .returned (wd (sexW n x)) ∧ Below w.heap.size w w' := by
  have hU := hid (fun w => upto_any n 31 hn (by omega) w)
  have hk := upT_le n 31
  have HY := hid (show sexW n x = _ from rfl)
  obtain ⟨y, hy⟩ : ∃ y, y = sexW n x := ⟨_, rfl⟩
  rw [← hy]
  unfold sexW at hy
  obtain ⟨k, hk2⟩ : ∃ k, k = upT n 31 := ⟨_, rfl⟩
  rw [← hk2] at hU hk hy
  have hup : 248 - 8 * k < 2 ^ 64 := by omega
  have hup2 : 248 - 8 * k < 2 ^ 256 := Nat.lt_of_lt_of_le hup (by decide)
  have hO := hid (fun w => wof_any (248 - 8 * k) hup w)
  have hSl := hid (fun w => wshl_any (248 - 8 * k) x w hup2 hx)
  have hSa := hid (fun w => wsar_any (248 - 8 * k) (x * 2 ^ upT (248 - 8 * k) 256 % 2 ^ 256) w hup2 (Nat.mod_lt _ (by decide)))
  rw [← hy] at hSa
  clear hup hup2
  obtain ⟨u, hu⟩ : ∃ u, u = 248 - 8 * k := ⟨_, rfl⟩
  rw [← hu] at hSl hSa hO
  have eu : (248 - 8 * (k : Int)) = ((u : Nat) : Int) := by omega
  obtain ⟨z, hz⟩ : ∃ z, z = x * 2 ^ upT u 256 % 2 ^ 256 := ⟨_, rfl⟩
  rw [← hz] at hSl hSa
  have hu3 : u ≤ 248 := by omega
  clear hn hk2 hx hy HY hk hz hu
  unfold wd at *
  have iN := hid (iW n)
  have iX := hid (iW x)
  have iU := hid (iW u)
  have nU := hid (one_cellsW u)
  have iY := hid (iW y)
  have nY := hid (one_cellsW y)
  have hA0 := hid (show ArrW 24 (((w.alloc (.cells (cellsW n) 24)).alloc (.cells (cellsW x) 24)).alloc (.cells (cellsW 0) 24)) w.heap.size n from ((ArrW.new _ w n).alloc _).alloc _)
  have hB0 := hid (show ArrW 24 (((w.alloc (.cells (cellsW n) 24)).alloc (.cells (cellsW x) 24)).alloc (.cells (cellsW 0) 24)) (w.heap.size + 1) x by
    have := ArrW.new 24 (w.alloc (.cells (cellsW n) 24)) x
    rw [World.size_alloc] at this; exact this.alloc _)
  have hC0 := hid (show ArrW 24 (((w.alloc (.cells (cellsW n) 24)).alloc (.cells (cellsW x) 24)).alloc (.cells (cellsW 0) 24)) (w.heap.size + 2) 0 by
    have := ArrW.new 24 ((w.alloc (.cells (cellsW n) 24)).alloc (.cells (cellsW x) 24)) 0
    rw [World.size_alloc, World.size_alloc] at this; exact this)
  have hb0 : Below w.heap.size w (((w.alloc (.cells (cellsW n) 24)).alloc (.cells (cellsW x) 24)).alloc (.cells (cellsW 0) 24)) := (((Below.refl _ _).alloc (Nat.le_refl _) _).alloc (by simp) _).alloc (by simp; omega) _
  go_enter Try.func36, Try.ntmps36
  go_wp2_with (first | (refine wpList_alloc_new rfl 24 rfl (cellsW 0) zWd ?_; simp only [Act.put, List.setIfInBounds_toArray, List.set_cons_zero, List.set_cons_succ]) | (refine wpList_load_row rfl 24 (.tmp 2) rfl w.heap.size rfl 24 _ (0, 0) _ hA0.out uWd rfl iN.out ?_; simp only [Act.put, List.setIfInBounds_toArray, List.set_cons_zero, List.set_cons_succ]))
  refine (hU.out _).mono ?_
  rintro e w1 ⟨rfl, hb1⟩
  have hB1 := hid (hB0.out.below hb1 hB0.out.lt)
  have hC1 := hid (hC0.out.below hb1 hC0.out.lt)
  have hb2 := hb0.trans (hb1.mono hb0.size)
  clear hA0 hB0 hC0 hb0 hb1
  go_wp2_with fail
  refine (hO.out _).mono ?_
  rintro e w2 ⟨rfl, hb3⟩
  have hB2 := hid ((hB1.out.below hb3 hB1.out.lt).alloc (.cells (cellsW u) 24))
  have hC2 := hid ((hC1.out.below hb3 hC1.out.lt).alloc (.cells (cellsW u) 24))
  have hU2 := hid (ArrW.new 24 w2 u)
  have hb4 := hb2.trans (hb3.mono hb2.size)
  have hb5 := hb4.alloc hb4.size (.cells (cellsW u) 24)
  clear hB1 hC1 hb2 hb3
  go_wp2_with (refine wpList_allocStore 24 13 6 (cellsW u) (cellsW 0) rfl rfl rfl rfl rfl rfl (by decide) (by simp) rfl (by kernel_rfl) rfl iU.out nU.out ?_; simp only [Act.put, List.setIfInBounds_toArray, List.set_cons_zero, List.set_cons_succ])
  ((try simp only [World.size_alloc]); refine wp_region_ext_tail 5 (by kernel_rfl) (by kernel_rfl) ?_; simp only [List.take_succ_cons, List.take_zero, List.drop_succ_cons, List.drop_zero]; (repeat (first | (refine wpQuiet_load_part rfl 24 (.tmp 6) rfl w2.heap.size 0 rfl 24 _ (cellsW _) (0, 0) _ hU2.out (fun j v h => by rw [Nat.zero_add]; exact h) uWd rfl iU.out ?_; simp only [Act.put, List.setIfInBounds_toArray, List.set_cons_zero, List.set_cons_succ]) | (refine wpQuiet_load_part rfl 24 (.tmp 3) rfl (w.heap.size + 1) 0 rfl 24 _ (cellsW _) (0, 0) _ hB2.out (fun j v h => by rw [Nat.zero_add]; exact h) uWd rfl iX.out ?_; simp only [Act.put, List.setIfInBounds_toArray, List.set_cons_zero, List.set_cons_succ]) | go_big_quiet_step (first | (go_at_call 30; with_reducible refine Calls.ext_of (hSl.out _)) | (go_at_call 34; with_reducible refine Calls.ext_of (hSa.out _))))); refine wpQuiet_nil ?_; rintro _ ⟨xw, rfl⟩)
  go_wp2_with (refine wpList_store_row rfl 24 (.tmp 4) (.tmp 18) rfl (w.heap.size + 2) _ rfl rfl 24 _ (hC2.out.ext _) iY.out rfl nY.out ?_; simp only [Act.put])
  refine bodyPost_ret (results_cell_row rfl _ _ (w.heap.size + 2) 24 (cellsW y) (0, 0) _ rfl (heap_setRow' _ _ _ _ _ (hC2.out.ext _)) uWd rfl iY.out) rfl ⟨rfl, below_setRow' (World.ext_below_of hb5 hb5.size _) _ (by omega) _⟩

/-- A byte taken out, the highest first. -/
def byteW (i x : Nat) : Nat := if i < 32 then x / 256 ^ (31 - i) % 256 else 0
theorem byteW_lt (i x : Nat) : byteW i x < 256 := by unfold byteW; split <;> omega
set_option maxHeartbeats 1000000 in
theorem wbyte_any (n x : Nat) (w : World) (hn : n < 2 ^ 256) : Calls Try.prog 28 #[wd n, wd x] w fun e w' => e = .returned (wd (byteW n x)) ∧ Below w.heap.size w w' := by
  have hU := hid (fun w => upto_any n 32 hn (by omega) w)
  have hk := upT_le n 32
  have iN := hid (iW n)
  by_cases hlt : n < 32
  · have HY := hid (show byteW n x = lmN x ((31 - n) / 8) / 2 ^ (8 * ((31 - n) % 8)) % 256 by unfold byteW; rw [if_pos hlt, lmN_byte _ _ (by omega)])
    have hUn : upT n 32 = n := by unfold upT; rw [if_pos hlt]
    rw [hUn] at hU
    obtain ⟨y, hy⟩ : ∃ y, y = byteW n x := ⟨_, rfl⟩
    have hy2 := byteW_lt n x
    rw [← hy] at HY hy2 ⊢
    have hO := hid (fun w => wof_any y (by omega) w)
    obtain ⟨m, hm⟩ : ∃ m, m = 31 - n := ⟨_, rfl⟩
    rw [← hm] at HY
    have h3 : (31 - (n : Int)) = (m : Int) := by omega
    have hm2 : m ≤ 31 := by omega
    have n1 := lm_nonneg x (m / 8)
    have n2 := lm_lt x (m / 8)
    have hV := hid (show bits .and .u64 (lm x (m / 8) / 2 ^ (8 * (m % 8))) 255 = (y : Int) by
      rw [HY.out]
      unfold lm
      rw [show (((lmN x (m / 8) : Nat) : Int)) / 2 ^ (8 * (m % 8)) = ((lmN x (m / 8) / 2 ^ (8 * (m % 8)) : Nat) : Int) by rw [Int.natCast_ediv, Int.natCast_pow]; rfl]
      rw [show (255 : Int) = ((255 : Nat) : Int) from rfl, u64_and_nat _ _ (Nat.lt_of_le_of_lt (Nat.div_le_self _ _) (lmN_lt _ _)) (by decide)]
      rw [show (255 : Nat) = 2 ^ 8 - 1 from rfl, Nat.and_two_pow_sub_one_eq_mod])
    have hsh : (8 * ((m : Int) % 8)).toNat = 8 * (m % 8) := by omega
    have hne : ¬ ((n : Int) = 32) := by omega
    clear HY hy hm hn hlt hUn hk hy2
    unfold wd at *
    have iY := hid (iW y)
    have nY := hid (one_cellsW y)
    have hA0 := hid (show ArrW 24 (((w.alloc (.cells (cellsW n) 24)).alloc (.cells (cellsW x) 24)).alloc (.cells (cellsW 0) 24)) w.heap.size n from ((ArrW.new _ w n).alloc _).alloc _)
    have hB0 := hid (show ArrW 24 (((w.alloc (.cells (cellsW n) 24)).alloc (.cells (cellsW x) 24)).alloc (.cells (cellsW 0) 24)) (w.heap.size + 1) x by
      have := ArrW.new 24 (w.alloc (.cells (cellsW n) 24)) x
      rw [World.size_alloc] at this; exact this.alloc _)
    have hC0 := hid (show ArrW 24 (((w.alloc (.cells (cellsW n) 24)).alloc (.cells (cellsW x) 24)).alloc (.cells (cellsW 0) 24)) (w.heap.size + 2) 0 by
      have := ArrW.new 24 ((w.alloc (.cells (cellsW n) 24)).alloc (.cells (cellsW x) 24)) 0
      rw [World.size_alloc, World.size_alloc] at this; exact this)
    have hb0 : Below w.heap.size w (((w.alloc (.cells (cellsW n) 24)).alloc (.cells (cellsW x) 24)).alloc (.cells (cellsW 0) 24)) := (((Below.refl _ _).alloc (Nat.le_refl _) _).alloc (by simp) _).alloc (by simp; omega) _
    go_enter Try.func28, Try.ntmps28
    go_wp2_with (first | (refine wpList_alloc_new rfl 24 rfl (cellsW 0) zWd ?_; simp only [Act.put, List.setIfInBounds_toArray, List.set_cons_zero, List.set_cons_succ]) | (refine wpList_load_row rfl 24 (.tmp 2) rfl w.heap.size rfl 24 _ (0, 0) _ hA0.out uWd rfl iN.out ?_; simp only [Act.put, List.setIfInBounds_toArray, List.set_cons_zero, List.set_cons_succ]))
    refine (hU.out _).mono ?_
    rintro e w1 ⟨rfl, hb1⟩
    have hB1 := hid (hB0.out.below hb1 hB0.out.lt)
    have hC1 := hid (hC0.out.below hb1 hC0.out.lt)
    have hb2 := hb0.trans (hb1.mono hb0.size)
    have c1 := hB1.out.cell (m / 8) (by omega)
    have l1 := hB1.out.lt
    clear hA0 hB0 hC0 hb0 hb1
    go_wp2_with fail
    rw [hV.out]
    refine (hO.out _).mono ?_
    rintro e w2 ⟨rfl, hb3⟩
    have hC2 := hid (hC1.out.below hb3 hC1.out.lt)
    have hb4 := hb2.trans (hb3.mono hb2.size)
    clear hB1 hC1 c1 l1
    go_wp2_with (refine wpList_store_row rfl 24 (.tmp 4) (.tmp 22) rfl (w.heap.size + 2) _ rfl rfl 24 _ hC2.out iY.out rfl nY.out ?_; simp only [Act.put])
    refine bodyPost_ret (results_cell_row rfl _ _ (w.heap.size + 2) 24 (cellsW y) (0, 0) _ rfl (heap_setRow' _ _ _ _ _ hC2.out) uWd rfl iY.out) rfl ⟨rfl, below_setRow' hb4 _ (by omega) _⟩
  · have hUn : upT n 32 = 32 := by unfold upT; rw [if_neg hlt]
    rw [hUn] at hU
    have HY := hid (show byteW n x = 0 by unfold byteW; rw [if_neg hlt])
    clear hUn hk hlt hn
    rw [HY.out]
    have i0 := hid (iW 0)
    have n0 := hid (one_cellsW 0)
    have b0 : Try.prog.built 24 [] = some (cellsW 0) := by kernel_rfl
    unfold wd at *
    have hA0 := hid (show ArrW 24 (((w.alloc (.cells (cellsW n) 24)).alloc (.cells (cellsW x) 24)).alloc (.cells (cellsW 0) 24)) w.heap.size n from ((ArrW.new _ w n).alloc _).alloc _)
    have hB0 := hid (show ArrW 24 (((w.alloc (.cells (cellsW n) 24)).alloc (.cells (cellsW x) 24)).alloc (.cells (cellsW 0) 24)) (w.heap.size + 1) x by
      have := ArrW.new 24 (w.alloc (.cells (cellsW n) 24)) x
      rw [World.size_alloc] at this; exact this.alloc _)
    have hC0 := hid (show ArrW 24 (((w.alloc (.cells (cellsW n) 24)).alloc (.cells (cellsW x) 24)).alloc (.cells (cellsW 0) 24)) (w.heap.size + 2) 0 by
      have := ArrW.new 24 ((w.alloc (.cells (cellsW n) 24)).alloc (.cells (cellsW x) 24)) 0
      rw [World.size_alloc, World.size_alloc] at this; exact this)
    have hb0 : Below w.heap.size w (((w.alloc (.cells (cellsW n) 24)).alloc (.cells (cellsW x) 24)).alloc (.cells (cellsW 0) 24)) := (((Below.refl _ _).alloc (Nat.le_refl _) _).alloc (by simp) _).alloc (by simp; omega) _
    go_enter Try.func28, Try.ntmps28
    go_wp2_with (first | (refine wpList_alloc_new rfl 24 rfl (cellsW 0) zWd ?_; simp only [Act.put, List.setIfInBounds_toArray, List.set_cons_zero, List.set_cons_succ]) | (refine wpList_load_row rfl 24 (.tmp 2) rfl w.heap.size rfl 24 _ (0, 0) _ hA0.out uWd rfl iN.out ?_; simp only [Act.put, List.setIfInBounds_toArray, List.set_cons_zero, List.set_cons_succ]))
    refine (hU.out _).mono ?_
    rintro e w1 ⟨rfl, hb1⟩
    have hC1 := hid (hC0.out.below hb1 hC0.out.lt)
    have hb2 := hb0.trans (hb1.mono hb0.size)
    clear hA0 hB0 hC0 hb0 hb1
    go_wp2_with (first | (refine wpList_store_row rfl 24 (.tmp 4) (.tmp 10) rfl (w.heap.size + 2) _ rfl rfl 24 _ hC1.out i0.out rfl n0.out ?_; simp only [Act.put]))
    refine bodyPost_ret (results_cell_row rfl _ _ (w.heap.size + 2) 24 (cellsW 0) (0, 0) _ rfl (heap_setRow' _ _ _ _ _ hC1.out) uWd rfl i0.out) rfl ⟨rfl, below_setRow' hb2 _ (by omega) _⟩
end Go.Proofs.Ytfidbiabgmioaaa
