import Derived.Test.YtfidbiabgmioaaaDivG
import Derived.Test.YtfidbiabgmioaaaDivE
import Derived.Test.YtfidbiabgmioaaaRefC
/-! word: parts, Div, Mod, Mulmod, Addmod, Sdiv, Smod. -/
set_option maxRecDepth 4000
set_option linter.unusedVariables false
set_option linter.unusedSimpArgs false
namespace Go.Proofs.Ytfidbiabgmioaaa
open Go.RowKit

theorem divide_any (n U d : Nat) (v : Value) (w : World) (hr : RdM w v n U) (hU : U < 2 ^ (64 * n)) (hn4 : 4 ≤ n) (hn : n ≤ 9) (hd : 0 < d) (hd2 : d < 2 ^ 256) :
    Calls Try.prog 120 #[v, wd d] w fun e w' => ∃ gq, e = .returned (.tuple #[.slice (some ⟨gq, 0, none⟩) n n, wd (U % d)]) ∧ ArrM 22 n w' gq (U / d) ∧ w.heap.size ≤ gq ∧ Below w.heap.size w w' := by
  by_cases h : d < 2 ^ 64
  · exact divide1_any n U d v w hr hU hn hd h
  · exact divideN_any n U d v w hr hU hn4 hn (by omega) hd2

set_option maxHeartbeats 2000000 in
theorem wmulmod_any (a b d : Nat) (w : World) (ha : a < 2 ^ 256) (hb : b < 2 ^ 256) (hd256 : d < 2 ^ 256) : Calls Try.prog 72 #[wd a, wd b, wd d] w fun e w' => e = .returned (wd (modW (a * b) d)) ∧ Below w.heap.size w w' := by
  have hZ := hid (fun w => wzero_any d hd256 w)
  have iA := hid (iW a)
  have iB := hid (iW b)
  have iD := hid (iW d)
  have nD := hid (one_cellsW d)
  by_cases h0 : d = 0
  · have HY := hid (show modW (a * b) d = d by unfold modW; rw [if_pos h0, h0])
    rw [decide_eq_true h0] at hZ
    rw [HY.out]
    clear h0 HY ha hb hd256
    unfold wd at *
    have hA0 := hid (show ArrW 24 ((((w.alloc (.cells (cellsW a) 24)).alloc (.cells (cellsW b) 24)).alloc (.cells (cellsW d) 24)).alloc (.cells (cellsW 0) 24)) w.heap.size a from (((ArrW.new _ w a).alloc _).alloc _).alloc _)
    have hB0 := hid (show ArrW 24 ((((w.alloc (.cells (cellsW a) 24)).alloc (.cells (cellsW b) 24)).alloc (.cells (cellsW d) 24)).alloc (.cells (cellsW 0) 24)) (w.heap.size + 1) b by
      have := ArrW.new 24 (w.alloc (.cells (cellsW a) 24)) b
      rw [World.size_alloc] at this; exact (this.alloc _).alloc _)
    have hC0 := hid (show ArrW 24 ((((w.alloc (.cells (cellsW a) 24)).alloc (.cells (cellsW b) 24)).alloc (.cells (cellsW d) 24)).alloc (.cells (cellsW 0) 24)) (w.heap.size + 2) d by
      have := ArrW.new 24 ((w.alloc (.cells (cellsW a) 24)).alloc (.cells (cellsW b) 24)) d
      rw [World.size_alloc, World.size_alloc] at this; exact this.alloc _)
    have hD0 := hid (show ArrW 24 ((((w.alloc (.cells (cellsW a) 24)).alloc (.cells (cellsW b) 24)).alloc (.cells (cellsW d) 24)).alloc (.cells (cellsW 0) 24)) (w.heap.size + 3) 0 by
      have := ArrW.new 24 (((w.alloc (.cells (cellsW a) 24)).alloc (.cells (cellsW b) 24)).alloc (.cells (cellsW d) 24)) 0
      rw [World.size_alloc, World.size_alloc, World.size_alloc] at this; exact this)
    have hb0 : Below w.heap.size w ((((w.alloc (.cells (cellsW a) 24)).alloc (.cells (cellsW b) 24)).alloc (.cells (cellsW d) 24)).alloc (.cells (cellsW 0) 24)) := ((((Below.refl _ _).alloc (Nat.le_refl _) _).alloc (by simp) _).alloc (by simp; omega) _).alloc (by simp; omega) _
    go_enter Try.func72, Try.ntmps72
    go_wp2_with (first | (refine wpList_alloc_new rfl 24 rfl (cellsW 0) zWd ?_; simp only [Act.put, List.setIfInBounds_toArray, List.set_cons_zero, List.set_cons_succ, World.size_alloc]) | (refine wpList_load_row rfl 24 (.tmp 5) rfl (w.heap.size + 2) rfl 24 _ (0, 0) _ hC0.out uWd rfl iD.out ?_; simp only [Act.put, List.setIfInBounds_toArray, List.set_cons_zero, List.set_cons_succ]))
    refine (hZ.out _).mono ?_
    rintro e w1 ⟨rfl, hb1⟩
    have hC1 := hid (hC0.out.below hb1 hC0.out.lt)
    have hD1 := hid (hD0.out.below hb1 hD0.out.lt)
    have hb2 := hb0.trans (hb1.mono hb0.size)
    clear hA0 hB0 hC0 hD0 hb0 hb1
    go_wp2_with (first | (refine wpList_load_row rfl 24 (.tmp 5) rfl (w.heap.size + 2) rfl 24 _ (0, 0) _ hC1.out uWd rfl iD.out ?_; simp only [Act.put, List.setIfInBounds_toArray, List.set_cons_zero, List.set_cons_succ]) | (refine wpList_store_row rfl 24 (.tmp 6) (.tmp 12) rfl (w.heap.size + 3) _ rfl rfl 24 _ hD1.out iD.out rfl nD.out ?_; simp only [Act.put]))
    refine bodyPost_ret (results_cell_row rfl _ _ (w.heap.size + 3) 24 (cellsW d) (0, 0) _ rfl (heap_setRow' _ _ _ _ _ hD1.out) uWd rfl iD.out) rfl ⟨rfl, below_setRow' hb2 _ (by omega) _⟩
  · have HY := hid (show modW (a * b) d = a * b % d by unfold modW; rw [if_neg h0])
    rw [decide_eq_false h0] at hZ
    rw [HY.out]
    have hF := hid (fun w => wfull_any a b w ha hb)
    have hab : a * b < 2 ^ (64 * 8) := by
      have := Nat.mul_lt_mul'' ha hb
      rw [← Nat.pow_add, show 256 + 256 = 64 * 8 from rfl] at this; exact this
    have hDv := hid (fun v w hr => divide_any 8 (a * b) d v w hr hab (by omega) (by omega) (Nat.pos_of_ne_zero h0) hd256)
    obtain ⟨s, hs⟩ : ∃ s, s = a * b := ⟨_, rfl⟩
    obtain ⟨r, hr⟩ : ∃ r, r = s % d := ⟨_, rfl⟩
    rw [← hs] at hF hDv ⊢
    rw [← hr] at hDv ⊢
    clear ha hb h0 HY hd256 hab hs hr
    unfold wd at *
    have iR := hid (iW r)
    have nR := hid (one_cellsW r)
    have iP := hid (iM8 s)
    have nP := hid (one_cellsM 8 s)
    have hA0 := hid (show ArrW 24 ((((w.alloc (.cells (cellsW a) 24)).alloc (.cells (cellsW b) 24)).alloc (.cells (cellsW d) 24)).alloc (.cells (cellsW 0) 24)) w.heap.size a from (((ArrW.new _ w a).alloc _).alloc _).alloc _)
    have hB0 := hid (show ArrW 24 ((((w.alloc (.cells (cellsW a) 24)).alloc (.cells (cellsW b) 24)).alloc (.cells (cellsW d) 24)).alloc (.cells (cellsW 0) 24)) (w.heap.size + 1) b by
      have := ArrW.new 24 (w.alloc (.cells (cellsW a) 24)) b
      rw [World.size_alloc] at this; exact (this.alloc _).alloc _)
    have hC0 := hid (show ArrW 24 ((((w.alloc (.cells (cellsW a) 24)).alloc (.cells (cellsW b) 24)).alloc (.cells (cellsW d) 24)).alloc (.cells (cellsW 0) 24)) (w.heap.size + 2) d by
      have := ArrW.new 24 ((w.alloc (.cells (cellsW a) 24)).alloc (.cells (cellsW b) 24)) d
      rw [World.size_alloc, World.size_alloc] at this; exact this.alloc _)
    have hD0 := hid (show ArrW 24 ((((w.alloc (.cells (cellsW a) 24)).alloc (.cells (cellsW b) 24)).alloc (.cells (cellsW d) 24)).alloc (.cells (cellsW 0) 24)) (w.heap.size + 3) 0 by
      have := ArrW.new 24 (((w.alloc (.cells (cellsW a) 24)).alloc (.cells (cellsW b) 24)).alloc (.cells (cellsW d) 24)) 0
      rw [World.size_alloc, World.size_alloc, World.size_alloc] at this; exact this)
    have hb0 : Below w.heap.size w ((((w.alloc (.cells (cellsW a) 24)).alloc (.cells (cellsW b) 24)).alloc (.cells (cellsW d) 24)).alloc (.cells (cellsW 0) 24)) := ((((Below.refl _ _).alloc (Nat.le_refl _) _).alloc (by simp) _).alloc (by simp; omega) _).alloc (by simp; omega) _
    go_enter Try.func72, Try.ntmps72
    go_wp2_with (first | (refine wpList_alloc_new rfl 24 rfl (cellsW 0) zWd ?_; simp only [Act.put, List.setIfInBounds_toArray, List.set_cons_zero, List.set_cons_succ, World.size_alloc]) | (refine wpList_load_row rfl 24 (.tmp 5) rfl (w.heap.size + 2) rfl 24 _ (0, 0) _ hC0.out uWd rfl iD.out ?_; simp only [Act.put, List.setIfInBounds_toArray, List.set_cons_zero, List.set_cons_succ]))
    refine (hZ.out _).mono ?_
    rintro e w1 ⟨rfl, hb1⟩
    have hA1 := hid (hA0.out.below hb1 hA0.out.lt)
    have hB1 := hid (hB0.out.below hb1 hB0.out.lt)
    have hC1 := hid (hC0.out.below hb1 hC0.out.lt)
    have hD1 := hid (hD0.out.below hb1 hD0.out.lt)
    have hb2 := hb0.trans (hb1.mono hb0.size)
    clear hA0 hB0 hC0 hD0 hb0 hb1
    go_wp2_with (first | (refine wpList_load_row rfl 24 (.tmp 3) rfl w.heap.size rfl 24 _ (0, 0) _ hA1.out uWd rfl iA.out ?_; simp only [Act.put, List.setIfInBounds_toArray, List.set_cons_zero, List.set_cons_succ]) | (refine wpList_load_row rfl 24 (.tmp 4) rfl (w.heap.size + 1) rfl 24 _ (0, 0) _ hB1.out uWd rfl iB.out ?_; simp only [Act.put, List.setIfInBounds_toArray, List.set_cons_zero, List.set_cons_succ]))
    refine (hF.out _).mono ?_
    rintro e w2 ⟨rfl, hb3⟩
    have hC2 := hid ((hC1.out.below hb3 hC1.out.lt).alloc (.cells (cellsM 8 s) 69))
    have hD2 := hid ((hD1.out.below hb3 hD1.out.lt).alloc (.cells (cellsM 8 s) 69))
    have hP2 := hid (ArrM.new 69 8 w2 s)
    have hb4 := hb2.trans (hb3.mono hb2.size)
    have hb5 := hb4.alloc hb4.size (.cells (cellsM 8 s) 69)
    have hsz : w.heap.size + 4 ≤ w2.heap.size := by have h1 := (hD1.out.below hb3 hD1.out.lt).lt; omega
    clear hA1 hB1 hC1 hD1 hb2 hb3
    go_wp2_with (first | (refine wpList_allocStore 69 15 7 (cellsM 8 s) (cellsM 8 0) rfl rfl rfl rfl rfl rfl (by decide) (by simp) rfl (by kernel_rfl) (by rw [size_cellsM, size_cellsM]) iP.out nP.out ?_; simp only [Act.put, List.setIfInBounds_toArray, List.set_cons_zero, List.set_cons_succ]))
    have hrd := hid (hP2.out.rd 8 (by omega))
    generalize hw3 : w2.alloc (.cells (cellsM 8 s) 69) = w3 at hC2 hD2 hP2 hb5 hrd ⊢
    have hsz3 : w2.heap.size ≤ w3.heap.size := by rw [← hw3]; simp
    refine wp_region_loose_tail 8 [.kn (.slice (some ⟨w2.heap.size, 0, none⟩) 8 8), .kn (.agg (cellsW (d))), .lo (fun v _ => ∃ q, v = .tuple #[q, .agg (cellsW r)]), .lo (fun v _ => ∃ q, v = .tuple #[q, .agg (cellsW r)]), .lo (fun _ _ => True), .kn (.agg (cellsW (r))), .lo (fun v w => ∃ b, v = .pointer (some ⟨b, 0, none⟩) ∧ ArrW 24 w b 0 ∧ w2.heap.size ≤ b), .lo (fun _ _ => True)] (by kernel_rfl) (by kernel_rfl) (by kernel_rfl) ?_ ?_
    · refine keepsAll_kn (keepsAll_kn (keepsAll_lo (fun _ _ _ h _ => h) (keepsAll_lo (fun _ _ _ h _ => h) (keepsAll_lo (fun _ _ _ h _ => h) (keepsAll_kn (keepsAll_lo ?_ (keepsAll_lo (fun _ _ _ h _ => h) trivial)))))))
      rintro v w w' ⟨b, h1, h2, h3⟩ hb
      exact ⟨b, h1, h2.below hb h2.lt, h3⟩
    simp only [List.take_succ_cons, List.take_zero, List.drop_succ_cons, List.drop_zero]
    (refine loose_step_on rfl (fun W' hB' hd K hK => ?_) ?_; (focus (clear hd; go_simp; exact hK _ _ (Below.refl _ _) rfl)); rintro _ rfl; simp only [Act.put, List.setIfInBounds_toArray, List.set_cons_zero, List.set_cons_succ])
    (refine loose_step_on rfl (fun W' hB' hd K hK => wp_load_block 24 (.tmp 5) rfl (w.heap.size + 2) rfl 24 _ _ (ArrW.below hC2.out hB' (ArrW.lt hC2.out)) uWd rfl iD.out (hK _ _ (Below.refl _ _) rfl)) ?_; rintro _ rfl; simp only [Act.put, List.setIfInBounds_toArray, List.set_cons_zero, List.set_cons_succ])
    (refine loose_step_on rfl (fun W' hB' hd K hK => ?_) ?_; (focus (clear hd; go_simp; refine (hDv.out _ _ (hrd.out.below hB')).mono ?_; rintro _ _ ⟨gq, rfl, h1, h2, h3⟩; exact hK _ _ h3 ⟨_, rfl⟩)); intro v19 _; simp only [Act.put, List.setIfInBounds_toArray, List.set_cons_zero, List.set_cons_succ])
    (refine loose_step_on rfl (fun W' hB' hd K hK => ?_) ?_; (focus (have g19 : ∃ q, v19 = .tuple #[q, .agg (cellsW r)] := hd ⟨2, Ground.data⟩ (by simp) rfl _ 19 rfl rfl (by simp); clear hd; go_simp; exact hK _ _ (Below.refl _ _) g19)); intro v16 _; simp only [Act.put, List.setIfInBounds_toArray, List.set_cons_zero, List.set_cons_succ])
    (refine loose_step_on rfl (fun W' hB' hd K hK => ?_) ?_; (focus (have g16 : ∃ q, v16 = .tuple #[q, .agg (cellsW r)] := hd ⟨3, Ground.data⟩ (by simp) rfl _ 16 rfl rfl (by simp); clear hd; obtain ⟨x1, rfl⟩ := g16; go_simp; exact hK _ _ (Below.refl _ _) trivial)); intro v20 _; simp only [Act.put, List.setIfInBounds_toArray, List.set_cons_zero, List.set_cons_succ])
    (refine loose_step_on rfl (fun W' hB' hd K hK => ?_) ?_; (focus (have g16 : ∃ q, v16 = .tuple #[q, .agg (cellsW r)] := hd ⟨3, Ground.data⟩ (by simp) rfl _ 16 rfl rfl (by simp); clear hd; obtain ⟨x1, rfl⟩ := g16; go_simp; exact hK _ _ (Below.refl _ _) rfl)); rintro _ rfl; simp only [Act.put, List.setIfInBounds_toArray, List.set_cons_zero, List.set_cons_succ])
    (refine loose_step_on rfl (fun W' hB' hd K hK => wp_alloc_new 24 rfl (cellsW 0) zWd (hK _ _ ((Below.refl _ _).alloc (Nat.le_refl _) _) ⟨_, rfl, ArrW.new _ _ _, Nat.le_trans hsz3 hB'.size⟩)) ?_; intro v9 _; simp only [Act.put, List.setIfInBounds_toArray, List.set_cons_zero, List.set_cons_succ])
    (refine loose_step_on rfl (fun W' hB' hd K hK => ?_) ?_; (focus (clear hd; go_simp; exact hK _ _ (Below.refl _ _) trivial)); intro v8 _; simp only [Act.put, List.setIfInBounds_toArray, List.set_cons_zero, List.set_cons_succ])
    intro w6 hb6 hf
    have g9 : ∃ b, v9 = .pointer (some ⟨b, 0, none⟩) ∧ ArrW 24 w6 b 0 ∧ w2.heap.size ≤ b := hf 6 _ 9 (by first | omega | simp) rfl rfl (by simp)
    clear hf
    obtain ⟨bb, rfl, hR6, hle⟩ := g9
    have hD6 := hid ((hD2.out.below hb6 hD2.out.lt).otherRow (show w.heap.size + 3 ≠ bb by omega) (cellsW r))
    have HR := hid hR6
    have HR2 := hid (hR6.row r)
    have hb7 := below_setRow' (hb5.trans (hb6.mono hb5.size)) bb (by omega) (cellsW r)
    clear hb6 hC2 hD2 hP2 hrd hR6
    go_wp2_with (first | (refine wpList_store_row rfl 24 (.tmp 9) (.tmp 21) rfl bb _ rfl rfl 24 _ HR.out iR.out rfl nR.out ?_; simp only [Act.put]) | (refine wpList_load_row rfl 24 (.tmp 9) rfl bb rfl 24 _ (0, 0) _ HR2.out uWd rfl iR.out ?_; simp only [Act.put, List.setIfInBounds_toArray, List.set_cons_zero, List.set_cons_succ]) | (refine wpList_store_row rfl 24 (.tmp 6) (.tmp 22) rfl (w.heap.size + 3) _ rfl rfl 24 _ hD6.out iR.out rfl nR.out ?_; simp only [Act.put]))
    refine bodyPost_ret (results_cell_row rfl _ _ (w.heap.size + 3) 24 (cellsW r) (0, 0) _ rfl (heap_setRow' _ _ _ _ _ hD6.out) uWd rfl iR.out) rfl ⟨rfl, below_setRow' hb7 _ (by omega) _⟩

set_option maxHeartbeats 4000000 in
theorem wparts_any (a b : Nat) (w : World) (ha : a < 2 ^ 256) (hb256 : b < 2 ^ 256) : Calls Try.prog 115 #[wd a, wd b] w fun e w' => e = .returned (.tuple #[wd (a / b), wd (modW a b)]) ∧ Below w.heap.size w w' := by
  have hZ := hid (fun w => wzero_any b hb256 w)
  have iA := hid (iW a)
  have iB := hid (iW b)
  have nB := hid (one_cellsW b)
  by_cases h0 : b = 0
  · have HY := hid (show modW a b = b by unfold modW; rw [if_pos h0, h0])
    have HQ := hid (show a / b = b by rw [h0, Nat.div_zero])
    rw [decide_eq_true h0] at hZ
    rw [HY.out, HQ.out]
    clear h0 HY HQ ha hb256
    unfold wd at *
    have hA0 := hid (show ArrW 24 ((((w.alloc (.cells (cellsW a) 24)).alloc (.cells (cellsW b) 24)).alloc (.cells (cellsW 0) 24)).alloc (.cells (cellsW 0) 24)) w.heap.size a from (((ArrW.new _ w a).alloc _).alloc _).alloc _)
    have hB0 := hid (show ArrW 24 ((((w.alloc (.cells (cellsW a) 24)).alloc (.cells (cellsW b) 24)).alloc (.cells (cellsW 0) 24)).alloc (.cells (cellsW 0) 24)) (w.heap.size + 1) b by
      have := ArrW.new 24 (w.alloc (.cells (cellsW a) 24)) b
      rw [World.size_alloc] at this; exact (this.alloc _).alloc _)
    have hC0 := hid (show ArrW 24 ((((w.alloc (.cells (cellsW a) 24)).alloc (.cells (cellsW b) 24)).alloc (.cells (cellsW 0) 24)).alloc (.cells (cellsW 0) 24)) (w.heap.size + 2) 0 by
      have := ArrW.new 24 ((w.alloc (.cells (cellsW a) 24)).alloc (.cells (cellsW b) 24)) 0
      rw [World.size_alloc, World.size_alloc] at this; exact this.alloc _)
    have hD0 := hid (show ArrW 24 ((((w.alloc (.cells (cellsW a) 24)).alloc (.cells (cellsW b) 24)).alloc (.cells (cellsW 0) 24)).alloc (.cells (cellsW 0) 24)) (w.heap.size + 3) 0 by
      have := ArrW.new 24 (((w.alloc (.cells (cellsW a) 24)).alloc (.cells (cellsW b) 24)).alloc (.cells (cellsW 0) 24)) 0
      rw [World.size_alloc, World.size_alloc, World.size_alloc] at this; exact this)
    have hb0 : Below w.heap.size w ((((w.alloc (.cells (cellsW a) 24)).alloc (.cells (cellsW b) 24)).alloc (.cells (cellsW 0) 24)).alloc (.cells (cellsW 0) 24)) := ((((Below.refl _ _).alloc (Nat.le_refl _) _).alloc (by simp) _).alloc (by simp; omega) _).alloc (by simp; omega) _
    go_enter Try.func115, Try.ntmps115
    go_wp2_with (first | (refine wpList_alloc_new rfl 24 rfl (cellsW 0) zWd ?_; simp only [Act.put, List.setIfInBounds_toArray, List.set_cons_zero, List.set_cons_succ, World.size_alloc]) | (refine wpList_load_row rfl 24 (.tmp 3) rfl (w.heap.size + 1) rfl 24 _ (0, 0) _ hB0.out uWd rfl iB.out ?_; simp only [Act.put, List.setIfInBounds_toArray, List.set_cons_zero, List.set_cons_succ]))
    refine (hZ.out _).mono ?_
    rintro e w1 ⟨rfl, hb1⟩
    have hB1 := hid (hB0.out.below hb1 hB0.out.lt)
    have hC1 := hid (hC0.out.below hb1 hC0.out.lt)
    have hD1 := hid (hD0.out.below hb1 hD0.out.lt)
    have hb2 := hb0.trans (hb1.mono hb0.size)
    clear hA0 hB0 hC0 hD0 hb0 hb1
    go_wp2_with fail
    (try simp only [World.size_alloc])
    (refine wp_region_ext_float 2 1 [0] [_] _ _ _ rfl rfl rfl rfl (by kernel_rfl) (by kernel_rfl) ?_; (repeat (first | (refine wpQuiet_load_part rfl 24 (.tmp 3) rfl (w.heap.size + 1) 0 rfl 24 _ (cellsW _) (0, 0) _ hB1.out (fun j v h => by rw [Nat.zero_add]; exact h) uWd rfl iB.out ?_; simp only [Act.put, List.setIfInBounds_toArray, List.set_cons_zero, List.set_cons_succ]) | go_big_quiet_step (first | fail))); refine wpQuiet_nil ?_; refine ⟨?_, ?_⟩; rotate_left; rintro _ ⟨xw, rfl⟩; rotate_left; (repeat (first | (refine wpQuiet_load_part rfl 24 (.tmp 3) rfl (w.heap.size + 1) 0 rfl 24 _ (cellsW _) (0, 0) _ hB1.out (fun j v h => by rw [Nat.zero_add]; exact h) uWd rfl iB.out ?_; simp only [Act.put, List.setIfInBounds_toArray, List.set_cons_zero, List.set_cons_succ]) | go_big_quiet_step (first | fail))); refine wpQuiet_nil ?_; rintro _ ⟨xw, rfl⟩)
    all_goals
      have hC2 := hid (hC1.out.ext xw)
      have hD2 := hid (hD1.out.ext xw)
      have hD3 := hid (hD2.out.otherRow (show w.heap.size + 3 ≠ w.heap.size + 2 by omega) (cellsW b))
      have hB2 := hid ((hB1.out.ext xw).otherRow (show w.heap.size + 1 ≠ w.heap.size + 2 by omega) (cellsW b))
      have hb3 := World.ext_below_of hb2 hb2.size xw
      go_wp2_with (first | (refine wpList_store_row rfl 24 (.tmp 4) (.tmp 10) rfl (w.heap.size + 2) _ rfl rfl 24 _ hC2.out iB.out rfl nB.out ?_; simp only [Act.put]) | (refine wpList_load_row rfl 24 (.tmp 3) rfl (w.heap.size + 1) rfl 24 _ (0, 0) _ hB2.out uWd rfl iB.out ?_; simp only [Act.put, List.setIfInBounds_toArray, List.set_cons_zero, List.set_cons_succ]) | (refine wpList_store_row rfl 24 (.tmp 5) (.tmp 11) rfl (w.heap.size + 3) _ rfl rfl 24 _ hD3.out iB.out rfl nB.out ?_; simp only [Act.put]))
      refine bodyPost_ret (results_row_row rfl _ _ (w.heap.size + 2) (w.heap.size + 3) 24 24 (cellsW b) (cellsW b) (0, 0) (0, 0) _ _ rfl ((hC2.out.row b).otherRow (show w.heap.size + 2 ≠ w.heap.size + 3 by omega) _) rfl (hD3.out.row b) uWd rfl iB.out uWd rfl iB.out) rfl ⟨rfl, below_setRow' (below_setRow' hb3 _ (by omega) _) _ (by omega) _⟩
  · have HY := hid (show modW a b = a % b by unfold modW; rw [if_neg h0])
    rw [decide_eq_false h0] at hZ
    rw [HY.out]
    have hDv := hid (fun v w hr => divide_any 4 a b v w hr ha (by omega) (by omega) (Nat.pos_of_ne_zero h0) hb256)
    obtain ⟨q, hq⟩ : ∃ q, q = a / b := ⟨_, rfl⟩
    obtain ⟨r, hr⟩ : ∃ r, r = a % b := ⟨_, rfl⟩
    rw [← hr, ← hq] at hDv ⊢
    clear ha h0 HY hb256 hq hr
    unfold wd at *
    have iR := hid (iW r)
    have nR := hid (one_cellsW r)
    have iQ := hid (iW q)
    have nQ := hid (one_cellsW q)
    have hA0 := hid (show ArrW 24 ((((w.alloc (.cells (cellsW a) 24)).alloc (.cells (cellsW b) 24)).alloc (.cells (cellsW 0) 24)).alloc (.cells (cellsW 0) 24)) w.heap.size a from (((ArrW.new _ w a).alloc _).alloc _).alloc _)
    have hB0 := hid (show ArrW 24 ((((w.alloc (.cells (cellsW a) 24)).alloc (.cells (cellsW b) 24)).alloc (.cells (cellsW 0) 24)).alloc (.cells (cellsW 0) 24)) (w.heap.size + 1) b by
      have := ArrW.new 24 (w.alloc (.cells (cellsW a) 24)) b
      rw [World.size_alloc] at this; exact (this.alloc _).alloc _)
    have hC0 := hid (show ArrW 24 ((((w.alloc (.cells (cellsW a) 24)).alloc (.cells (cellsW b) 24)).alloc (.cells (cellsW 0) 24)).alloc (.cells (cellsW 0) 24)) (w.heap.size + 2) 0 by
      have := ArrW.new 24 ((w.alloc (.cells (cellsW a) 24)).alloc (.cells (cellsW b) 24)) 0
      rw [World.size_alloc, World.size_alloc] at this; exact this.alloc _)
    have hD0 := hid (show ArrW 24 ((((w.alloc (.cells (cellsW a) 24)).alloc (.cells (cellsW b) 24)).alloc (.cells (cellsW 0) 24)).alloc (.cells (cellsW 0) 24)) (w.heap.size + 3) 0 by
      have := ArrW.new 24 (((w.alloc (.cells (cellsW a) 24)).alloc (.cells (cellsW b) 24)).alloc (.cells (cellsW 0) 24)) 0
      rw [World.size_alloc, World.size_alloc, World.size_alloc] at this; exact this)
    have hb0 : Below w.heap.size w ((((w.alloc (.cells (cellsW a) 24)).alloc (.cells (cellsW b) 24)).alloc (.cells (cellsW 0) 24)).alloc (.cells (cellsW 0) 24)) := ((((Below.refl _ _).alloc (Nat.le_refl _) _).alloc (by simp) _).alloc (by simp; omega) _).alloc (by simp; omega) _
    go_enter Try.func115, Try.ntmps115
    go_wp2_with (first | (refine wpList_alloc_new rfl 24 rfl (cellsW 0) zWd ?_; simp only [Act.put, List.setIfInBounds_toArray, List.set_cons_zero, List.set_cons_succ, World.size_alloc]) | (refine wpList_load_row rfl 24 (.tmp 3) rfl (w.heap.size + 1) rfl 24 _ (0, 0) _ hB0.out uWd rfl iB.out ?_; simp only [Act.put, List.setIfInBounds_toArray, List.set_cons_zero, List.set_cons_succ]))
    refine (hZ.out _).mono ?_
    rintro e w1 ⟨rfl, hb1⟩
    have hA1 := hid (hA0.out.below hb1 hA0.out.lt)
    have hB1 := hid (hB0.out.below hb1 hB0.out.lt)
    have hC1 := hid (hC0.out.below hb1 hC0.out.lt)
    have hD1 := hid (hD0.out.below hb1 hD0.out.lt)
    have hb2 := hb0.trans (hb1.mono hb0.size)
    have hsz : w.heap.size + 4 ≤ w1.heap.size := by have h1 := hD1.out.lt; omega
    have hrd := hid (hA1.out.toM.rd 4 (by omega))
    clear hA0 hB0 hC0 hD0 hb0 hb1
    go_wp2_with fail
    (try simp only [World.size_alloc])
    refine wp_region_loose_tail 8 [.kn (.slice (some ⟨w.heap.size, 0, none⟩) 4 4), .kn (.agg (cellsW (b))), .lo (fun v w => ∃ g, v = .tuple #[.slice (some ⟨g, 0, none⟩) 4 4, .agg (cellsW r)] ∧ ArrM 22 4 w g q ∧ w1.heap.size ≤ g), .lo (fun v w => ∃ g, v = .tuple #[.slice (some ⟨g, 0, none⟩) 4 4, .agg (cellsW r)] ∧ ArrM 22 4 w g q ∧ w1.heap.size ≤ g), .lo (fun v w => ∃ g, v = .slice (some ⟨g, 0, none⟩) 4 4 ∧ ArrM 22 4 w g q ∧ w1.heap.size ≤ g), .kn (.agg (cellsW (r))), .lo (fun v w => ∃ b, v = .pointer (some ⟨b, 0, none⟩) ∧ ArrW 24 w b 0 ∧ w1.heap.size ≤ b), .lo (fun v w => ∃ g, v = .slice (some ⟨g, 0, none⟩) 4 4 ∧ ArrM 22 4 w g q ∧ w1.heap.size ≤ g)] (by kernel_rfl) (by kernel_rfl) (by kernel_rfl) ?_ ?_
    · have hk : ∀ (f : Nat → Value) (v : Value) (w w' : World), (∃ g, v = f g ∧ ArrM 22 4 w g q ∧ w1.heap.size ≤ g) → Below w.heap.size w w' → ∃ g, v = f g ∧ ArrM 22 4 w' g q ∧ w1.heap.size ≤ g := by
        rintro f v w w' ⟨g, h1, h2, h3⟩ hb
        exact ⟨g, h1, h2.below hb h2.lt, h3⟩
      refine keepsAll_kn (keepsAll_kn (keepsAll_lo (hk _) (keepsAll_lo (hk _) (keepsAll_lo (hk _) (keepsAll_kn (keepsAll_lo ?_ (keepsAll_lo (hk _) trivial)))))))
      rintro v w w' ⟨b, h1, h2, h3⟩ hb
      exact ⟨b, h1, h2.below hb h2.lt, h3⟩
    simp only [List.take_succ_cons, List.take_zero, List.drop_succ_cons, List.drop_zero]
    (refine loose_step_on rfl (fun W' hB' hd K hK => ?_) ?_; (focus (clear hd; go_simp; exact hK _ _ (Below.refl _ _) rfl)); rintro _ rfl; simp only [Act.put, List.setIfInBounds_toArray, List.set_cons_zero, List.set_cons_succ])
    (refine loose_step_on rfl (fun W' hB' hd K hK => wp_load_block 24 (.tmp 3) rfl (w.heap.size + 1) rfl 24 _ _ (ArrW.below hB1.out hB' (ArrW.lt hB1.out)) uWd rfl iB.out (hK _ _ (Below.refl _ _) rfl)) ?_; rintro _ rfl; simp only [Act.put, List.setIfInBounds_toArray, List.set_cons_zero, List.set_cons_succ])
    (refine loose_step_on rfl (fun W' hB' hd K hK => ?_) ?_; (focus (clear hd; go_simp; refine (hDv.out _ _ (hrd.out.below hB')).mono ?_; rintro _ _ ⟨gq, rfl, h1, h2, h3⟩; exact hK _ _ h3 ⟨_, rfl, h1, Nat.le_trans hB'.size h2⟩)); intro v15 _; simp only [Act.put, List.setIfInBounds_toArray, List.set_cons_zero, List.set_cons_succ])
    (refine loose_step_on rfl (fun W' hB' hd K hK => ?_) ?_; (focus (have g15 : ∃ g, v15 = .tuple #[.slice (some ⟨g, 0, none⟩) 4 4, .agg (cellsW r)] ∧ ArrM 22 4 W' g q ∧ w1.heap.size ≤ g := hd ⟨2, Ground.data⟩ (by simp) rfl _ 15 rfl rfl (by simp); clear hd; go_simp; exact hK _ _ (Below.refl _ _) g15)); intro v12 _; simp only [Act.put, List.setIfInBounds_toArray, List.set_cons_zero, List.set_cons_succ])
    (refine loose_step_on rfl (fun W' hB' hd K hK => ?_) ?_; (focus (have g12 : ∃ g, v12 = .tuple #[.slice (some ⟨g, 0, none⟩) 4 4, .agg (cellsW r)] ∧ ArrM 22 4 W' g q ∧ w1.heap.size ≤ g := hd ⟨3, Ground.data⟩ (by simp) rfl _ 12 rfl rfl (by simp); clear hd; obtain ⟨x1, rfl, x2, x3⟩ := g12; go_simp; exact hK _ _ (Below.refl _ _) ⟨_, rfl, x2, x3⟩)); intro v16 _; simp only [Act.put, List.setIfInBounds_toArray, List.set_cons_zero, List.set_cons_succ])
    (refine loose_step_on rfl (fun W' hB' hd K hK => ?_) ?_; (focus (have g12 : ∃ g, v12 = .tuple #[.slice (some ⟨g, 0, none⟩) 4 4, .agg (cellsW r)] ∧ ArrM 22 4 W' g q ∧ w1.heap.size ≤ g := hd ⟨3, Ground.data⟩ (by simp) rfl _ 12 rfl rfl (by simp); clear hd; obtain ⟨x1, rfl, x2, x3⟩ := g12; go_simp; exact hK _ _ (Below.refl _ _) rfl)); rintro _ rfl; simp only [Act.put, List.setIfInBounds_toArray, List.set_cons_zero, List.set_cons_succ])
    (refine loose_step_on rfl (fun W' hB' hd K hK => wp_alloc_new 24 rfl (cellsW 0) zWd (hK _ _ ((Below.refl _ _).alloc (Nat.le_refl _) _) ⟨_, rfl, ArrW.new _ _ _, hB'.size⟩)) ?_; intro v7 _; simp only [Act.put, List.setIfInBounds_toArray, List.set_cons_zero, List.set_cons_succ])
    (refine loose_step_on rfl (fun W' hB' hd K hK => ?_) ?_; (focus (have g16 : ∃ g, v16 = .slice (some ⟨g, 0, none⟩) 4 4 ∧ ArrM 22 4 W' g q ∧ w1.heap.size ≤ g := hd ⟨4, Ground.data⟩ (by simp) rfl _ 16 rfl rfl (by simp); clear hd; go_simp; exact hK _ _ (Below.refl _ _) g16)); intro v6 _; simp only [Act.put, List.setIfInBounds_toArray, List.set_cons_zero, List.set_cons_succ])
    intro w6 hb6 hf
    have g7 : ∃ b, v7 = .pointer (some ⟨b, 0, none⟩) ∧ ArrW 24 w6 b 0 ∧ w1.heap.size ≤ b := hf 6 _ 7 (by first | omega | simp) rfl rfl (by simp)
    have g6 : ∃ g, v6 = .slice (some ⟨g, 0, none⟩) 4 4 ∧ ArrM 22 4 w6 g q ∧ w1.heap.size ≤ g := hf 7 _ 6 (by first | omega | simp) rfl rfl (by simp)
    clear hf
    obtain ⟨bb, rfl, hR6, hle⟩ := g7
    obtain ⟨gq, rfl, hQ6, hle2⟩ := g6
    have hne : gq ≠ bb := by
      intro e
      subst e
      unfold ArrM at hQ6
      unfold ArrW at hR6
      rw [hQ6] at hR6
      simp at hR6
    have hC6 := hid ((hC1.out.below hb6 hC1.out.lt).otherRow (show w.heap.size + 2 ≠ bb by omega) (cellsW r))
    have hD6 := hid ((hD1.out.below hb6 hD1.out.lt).otherRow (show w.heap.size + 3 ≠ bb by omega) (cellsW r))
    have HR := hid hR6
    have HR2 := hid (hR6.row r)
    have HQ2 := hid (show ArrM 22 4 (w6.setRow bb (cellsW r)) gq q by
      unfold ArrM at *
      simp only [World.setRow, Array.getElem?_modify]
      rw [if_neg (fun e => hne e.symm)]; exact hQ6)
    have hb7 := below_setRow' (hb2.trans (hb6.mono hb2.size)) bb (by omega) (cellsW r)
    clear hb6 hC1 hD1 hrd hR6 hQ6 hA1 hB1 hb2
    go_wp2_with (first | (refine wpList_store_row rfl 24 (.tmp 7) (.tmp 17) rfl bb _ rfl rfl 24 _ HR.out iR.out rfl nR.out ?_; simp only [Act.put]))
    (refine wp_region_ext_float 4 3 [0, 1, 2] [_, _, _] _ _ _ rfl rfl rfl rfl (by kernel_rfl) (by kernel_rfl) ?_; (repeat (first | (refine wpQuiet_load_part rfl 24 (.tmp 19) rfl gq 0 rfl 22 _ (cellsW q) (0, 0) _ HQ2.out (fun j v h => by rw [Nat.zero_add]; exact h) uWd rfl iQ.out ?_; simp only [Act.put, List.setIfInBounds_toArray, List.set_cons_zero, List.set_cons_succ]) | (refine wpQuiet_load_part rfl 24 (.tmp 7) rfl bb 0 rfl 24 _ (cellsW _) (0, 0) _ HR2.out (fun j v h => by rw [Nat.zero_add]; exact h) uWd rfl iR.out ?_; simp only [Act.put, List.setIfInBounds_toArray, List.set_cons_zero, List.set_cons_succ]) | go_big_quiet_step (first | fail))); refine wpQuiet_nil ?_; refine ⟨?_, ?_⟩; rotate_left; rintro _ ⟨xw, rfl⟩; rotate_left; (repeat (first | (refine wpQuiet_load_part rfl 24 (.tmp 19) rfl gq 0 rfl 22 _ (cellsW q) (0, 0) _ HQ2.out (fun j v h => by rw [Nat.zero_add]; exact h) uWd rfl iQ.out ?_; simp only [Act.put, List.setIfInBounds_toArray, List.set_cons_zero, List.set_cons_succ]) | (refine wpQuiet_load_part rfl 24 (.tmp 7) rfl bb 0 rfl 24 _ (cellsW _) (0, 0) _ HR2.out (fun j v h => by rw [Nat.zero_add]; exact h) uWd rfl iR.out ?_; simp only [Act.put, List.setIfInBounds_toArray, List.set_cons_zero, List.set_cons_succ]) | go_big_quiet_step (first | fail))); refine wpQuiet_nil ?_; rintro _ ⟨xw, rfl⟩)
    all_goals
      have hC7 := hid (hC6.out.ext xw)
      have hD7 := hid (hD6.out.ext xw)
      have hD8 := hid (hD7.out.otherRow (show w.heap.size + 3 ≠ w.heap.size + 2 by omega) (cellsW q))
      have hR8 := hid ((HR2.out.ext xw).otherRow (show bb ≠ w.heap.size + 2 by omega) (cellsW q))
      have hb8 := World.ext_below_of hb7 hb7.size xw
      go_wp2_with (first | (refine wpList_store_row rfl 24 (.tmp 4) (.tmp 20) rfl (w.heap.size + 2) _ rfl rfl 24 _ hC7.out iQ.out rfl nQ.out ?_; simp only [Act.put]) | (refine wpList_load_row rfl 24 (.tmp 7) rfl bb rfl 24 _ (0, 0) _ hR8.out uWd rfl iR.out ?_; simp only [Act.put, List.setIfInBounds_toArray, List.set_cons_zero, List.set_cons_succ]) | (refine wpList_store_row rfl 24 (.tmp 5) (.tmp 21) rfl (w.heap.size + 3) _ rfl rfl 24 _ hD8.out iR.out rfl nR.out ?_; simp only [Act.put]))
      refine bodyPost_ret (results_row_row rfl _ _ (w.heap.size + 2) (w.heap.size + 3) 24 24 (cellsW q) (cellsW r) (0, 0) (0, 0) _ _ rfl ((hC7.out.row q).otherRow (show w.heap.size + 2 ≠ w.heap.size + 3 by omega) _) rfl (hD8.out.row r) uWd rfl iQ.out uWd rfl iR.out) rfl ⟨rfl, below_setRow' (below_setRow' hb8 _ (by omega) _) _ (by omega) _⟩

set_option maxHeartbeats 2000000 in
theorem wdiv_any (a b : Nat) (w : World) (ha : a < 2 ^ 256) (hb : b < 2 ^ 256) : Calls Try.prog 62 #[wd a, wd b] w fun e w' => e = .returned (wd (a / b)) ∧ Below w.heap.size w w' := by
  have hP := hid (fun w => wparts_any a b w ha hb)
  obtain ⟨q, hq⟩ : ∃ q, q = a / b := ⟨_, rfl⟩
  obtain ⟨r, hr⟩ : ∃ r, r = modW a b := ⟨_, rfl⟩
  rw [← hq, ← hr] at hP
  (try rw [← hq])
  (try rw [← hr])
  clear ha hb hq hr
  unfold wd at *
  have iA := hid (iW a)
  have iB := hid (iW b)
  have iQ := hid (iW q)
  have nQ := hid (one_cellsW q)
  have iR := hid (iW r)
  have nR := hid (one_cellsW r)
  have hA0 := hid (show ArrW 24 (((w.alloc (.cells (cellsW a) 24)).alloc (.cells (cellsW b) 24)).alloc (.cells (cellsW 0) 24)) w.heap.size a from ((ArrW.new _ w a).alloc _).alloc _)
  have hB0 := hid (show ArrW 24 (((w.alloc (.cells (cellsW a) 24)).alloc (.cells (cellsW b) 24)).alloc (.cells (cellsW 0) 24)) (w.heap.size + 1) b by
    have := ArrW.new 24 (w.alloc (.cells (cellsW a) 24)) b
    rw [World.size_alloc] at this; exact this.alloc _)
  have hC0 := hid (show ArrW 24 (((w.alloc (.cells (cellsW a) 24)).alloc (.cells (cellsW b) 24)).alloc (.cells (cellsW 0) 24)) (w.heap.size + 2) 0 by
    have := ArrW.new 24 ((w.alloc (.cells (cellsW a) 24)).alloc (.cells (cellsW b) 24)) 0
    rw [World.size_alloc, World.size_alloc] at this; exact this)
  have hb0 : Below w.heap.size w (((w.alloc (.cells (cellsW a) 24)).alloc (.cells (cellsW b) 24)).alloc (.cells (cellsW 0) 24)) := (((Below.refl _ _).alloc (Nat.le_refl _) _).alloc (by simp) _).alloc (by simp; omega) _
  go_enter Try.func62, Try.ntmps62
  go_wp2_with (first | (refine wpList_alloc_new rfl 24 rfl (cellsW 0) zWd ?_; simp only [Act.put, List.setIfInBounds_toArray, List.set_cons_zero, List.set_cons_succ, World.size_alloc]) | (refine wpList_load_row rfl 24 (.tmp 2) rfl w.heap.size rfl 24 _ (0, 0) _ hA0.out uWd rfl iA.out ?_; simp only [Act.put, List.setIfInBounds_toArray, List.set_cons_zero, List.set_cons_succ]) | (refine wpList_load_row rfl 24 (.tmp 3) rfl (w.heap.size + 1) rfl 24 _ (0, 0) _ hB0.out uWd rfl iB.out ?_; simp only [Act.put, List.setIfInBounds_toArray, List.set_cons_zero, List.set_cons_succ]))
  refine (hP.out _).mono ?_
  rintro e w1 ⟨rfl, hb1⟩
  have hC1 := (hC0.out.below hb1 hC0.out.lt).alloc (.cells (cellsW 0) 24)
  have hC2 := hid (hC1.alloc (.cells (cellsW 0) 24))
  have hQ2 := hid ((ArrW.new 24 w1 0).alloc (.cells (cellsW 0) 24))
  have hR2 := hid (show ArrW 24 ((w1.alloc (.cells (cellsW 0) 24)).alloc (.cells (cellsW 0) 24)) (w1.heap.size + 1) 0 by
    have := ArrW.new 24 (w1.alloc (.cells (cellsW 0) 24)) 0
    rw [World.size_alloc] at this; exact this)
  have hb2 := hb0.trans (hb1.mono hb0.size)
  have hb3 := (hb2.alloc hb2.size (.cells (cellsW 0) 24)).alloc (by rw [World.size_alloc]; have := hb2.size; omega) (.cells (cellsW 0) 24)
  have hsz : w.heap.size + 3 ≤ w1.heap.size := by have := (hC0.out.below hb1 hC0.out.lt).lt; omega
  clear hA0 hB0 hC0 hb0 hb1 hC1 hb2
  have hR3 := hid (hR2.out.otherRow (show w1.heap.size + 1 ≠ w1.heap.size by omega) (cellsW q))
  have hQ4 := hid ((hQ2.out.row q).otherRow (show w1.heap.size ≠ w1.heap.size + 1 by omega) (cellsW r))
  have hR4 := hid (hR3.out.row r)
  have hC4 := hid ((hC2.out.otherRow (show w.heap.size + 2 ≠ w1.heap.size by omega) (cellsW q)).otherRow (show w.heap.size + 2 ≠ w1.heap.size + 1 by omega) (cellsW r))
  have hb4 := below_setRow' (below_setRow' hb3 w1.heap.size (by omega) (cellsW q)) (w1.heap.size + 1) (by omega) (cellsW r)
  go_wp2_with (first | (refine wpList_alloc_new rfl 24 rfl (cellsW 0) zWd ?_; simp only [Act.put, List.setIfInBounds_toArray, List.set_cons_zero, List.set_cons_succ, World.size_alloc]) | (refine wpList_store_row rfl 24 (.tmp 5) (.tmp 11) rfl w1.heap.size _ rfl rfl 24 _ hQ2.out iQ.out rfl nQ.out ?_; simp only [Act.put]) | (refine wpList_store_row rfl 24 (.tmp 6) (.tmp 12) rfl (w1.heap.size + 1) _ rfl rfl 24 _ hR3.out iR.out rfl nR.out ?_; simp only [Act.put]) | (refine wpList_load_row rfl 24 (.tmp 5) rfl w1.heap.size rfl 24 _ (0, 0) _ hQ4.out uWd rfl iQ.out ?_; simp only [Act.put, List.setIfInBounds_toArray, List.set_cons_zero, List.set_cons_succ]) | (refine wpList_load_row rfl 24 (.tmp 6) rfl (w1.heap.size + 1) rfl 24 _ (0, 0) _ hR4.out uWd rfl iR.out ?_; simp only [Act.put, List.setIfInBounds_toArray, List.set_cons_zero, List.set_cons_succ]) | (refine wpList_store_row rfl 24 (.tmp 4) (.tmp 13) rfl (w.heap.size + 2) _ rfl rfl 24 _ hC4.out iQ.out rfl nQ.out ?_; simp only [Act.put]) | (refine wpList_store_row rfl 24 (.tmp 4) (.tmp 13) rfl (w.heap.size + 2) _ rfl rfl 24 _ hC4.out iR.out rfl nR.out ?_; simp only [Act.put]))
  refine bodyPost_ret (results_cell_row rfl _ _ (w.heap.size + 2) 24 (cellsW q) (0, 0) _ rfl (heap_setRow' _ _ _ _ _ hC4.out) uWd rfl (iW _)) rfl ⟨rfl, below_setRow' hb4 _ (by omega) _⟩
set_option maxHeartbeats 2000000 in
theorem wmod_any (a b : Nat) (w : World) (ha : a < 2 ^ 256) (hb : b < 2 ^ 256) : Calls Try.prog 64 #[wd a, wd b] w fun e w' => e = .returned (wd (modW a b)) ∧ Below w.heap.size w w' := by
  have hP := hid (fun w => wparts_any a b w ha hb)
  obtain ⟨q, hq⟩ : ∃ q, q = a / b := ⟨_, rfl⟩
  obtain ⟨r, hr⟩ : ∃ r, r = modW a b := ⟨_, rfl⟩
  rw [← hq, ← hr] at hP
  (try rw [← hq])
  (try rw [← hr])
  clear ha hb hq hr
  unfold wd at *
  have iA := hid (iW a)
  have iB := hid (iW b)
  have iQ := hid (iW q)
  have nQ := hid (one_cellsW q)
  have iR := hid (iW r)
  have nR := hid (one_cellsW r)
  have hA0 := hid (show ArrW 24 (((w.alloc (.cells (cellsW a) 24)).alloc (.cells (cellsW b) 24)).alloc (.cells (cellsW 0) 24)) w.heap.size a from ((ArrW.new _ w a).alloc _).alloc _)
  have hB0 := hid (show ArrW 24 (((w.alloc (.cells (cellsW a) 24)).alloc (.cells (cellsW b) 24)).alloc (.cells (cellsW 0) 24)) (w.heap.size + 1) b by
    have := ArrW.new 24 (w.alloc (.cells (cellsW a) 24)) b
    rw [World.size_alloc] at this; exact this.alloc _)
  have hC0 := hid (show ArrW 24 (((w.alloc (.cells (cellsW a) 24)).alloc (.cells (cellsW b) 24)).alloc (.cells (cellsW 0) 24)) (w.heap.size + 2) 0 by
    have := ArrW.new 24 ((w.alloc (.cells (cellsW a) 24)).alloc (.cells (cellsW b) 24)) 0
    rw [World.size_alloc, World.size_alloc] at this; exact this)
  have hb0 : Below w.heap.size w (((w.alloc (.cells (cellsW a) 24)).alloc (.cells (cellsW b) 24)).alloc (.cells (cellsW 0) 24)) := (((Below.refl _ _).alloc (Nat.le_refl _) _).alloc (by simp) _).alloc (by simp; omega) _
  go_enter Try.func64, Try.ntmps64
  go_wp2_with (first | (refine wpList_alloc_new rfl 24 rfl (cellsW 0) zWd ?_; simp only [Act.put, List.setIfInBounds_toArray, List.set_cons_zero, List.set_cons_succ, World.size_alloc]) | (refine wpList_load_row rfl 24 (.tmp 2) rfl w.heap.size rfl 24 _ (0, 0) _ hA0.out uWd rfl iA.out ?_; simp only [Act.put, List.setIfInBounds_toArray, List.set_cons_zero, List.set_cons_succ]) | (refine wpList_load_row rfl 24 (.tmp 3) rfl (w.heap.size + 1) rfl 24 _ (0, 0) _ hB0.out uWd rfl iB.out ?_; simp only [Act.put, List.setIfInBounds_toArray, List.set_cons_zero, List.set_cons_succ]))
  refine (hP.out _).mono ?_
  rintro e w1 ⟨rfl, hb1⟩
  have hC1 := (hC0.out.below hb1 hC0.out.lt).alloc (.cells (cellsW 0) 24)
  have hC2 := hid (hC1.alloc (.cells (cellsW 0) 24))
  have hQ2 := hid ((ArrW.new 24 w1 0).alloc (.cells (cellsW 0) 24))
  have hR2 := hid (show ArrW 24 ((w1.alloc (.cells (cellsW 0) 24)).alloc (.cells (cellsW 0) 24)) (w1.heap.size + 1) 0 by
    have := ArrW.new 24 (w1.alloc (.cells (cellsW 0) 24)) 0
    rw [World.size_alloc] at this; exact this)
  have hb2 := hb0.trans (hb1.mono hb0.size)
  have hb3 := (hb2.alloc hb2.size (.cells (cellsW 0) 24)).alloc (by rw [World.size_alloc]; have := hb2.size; omega) (.cells (cellsW 0) 24)
  have hsz : w.heap.size + 3 ≤ w1.heap.size := by have := (hC0.out.below hb1 hC0.out.lt).lt; omega
  clear hA0 hB0 hC0 hb0 hb1 hC1 hb2
  have hR3 := hid (hR2.out.otherRow (show w1.heap.size + 1 ≠ w1.heap.size by omega) (cellsW q))
  have hQ4 := hid ((hQ2.out.row q).otherRow (show w1.heap.size ≠ w1.heap.size + 1 by omega) (cellsW r))
  have hR4 := hid (hR3.out.row r)
  have hC4 := hid ((hC2.out.otherRow (show w.heap.size + 2 ≠ w1.heap.size by omega) (cellsW q)).otherRow (show w.heap.size + 2 ≠ w1.heap.size + 1 by omega) (cellsW r))
  have hb4 := below_setRow' (below_setRow' hb3 w1.heap.size (by omega) (cellsW q)) (w1.heap.size + 1) (by omega) (cellsW r)
  go_wp2_with (first | (refine wpList_alloc_new rfl 24 rfl (cellsW 0) zWd ?_; simp only [Act.put, List.setIfInBounds_toArray, List.set_cons_zero, List.set_cons_succ, World.size_alloc]) | (refine wpList_store_row rfl 24 (.tmp 5) (.tmp 11) rfl w1.heap.size _ rfl rfl 24 _ hQ2.out iQ.out rfl nQ.out ?_; simp only [Act.put]) | (refine wpList_store_row rfl 24 (.tmp 6) (.tmp 12) rfl (w1.heap.size + 1) _ rfl rfl 24 _ hR3.out iR.out rfl nR.out ?_; simp only [Act.put]) | (refine wpList_load_row rfl 24 (.tmp 5) rfl w1.heap.size rfl 24 _ (0, 0) _ hQ4.out uWd rfl iQ.out ?_; simp only [Act.put, List.setIfInBounds_toArray, List.set_cons_zero, List.set_cons_succ]) | (refine wpList_load_row rfl 24 (.tmp 6) rfl (w1.heap.size + 1) rfl 24 _ (0, 0) _ hR4.out uWd rfl iR.out ?_; simp only [Act.put, List.setIfInBounds_toArray, List.set_cons_zero, List.set_cons_succ]) | (refine wpList_store_row rfl 24 (.tmp 4) (.tmp 13) rfl (w.heap.size + 2) _ rfl rfl 24 _ hC4.out iQ.out rfl nQ.out ?_; simp only [Act.put]) | (refine wpList_store_row rfl 24 (.tmp 4) (.tmp 13) rfl (w.heap.size + 2) _ rfl rfl 24 _ hC4.out iR.out rfl nR.out ?_; simp only [Act.put]))
  refine bodyPost_ret (results_cell_row rfl _ _ (w.heap.size + 2) 24 (cellsW r) (0, 0) _ rfl (heap_setRow' _ _ _ _ _ hC4.out) uWd rfl (iW _)) rfl ⟨rfl, below_setRow' hb4 _ (by omega) _⟩
end Go.Proofs.Ytfidbiabgmioaaa
