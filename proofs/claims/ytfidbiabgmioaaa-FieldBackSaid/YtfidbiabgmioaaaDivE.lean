import Derived.Test.YtfidbiabgmioaaaDivD
import Derived.Test.YtfidbiabgmioaaaLoose
/-! word.Mulmod by one limb; alive. -/
set_option maxRecDepth 4000
set_option linter.unusedVariables false
set_option linter.unusedSimpArgs false
namespace Go.Proofs.Ytfidbiabgmioaaa
open Go.RowKit

set_option maxHeartbeats 2000000 in
theorem wmulmod1_any (a b d : Nat) (w : World) (ha : a < 2 ^ 256) (hb : b < 2 ^ 256) (hd : 0 < d) (hd2 : d < 2 ^ 64) : Calls Try.prog 72 #[wd a, wd b, wd d] w fun e w' => e = .returned (wd (a * b % d)) ∧ Below w.heap.size w w' := by
  have hd256 : d < 2 ^ 256 := Nat.lt_of_lt_of_le hd2 (by decide)
  have hZ := hid (fun w => wzero_any d hd256 w)
  rw [decide_eq_false (by omega)] at hZ
  have hF := hid (fun w => wfull_any a b w ha hb)
  have hab : a * b < 2 ^ (64 * 8) := by
    have := Nat.mul_lt_mul'' ha hb
    rw [← Nat.pow_add, show 256 + 256 = 64 * 8 from rfl] at this; exact this
  have hDv := hid (fun v w hr => divide1_any 8 (a * b) d v w hr hab (by omega) hd hd2)
  obtain ⟨s, hs⟩ : ∃ s, s = a * b := ⟨_, rfl⟩
  obtain ⟨r, hr⟩ : ∃ r, r = s % d := ⟨_, rfl⟩
  rw [← hs] at hF hDv ⊢
  rw [← hr] at hDv ⊢
  clear ha hb hd hd2 hd256 hab hs hr
  unfold wd at *
  have iA := hid (iW a)
  have iB := hid (iW b)
  have iD := hid (iW d)
  have iR := hid (iW r)
  have nR := hid (one_cellsW r)
  have iP := hid (iM8 s)
  have nP := hid (one_cellsM 8 s)
  have hA0 := hid (show ArrW 24 ((((w.alloc (.cells (cellsW a) 24)).alloc (.cells (cellsW b) 24)).alloc (.cells (cellsW d) 24)).alloc (.cells (cellsW 0) 24)) w.heap.size a from (((ArrW.new _ w a).alloc _).alloc _).alloc _)
  have hB0 := hid (show ArrW 24 ((((w.alloc (.cells (cellsW a) 24)).alloc (.cells (cellsW b) 24)).alloc (.cells (cellsW d) 24)).alloc (.cells (cellsW 0) 24)) (w.heap.size + 1) b by
    have := ArrW.new 24 (w.alloc (.cells (cellsW a) 24)) b
    rw [World.size_alloc] at this; exact (this.alloc _).alloc _)
  have hC0 := hid (show ArrW 24 ((((w.alloc (.cells (cellsW a) 24)).alloc (.cells (cellsW b) 24)).alloc (.cells (cellsW d) 24)).alloc (.cells (cellsW 0) 24)) (w.heap.size + 2) d by
    have := ArrW.new 24 ((w.alloc (.cells (cellsW a) 24)).alloc (.cells (cellsW b) 24)) d
    rw [World.size_alloc, World.size_alloc] at this; exact this.alloc _)
  have hD0 := hid (show ArrW 24 ((((w.alloc (.cells (cellsW a) 24)).alloc (.cells (cellsW b) 24)).alloc (.cells (cellsW d) 24)).alloc (.cells (cellsW 0) 24)) (w.heap.size + 3) 0 by
    have := ArrW.new 24 (((w.alloc (.cells (cellsW a) 24)).alloc (.cells (cellsW b) 24)).alloc (.cells (cellsW d) 24)) 0
    rw [World.size_alloc, World.size_alloc, World.size_alloc] at this; exact this)
  have hb0 : Below w.heap.size w ((((w.alloc (.cells (cellsW a) 24)).alloc (.cells (cellsW b) 24)).alloc (.cells (cellsW d) 24)).alloc (.cells (cellsW 0) 24)) := ((((Below.refl _ _).alloc (Nat.le_refl _) _).alloc (by simp) _).alloc (by simp; omega) _).alloc (by simp; omega) _
  go_enter Try.func72, Try.ntmps72
  go_wp2_with (first | (refine wpList_alloc_new rfl 24 rfl (cellsW 0) zWd ?_; simp only [Act.put, List.setIfInBounds_toArray, List.set_cons_zero, List.set_cons_succ, World.size_alloc]) | (refine wpList_load_row rfl 24 (.tmp 5) rfl (w.heap.size + 2) rfl 24 _ (0, 0) _ hC0.out uWd rfl iD.out ?_; simp only [Act.put, List.setIfInBounds_toArray, List.set_cons_zero, List.set_cons_succ]))
  refine (hZ.out _).mono ?_
  rintro e w1 ⟨rfl, hb1⟩
  have hA1 := hid (hA0.out.below hb1 hA0.out.lt)
  have hB1 := hid (hB0.out.below hb1 hB0.out.lt)
  have hC1 := hid (hC0.out.below hb1 hC0.out.lt)
  have hD1 := hid (hD0.out.below hb1 hD0.out.lt)
  have hb2 := hb0.trans (hb1.mono hb0.size)
  clear hA0 hB0 hC0 hD0 hb0 hb1
  go_wp2_with (first | (refine wpList_load_row rfl 24 (.tmp 3) rfl w.heap.size rfl 24 _ (0, 0) _ hA1.out uWd rfl iA.out ?_; simp only [Act.put, List.setIfInBounds_toArray, List.set_cons_zero, List.set_cons_succ]) | (refine wpList_load_row rfl 24 (.tmp 4) rfl (w.heap.size + 1) rfl 24 _ (0, 0) _ hB1.out uWd rfl iB.out ?_; simp only [Act.put, List.setIfInBounds_toArray, List.set_cons_zero, List.set_cons_succ]))
  refine (hF.out _).mono ?_
  rintro e w2 ⟨rfl, hb3⟩
  have hC2 := hid ((hC1.out.below hb3 hC1.out.lt).alloc (.cells (cellsM 8 s) 69))
  have hD2 := hid ((hD1.out.below hb3 hD1.out.lt).alloc (.cells (cellsM 8 s) 69))
  have hP2 := hid (ArrM.new 69 8 w2 s)
  have hb4 := hb2.trans (hb3.mono hb2.size)
  have hb5 := hb4.alloc hb4.size (.cells (cellsM 8 s) 69)
  have hsz : w.heap.size + 4 ≤ w2.heap.size := by have h1 := (hD1.out.below hb3 hD1.out.lt).lt; omega
  clear hA1 hB1 hC1 hD1 hb2 hb3
  go_wp2_with (first | (refine wpList_allocStore 69 15 7 (cellsM 8 s) (cellsM 8 0) rfl rfl rfl rfl rfl rfl (by decide) (by simp) rfl (by kernel_rfl) (by rw [size_cellsM, size_cellsM]) iP.out nP.out ?_; simp only [Act.put, List.setIfInBounds_toArray, List.set_cons_zero, List.set_cons_succ]))
  have hrd := hid (hP2.out.rd 8 (by omega))
  generalize hw3 : w2.alloc (.cells (cellsM 8 s) 69) = w3 at hC2 hD2 hP2 hb5 hrd ⊢
  have hsz3 : w2.heap.size ≤ w3.heap.size := by rw [← hw3]; simp
  refine wp_region_loose_tail 8 [.kn (.slice (some ⟨w2.heap.size, 0, none⟩) 8 8), .kn (.agg (cellsW (d))), .lo (fun v _ => ∃ q, v = .tuple #[q, .agg (cellsW r)]), .lo (fun v _ => ∃ q, v = .tuple #[q, .agg (cellsW r)]), .lo (fun _ _ => True), .kn (.agg (cellsW (r))), .lo (fun v w => ∃ b, v = .pointer (some ⟨b, 0, none⟩) ∧ ArrW 24 w b 0 ∧ w2.heap.size ≤ b), .lo (fun _ _ => True)] (by kernel_rfl) (by kernel_rfl) (by kernel_rfl) ?_ ?_
  · refine keepsAll_kn (keepsAll_kn (keepsAll_lo (fun _ _ _ h _ => h) (keepsAll_lo (fun _ _ _ h _ => h) (keepsAll_lo (fun _ _ _ h _ => h) (keepsAll_kn (keepsAll_lo ?_ (keepsAll_lo (fun _ _ _ h _ => h) trivial)))))))
    rintro v w w' ⟨b, h1, h2, h3⟩ hb
    exact ⟨b, h1, h2.below hb h2.lt, h3⟩
  simp only [List.take_succ_cons, List.take_zero, List.drop_succ_cons, List.drop_zero]
  (refine loose_step_on rfl (fun W' hB' hd K hK => ?_) ?_; (focus (clear hd; go_simp; exact hK _ _ (Below.refl _ _) rfl)); rintro _ rfl; simp only [Act.put, List.setIfInBounds_toArray, List.set_cons_zero, List.set_cons_succ])
  (refine loose_step_on rfl (fun W' hB' hd K hK => wp_load_block 24 (.tmp 5) rfl (w.heap.size + 2) rfl 24 _ _ (ArrW.below hC2.out hB' (ArrW.lt hC2.out)) uWd rfl iD.out (hK _ _ (Below.refl _ _) rfl)) ?_; rintro _ rfl; simp only [Act.put, List.setIfInBounds_toArray, List.set_cons_zero, List.set_cons_succ])
  (refine loose_step rfl (fun W' hB' hd K hK => ?_) ?_; (focus (clear hd; go_simp; refine (hDv.out _ _ (hrd.out.below hB')).mono ?_; rintro _ _ ⟨gq, rfl, h1, h2, h3⟩; exact hK _ _ h3 ⟨_, rfl⟩)); intro v19 _; simp only [Act.put, List.setIfInBounds_toArray, List.set_cons_zero, List.set_cons_succ])
  (refine loose_step_on rfl (fun W' hB' hd K hK => ?_) ?_; (focus (have g19 : ∃ q, v19 = .tuple #[q, .agg (cellsW r)] := hd ⟨2, Ground.data⟩ (by simp) rfl _ 19 rfl rfl (by simp); clear hd; go_simp; exact hK _ _ (Below.refl _ _) g19)); intro v16 _; simp only [Act.put, List.setIfInBounds_toArray, List.set_cons_zero, List.set_cons_succ])
  (refine loose_step rfl (fun W' hB' hd K hK => ?_) ?_; (focus (have g16 : ∃ q, v16 = .tuple #[q, .agg (cellsW r)] := hd ⟨3, Ground.data⟩ (by simp) rfl _ 16 rfl rfl (by simp); clear hd; obtain ⟨x1, rfl⟩ := g16; go_simp; exact hK _ _ (Below.refl _ _) trivial)); intro v20 _; simp only [Act.put, List.setIfInBounds_toArray, List.set_cons_zero, List.set_cons_succ])
  (refine loose_step rfl (fun W' hB' hd K hK => ?_) ?_; (focus (have g16 : ∃ q, v16 = .tuple #[q, .agg (cellsW r)] := hd ⟨3, Ground.data⟩ (by simp) rfl _ 16 rfl rfl (by simp); clear hd; obtain ⟨x1, rfl⟩ := g16; go_simp; exact hK _ _ (Below.refl _ _) rfl)); rintro _ rfl; simp only [Act.put, List.setIfInBounds_toArray, List.set_cons_zero, List.set_cons_succ])
  (refine loose_step rfl (fun W' hB' hd K hK => wp_alloc_new 24 rfl (cellsW 0) zWd (hK _ _ ((Below.refl _ _).alloc (Nat.le_refl _) _) ⟨_, rfl, ArrW.new _ _ _, Nat.le_trans hsz3 hB'.size⟩)) ?_; intro v9 _; simp only [Act.put, List.setIfInBounds_toArray, List.set_cons_zero, List.set_cons_succ])
  (refine loose_step rfl (fun W' hB' hd K hK => ?_) ?_; (focus (clear hd; go_simp; exact hK _ _ (Below.refl _ _) trivial)); intro v8 _; simp only [Act.put, List.setIfInBounds_toArray, List.set_cons_zero, List.set_cons_succ])
  intro w6 hb6 hf
  have g9 : ∃ b, v9 = .pointer (some ⟨b, 0, none⟩) ∧ ArrW 24 w6 b 0 ∧ w2.heap.size ≤ b := hf 6 _ 9 (by first | omega | simp) rfl rfl (by simp)
  clear hf
  obtain ⟨bb, rfl, hR6, hle⟩ := g9
  have hD6 := hid ((hD2.out.below hb6 hD2.out.lt).otherRow (show w.heap.size + 3 ≠ bb by omega) (cellsW r))
  have HR := hid hR6
  have HR2 := hid (hR6.row r)
  have hb7 := below_setRow' (hb5.trans (hb6.mono hb5.size)) bb (by omega) (cellsW r)
  clear hb6 hC2 hD2 hP2 hrd hR6
  go_wp2_with (first | (refine wpList_store_row rfl 24 (.tmp 9) (.tmp 21) rfl bb _ rfl rfl 24 _ HR.out iR.out rfl nR.out ?_; simp only [Act.put]) | (refine wpList_load_row rfl 24 (.tmp 9) rfl bb rfl 24 _ (0, 0) _ HR2.out uWd rfl iR.out ?_; simp only [Act.put, List.setIfInBounds_toArray, List.set_cons_zero, List.set_cons_succ]) | (refine wpList_store_row rfl 24 (.tmp 6) (.tmp 22) rfl (w.heap.size + 3) _ rfl rfl 24 _ hD6.out iR.out rfl nR.out ?_; simp only [Act.put]))
  refine bodyPost_ret (results_cell_row rfl _ _ (w.heap.size + 3) 24 (cellsW r) (0, 0) _ rfl (heap_setRow' _ _ _ _ _ hD6.out) uWd rfl iR.out) rfl ⟨rfl, below_setRow' hb7 _ (by omega) _⟩
end Go.Proofs.Ytfidbiabgmioaaa
