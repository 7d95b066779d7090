import Derived.Test.YtfidbiabgmioaaaRefA
/-! conclaveref01: Div, Mod, Addmod, Mulmod, Shr. -/
set_option maxRecDepth 4000
set_option linter.unusedVariables false
set_option linter.unusedSimpArgs false
namespace Go.Proofs.Ytfidbiabgmioaaa
open Go.RowKit

def divW (a b : Nat) : Nat := a / b
def modW (a b : Nat) : Nat := if b = 0 then 0 else a % b
set_option maxHeartbeats 1000000 in
theorem rdiv_any (a b : Nat) (w : World) (ha : a < 2 ^ 256) (hb : b < 2 ^ 256) : Calls Try.prog 63 #[wd a, wd b] w fun e w' => e = .returned (wd (divW a b)) ∧ Below w.heap.size w w' := by
  have hOA := hid (fun w => of_any a w ha)
  have hOB := hid (fun w => of_any b w hb)
  have la := dg_word_len a ha
  have lb := dg_word_len b hb
  have lq : (dg (a / b)).length ≤ 65536 := Nat.le_trans (dg_len_mono _ _ (Nat.div_le_self _ _)) (by omega)
  have lr : (dg (a % b)).length ≤ 65536 := Nat.le_trans (dg_len_mono _ _ (Nat.mod_le _ _)) (by omega)
  have hq : a / b < 2 ^ 256 := Nat.lt_of_le_of_lt (Nat.div_le_self _ _) ha
  have hr : a % b < 2 ^ 256 := Nat.lt_of_le_of_lt (Nat.mod_le _ _) ha
  have he : ∀ w, (Op.equalIn 10000 24 (.agg (cellsW b)) (.agg #[.int .u64 0, .int .u64 0, .int .u64 0, .int .u64 0])).run Try.prog w = .ok (decide (b = 0)) w := eq_wd b 0 hb (by decide)
  have iA := hid (iW a)
  have iB := hid (iW b)
  have nB := hid (one_cellsW b)
  by_cases h0 : b = 0
  · have HY := hid (show divW a b = b by unfold divW; (try rw [if_pos h0]); (try rw [h0]); (try rw [Nat.div_zero]))
    rw [decide_eq_true h0] at he
    rw [HY.out]
    clear h0 HY hOA hOB la lb lq lr hq hr ha hb
    unfold wd
    have hA0 := hid (show ArrW 24 (((w.alloc (.cells (cellsW a) 24)).alloc (.cells (cellsW b) 24)).alloc (.cells (cellsW 0) 24)) w.heap.size a from ((ArrW.new _ w a).alloc _).alloc _)
    have hB0 := hid (show ArrW 24 (((w.alloc (.cells (cellsW a) 24)).alloc (.cells (cellsW b) 24)).alloc (.cells (cellsW 0) 24)) (w.heap.size + 1) b by
      have := ArrW.new 24 (w.alloc (.cells (cellsW a) 24)) b
      rw [World.size_alloc] at this; exact this.alloc _)
    have hC0 := hid (show ArrW 24 (((w.alloc (.cells (cellsW a) 24)).alloc (.cells (cellsW b) 24)).alloc (.cells (cellsW 0) 24)) (w.heap.size + 2) 0 by
      have := ArrW.new 24 ((w.alloc (.cells (cellsW a) 24)).alloc (.cells (cellsW b) 24)) 0
      rw [World.size_alloc, World.size_alloc] at this; exact this)
    have hb0 : Below w.heap.size w (((w.alloc (.cells (cellsW a) 24)).alloc (.cells (cellsW b) 24)).alloc (.cells (cellsW 0) 24)) := (((Below.refl _ _).alloc (Nat.le_refl _) _).alloc (by simp) _).alloc (by simp; omega) _
    go_enter Try.func63, Try.ntmps63
    go_wp2_with (first | (refine wpList_alloc_new rfl 24 rfl (cellsW 0) zWd ?_; simp only [Act.put, List.setIfInBounds_toArray, List.set_cons_zero, List.set_cons_succ, World.size_alloc]) | (refine wpList_load_row rfl 24 (.tmp 3) rfl (w.heap.size + 1) rfl 24 _ (0, 0) _ hB0.out uWd rfl iB.out ?_; simp only [Act.put, List.setIfInBounds_toArray, List.set_cons_zero, List.set_cons_succ]) | (refine wpList_store_row rfl 24 (.tmp 4) (.tmp 10) rfl (w.heap.size + 2) _ rfl rfl 24 _ hC0.out iB.out rfl nB.out ?_; simp only [Act.put]))
    refine bodyPost_ret (results_cell_row rfl _ _ (w.heap.size + 2) 24 (cellsW b) (0, 0) _ rfl (heap_setRow' _ _ _ _ _ hC0.out) uWd rfl iB.out) rfl ⟨rfl, below_setRow' hb0 _ (by omega) _⟩
  · have HY := hid (show divW a b = a / b by unfold divW; first | rfl | rw [if_neg h0])
    rw [decide_eq_false h0] at he
    rw [HY.out]
    have hpos : 0 < b := Nat.pos_of_ne_zero h0
    have hW := hid (fun v w h => wordN_any (a / b) v w h (by omega))
    rw [show (a / b) % 2 ^ 256 = a / b from Nat.mod_eq_of_lt (by assumption)] at hW
    obtain ⟨q, hq2⟩ : ∃ q, q = a / b := ⟨_, rfl⟩
    obtain ⟨r, hr2⟩ : ∃ r, r = a % b := ⟨_, rfl⟩
    have hQ := hid (fun va vb w ha hb => quo_any a b va vb w ha hb (by omega) (by omega) hpos)
    (try rw [← hq2] at hW); (try rw [← hr2] at hW); (try rw [← hq2]); (try rw [← hr2])
    rw [← hq2, ← hr2] at hQ
    clear h0 HY lq lr hq hr ha hb hpos hq2 hr2
    unfold wd at *
    have iY := hid (iW q)
    have nY := hid (one_cellsW q)
    have hA0 := hid (show ArrW 24 (((w.alloc (.cells (cellsW a) 24)).alloc (.cells (cellsW b) 24)).alloc (.cells (cellsW 0) 24)) w.heap.size a from ((ArrW.new _ w a).alloc _).alloc _)
    have hB0 := hid (show ArrW 24 (((w.alloc (.cells (cellsW a) 24)).alloc (.cells (cellsW b) 24)).alloc (.cells (cellsW 0) 24)) (w.heap.size + 1) b by
      have := ArrW.new 24 (w.alloc (.cells (cellsW a) 24)) b
      rw [World.size_alloc] at this; exact this.alloc _)
    have hC0 := hid (show ArrW 24 (((w.alloc (.cells (cellsW a) 24)).alloc (.cells (cellsW b) 24)).alloc (.cells (cellsW 0) 24)) (w.heap.size + 2) 0 by
      have := ArrW.new 24 ((w.alloc (.cells (cellsW a) 24)).alloc (.cells (cellsW b) 24)) 0
      rw [World.size_alloc, World.size_alloc] at this; exact this)
    have hb0 : Below w.heap.size w (((w.alloc (.cells (cellsW a) 24)).alloc (.cells (cellsW b) 24)).alloc (.cells (cellsW 0) 24)) := (((Below.refl _ _).alloc (Nat.le_refl _) _).alloc (by simp) _).alloc (by simp; omega) _
    go_enter Try.func63, Try.ntmps63
    go_wp2_with (first | (refine wpList_alloc_new rfl 24 rfl (cellsW 0) zWd ?_; simp only [Act.put, List.setIfInBounds_toArray, List.set_cons_zero, List.set_cons_succ, World.size_alloc]) | (refine wpList_load_row rfl 24 (.tmp 3) rfl (w.heap.size + 1) rfl 24 _ (0, 0) _ hB0.out uWd rfl iB.out ?_; simp only [Act.put, List.setIfInBounds_toArray, List.set_cons_zero, List.set_cons_succ]))
    ((try simp only [World.size_alloc]); refine wp_region_loose [.kn (.agg (cellsW (a))), .lo (fun v w => RdN w v (a)), .kn (.agg (cellsW (b))), .lo (fun v w => RdN w v (b)), .lo (fun v w => ∃ v1 v2, v = .tuple #[v1, v2] ∧ RdN w v1 (q) ∧ RdN w v2 (r)), .lo (fun v w => ∃ v1 v2, v = .tuple #[v1, v2] ∧ RdN w v1 (q) ∧ RdN w v2 (r)), .lo (fun v w => RdN w v (q)), .lo (fun v w => RdN w v (r)), .lo (fun v w => RdN w v (q)), .lo (fun v w => RdN w v (r))] (by kernel_rfl) (by kernel_rfl) (by kernel_rfl) (by first | exact trivial | ((repeat (first | refine keepsAll_kn ?_ | (refine keepsAll_lo (fun v w w' h hb => ?_) ?_; first | exact RdN.below h hb | exact RdL.below h hb | exact RdY.below h hb | (obtain ⟨b, e, h1⟩ := h; exact ⟨b, e, ArrY.below h1 hb (ArrY.lt h1)⟩) | (obtain ⟨v1, v2, e, h1, h2⟩ := h; exact ⟨v1, v2, e, RdN.below h1 hb, RdN.below h2 hb⟩)))); exact trivial)) ?_)
    (refine loose_step_on rfl (fun W' hB' hd K hK => wp_load_block 24 (.tmp 2) rfl w.heap.size rfl 24 _ _ (ArrW.below hA0.out hB' (ArrW.lt hA0.out)) uWd rfl iA.out (hK _ _ (Below.refl _ _) rfl)) ?_; rintro _ rfl; simp only [Act.put, List.setIfInBounds_toArray, List.set_cons_zero, List.set_cons_succ])
    (refine loose_step_on rfl (fun W' hB' hd K hK => ?_) ?_; (focus (skip; clear hd; go_simp; refine (hOA.out _).mono ?_; rintro _ _ ⟨v', rfl, hr, hb'⟩; exact hK v' _ hb' hr)); intro v13 _; simp only [Act.put, List.setIfInBounds_toArray, List.set_cons_zero, List.set_cons_succ])
    (refine loose_step_on rfl (fun W' hB' hd K hK => wp_load_block 24 (.tmp 3) rfl (w.heap.size + 1) rfl 24 _ _ (ArrW.below hB0.out hB' (ArrW.lt hB0.out)) uWd rfl iB.out (hK _ _ (Below.refl _ _) rfl)) ?_; rintro _ rfl; simp only [Act.put, List.setIfInBounds_toArray, List.set_cons_zero, List.set_cons_succ])
    (refine loose_step_on rfl (fun W' hB' hd K hK => ?_) ?_; (focus (skip; clear hd; go_simp; refine (hOB.out _).mono ?_; rintro _ _ ⟨v', rfl, hr, hb'⟩; exact hK v' _ hb' hr)); intro v15 _; simp only [Act.put, List.setIfInBounds_toArray, List.set_cons_zero, List.set_cons_succ])
    (refine loose_step_on rfl (fun W' hB' hd K hK => ?_) ?_; (focus (have g13 : RdN W' v13 a := hd ⟨1, Ground.data⟩ (by simp) rfl _ 13 rfl rfl (by simp); have g15 : RdN W' v15 b := hd ⟨3, Ground.data⟩ (by simp) rfl _ 15 rfl rfl (by simp); clear hd; go_simp; refine (hQ.out v13 v15 _ g13 g15).mono ?_; rintro _ _ ⟨v1', v2', rfl, hr1, hr2, hb'⟩; exact hK _ _ hb' ⟨v1', v2', rfl, hr1, hr2⟩)); intro v16 _; simp only [Act.put, List.setIfInBounds_toArray, List.set_cons_zero, List.set_cons_succ])
    (refine loose_step_on rfl (fun W' hB' hd K hK => ?_) ?_; (focus (have g16 : ∃ v1 v2, v16 = .tuple #[v1, v2] ∧ RdN W' v1 (q) ∧ RdN W' v2 (r) := hd ⟨4, Ground.data⟩ (by simp) rfl _ 16 rfl rfl (by simp); clear hd; go_simp; exact hK _ _ (Below.refl _ _) g16)); intro v11 _; simp only [Act.put, List.setIfInBounds_toArray, List.set_cons_zero, List.set_cons_succ])
    (refine loose_step_on rfl (fun W' hB' hd K hK => ?_) ?_; (focus (have g11 : ∃ v1 v2, v11 = .tuple #[v1, v2] ∧ RdN W' v1 (q) ∧ RdN W' v2 (r) := hd ⟨5, Ground.data⟩ (by simp) rfl _ 11 rfl rfl (by simp); clear hd; obtain ⟨x1, x2, rfl, h1, h2⟩ := g11; go_simp; exact hK _ _ (Below.refl _ _) h1)); intro v17 _; simp only [Act.put, List.setIfInBounds_toArray, List.set_cons_zero, List.set_cons_succ])
    (refine loose_step_on rfl (fun W' hB' hd K hK => ?_) ?_; (focus (have g11 : ∃ v1 v2, v11 = .tuple #[v1, v2] ∧ RdN W' v1 (q) ∧ RdN W' v2 (r) := hd ⟨5, Ground.data⟩ (by simp) rfl _ 11 rfl rfl (by simp); clear hd; obtain ⟨x1, x2, rfl, h1, h2⟩ := g11; go_simp; exact hK _ _ (Below.refl _ _) h2)); intro v18 _; simp only [Act.put, List.setIfInBounds_toArray, List.set_cons_zero, List.set_cons_succ])
    (refine loose_step_on rfl (fun W' hB' hd K hK => ?_) ?_; (focus (have g17 : RdN W' v17 q := hd ⟨6, Ground.data⟩ (by simp) rfl _ 17 rfl rfl (by simp); clear hd; go_simp; exact hK _ _ (Below.refl _ _) g17)); intro v5 _; simp only [Act.put, List.setIfInBounds_toArray, List.set_cons_zero, List.set_cons_succ])
    (refine loose_step_on rfl (fun W' hB' hd K hK => ?_) ?_; (focus (have g18 : RdN W' v18 r := hd ⟨7, Ground.data⟩ (by simp) rfl _ 18 rfl rfl (by simp); clear hd; go_simp; exact hK _ _ (Below.refl _ _) g18)); intro v6 _; simp only [Act.put, List.setIfInBounds_toArray, List.set_cons_zero, List.set_cons_succ])
    intro w6 hb6 hf
    have g5 : RdN w6 v5 q := hf 8 _ 5 (by first | omega | simp) rfl rfl (by simp)
    have g6 : RdN w6 v6 r := hf 9 _ 6 (by first | omega | simp) rfl rfl (by simp)
    clear hf
    have hC6 := hid (hC0.out.below hb6 hC0.out.lt)
    have hb7 := hb0.trans (hb6.mono hb0.size)
    clear hA0 hB0 hC0 hb0 hb6
    go_wp2_with fail
    refine (hW.out _ _ (by assumption)).mono ?_
    rintro e w8 ⟨rfl, hb8⟩
    have hC8 := hid (hC6.out.below hb8 hC6.out.lt)
    go_wp2_with (refine wpList_store_row rfl 24 (.tmp 4) (.tmp 20) rfl (w.heap.size + 2) _ rfl rfl 24 _ hC8.out iY.out rfl nY.out ?_; simp only [Act.put])
    refine bodyPost_ret (results_cell_row rfl _ _ (w.heap.size + 2) 24 (cellsW q) (0, 0) _ rfl (heap_setRow' _ _ _ _ _ hC8.out) uWd rfl iY.out) rfl ⟨rfl, below_setRow' (hb7.trans (hb8.mono hb7.size)) _ (by omega) _⟩
set_option maxHeartbeats 1000000 in
theorem rmod_any (a b : Nat) (w : World) (ha : a < 2 ^ 256) (hb : b < 2 ^ 256) : Calls Try.prog 65 #[wd a, wd b] w fun e w' => e = .returned (wd (modW a b)) ∧ Below w.heap.size w w' := by
  have hOA := hid (fun w => of_any a w ha)
  have hOB := hid (fun w => of_any b w hb)
  have la := dg_word_len a ha
  have lb := dg_word_len b hb
  have lq : (dg (a / b)).length ≤ 65536 := Nat.le_trans (dg_len_mono _ _ (Nat.div_le_self _ _)) (by omega)
  have lr : (dg (a % b)).length ≤ 65536 := Nat.le_trans (dg_len_mono _ _ (Nat.mod_le _ _)) (by omega)
  have hq : a / b < 2 ^ 256 := Nat.lt_of_le_of_lt (Nat.div_le_self _ _) ha
  have hr : a % b < 2 ^ 256 := Nat.lt_of_le_of_lt (Nat.mod_le _ _) ha
  have he : ∀ w, (Op.equalIn 10000 24 (.agg (cellsW b)) (.agg #[.int .u64 0, .int .u64 0, .int .u64 0, .int .u64 0])).run Try.prog w = .ok (decide (b = 0)) w := eq_wd b 0 hb (by decide)
  have iA := hid (iW a)
  have iB := hid (iW b)
  have nB := hid (one_cellsW b)
  by_cases h0 : b = 0
  · have HY := hid (show modW a b = b by unfold modW; (try rw [if_pos h0]); (try rw [h0]); (try rw [Nat.div_zero]))
    rw [decide_eq_true h0] at he
    rw [HY.out]
    clear h0 HY hOA hOB la lb lq lr hq hr ha hb
    unfold wd
    have hA0 := hid (show ArrW 24 (((w.alloc (.cells (cellsW a) 24)).alloc (.cells (cellsW b) 24)).alloc (.cells (cellsW 0) 24)) w.heap.size a from ((ArrW.new _ w a).alloc _).alloc _)
    have hB0 := hid (show ArrW 24 (((w.alloc (.cells (cellsW a) 24)).alloc (.cells (cellsW b) 24)).alloc (.cells (cellsW 0) 24)) (w.heap.size + 1) b by
      have := ArrW.new 24 (w.alloc (.cells (cellsW a) 24)) b
      rw [World.size_alloc] at this; exact this.alloc _)
    have hC0 := hid (show ArrW 24 (((w.alloc (.cells (cellsW a) 24)).alloc (.cells (cellsW b) 24)).alloc (.cells (cellsW 0) 24)) (w.heap.size + 2) 0 by
      have := ArrW.new 24 ((w.alloc (.cells (cellsW a) 24)).alloc (.cells (cellsW b) 24)) 0
      rw [World.size_alloc, World.size_alloc] at this; exact this)
    have hb0 : Below w.heap.size w (((w.alloc (.cells (cellsW a) 24)).alloc (.cells (cellsW b) 24)).alloc (.cells (cellsW 0) 24)) := (((Below.refl _ _).alloc (Nat.le_refl _) _).alloc (by simp) _).alloc (by simp; omega) _
    go_enter Try.func65, Try.ntmps65
    go_wp2_with (first | (refine wpList_alloc_new rfl 24 rfl (cellsW 0) zWd ?_; simp only [Act.put, List.setIfInBounds_toArray, List.set_cons_zero, List.set_cons_succ, World.size_alloc]) | (refine wpList_load_row rfl 24 (.tmp 3) rfl (w.heap.size + 1) rfl 24 _ (0, 0) _ hB0.out uWd rfl iB.out ?_; simp only [Act.put, List.setIfInBounds_toArray, List.set_cons_zero, List.set_cons_succ]) | (refine wpList_store_row rfl 24 (.tmp 4) (.tmp 10) rfl (w.heap.size + 2) _ rfl rfl 24 _ hC0.out iB.out rfl nB.out ?_; simp only [Act.put]))
    refine bodyPost_ret (results_cell_row rfl _ _ (w.heap.size + 2) 24 (cellsW b) (0, 0) _ rfl (heap_setRow' _ _ _ _ _ hC0.out) uWd rfl iB.out) rfl ⟨rfl, below_setRow' hb0 _ (by omega) _⟩
  · have HY := hid (show modW a b = a % b by unfold modW; first | rfl | rw [if_neg h0])
    rw [decide_eq_false h0] at he
    rw [HY.out]
    have hpos : 0 < b := Nat.pos_of_ne_zero h0
    have hW := hid (fun v w h => wordN_any (a % b) v w h (by omega))
    rw [show (a % b) % 2 ^ 256 = a % b from Nat.mod_eq_of_lt (by assumption)] at hW
    obtain ⟨q, hq2⟩ : ∃ q, q = a / b := ⟨_, rfl⟩
    obtain ⟨r, hr2⟩ : ∃ r, r = a % b := ⟨_, rfl⟩
    have hQ := hid (fun va vb w ha hb => quo_any a b va vb w ha hb (by omega) (by omega) hpos)
    (try rw [← hq2] at hW); (try rw [← hr2] at hW); (try rw [← hq2]); (try rw [← hr2])
    rw [← hq2, ← hr2] at hQ
    clear h0 HY lq lr hq hr ha hb hpos hq2 hr2
    unfold wd at *
    have iY := hid (iW r)
    have nY := hid (one_cellsW r)
    have hA0 := hid (show ArrW 24 (((w.alloc (.cells (cellsW a) 24)).alloc (.cells (cellsW b) 24)).alloc (.cells (cellsW 0) 24)) w.heap.size a from ((ArrW.new _ w a).alloc _).alloc _)
    have hB0 := hid (show ArrW 24 (((w.alloc (.cells (cellsW a) 24)).alloc (.cells (cellsW b) 24)).alloc (.cells (cellsW 0) 24)) (w.heap.size + 1) b by
      have := ArrW.new 24 (w.alloc (.cells (cellsW a) 24)) b
      rw [World.size_alloc] at this; exact this.alloc _)
    have hC0 := hid (show ArrW 24 (((w.alloc (.cells (cellsW a) 24)).alloc (.cells (cellsW b) 24)).alloc (.cells (cellsW 0) 24)) (w.heap.size + 2) 0 by
      have := ArrW.new 24 ((w.alloc (.cells (cellsW a) 24)).alloc (.cells (cellsW b) 24)) 0
      rw [World.size_alloc, World.size_alloc] at this; exact this)
    have hb0 : Below w.heap.size w (((w.alloc (.cells (cellsW a) 24)).alloc (.cells (cellsW b) 24)).alloc (.cells (cellsW 0) 24)) := (((Below.refl _ _).alloc (Nat.le_refl _) _).alloc (by simp) _).alloc (by simp; omega) _
    go_enter Try.func65, Try.ntmps65
    go_wp2_with (first | (refine wpList_alloc_new rfl 24 rfl (cellsW 0) zWd ?_; simp only [Act.put, List.setIfInBounds_toArray, List.set_cons_zero, List.set_cons_succ, World.size_alloc]) | (refine wpList_load_row rfl 24 (.tmp 3) rfl (w.heap.size + 1) rfl 24 _ (0, 0) _ hB0.out uWd rfl iB.out ?_; simp only [Act.put, List.setIfInBounds_toArray, List.set_cons_zero, List.set_cons_succ]))
    ((try simp only [World.size_alloc]); refine wp_region_loose [.kn (.agg (cellsW (a))), .lo (fun v w => RdN w v (a)), .kn (.agg (cellsW (b))), .lo (fun v w => RdN w v (b)), .lo (fun v w => ∃ v1 v2, v = .tuple #[v1, v2] ∧ RdN w v1 (q) ∧ RdN w v2 (r)), .lo (fun v w => ∃ v1 v2, v = .tuple #[v1, v2] ∧ RdN w v1 (q) ∧ RdN w v2 (r)), .lo (fun v w => RdN w v (q)), .lo (fun v w => RdN w v (r)), .lo (fun v w => RdN w v (q)), .lo (fun v w => RdN w v (r))] (by kernel_rfl) (by kernel_rfl) (by kernel_rfl) (by first | exact trivial | ((repeat (first | refine keepsAll_kn ?_ | (refine keepsAll_lo (fun v w w' h hb => ?_) ?_; first | exact RdN.below h hb | exact RdL.below h hb | exact RdY.below h hb | (obtain ⟨b, e, h1⟩ := h; exact ⟨b, e, ArrY.below h1 hb (ArrY.lt h1)⟩) | (obtain ⟨v1, v2, e, h1, h2⟩ := h; exact ⟨v1, v2, e, RdN.below h1 hb, RdN.below h2 hb⟩)))); exact trivial)) ?_)
    (refine loose_step_on rfl (fun W' hB' hd K hK => wp_load_block 24 (.tmp 2) rfl w.heap.size rfl 24 _ _ (ArrW.below hA0.out hB' (ArrW.lt hA0.out)) uWd rfl iA.out (hK _ _ (Below.refl _ _) rfl)) ?_; rintro _ rfl; simp only [Act.put, List.setIfInBounds_toArray, List.set_cons_zero, List.set_cons_succ])
    (refine loose_step_on rfl (fun W' hB' hd K hK => ?_) ?_; (focus (skip; clear hd; go_simp; refine (hOA.out _).mono ?_; rintro _ _ ⟨v', rfl, hr, hb'⟩; exact hK v' _ hb' hr)); intro v13 _; simp only [Act.put, List.setIfInBounds_toArray, List.set_cons_zero, List.set_cons_succ])
    (refine loose_step_on rfl (fun W' hB' hd K hK => wp_load_block 24 (.tmp 3) rfl (w.heap.size + 1) rfl 24 _ _ (ArrW.below hB0.out hB' (ArrW.lt hB0.out)) uWd rfl iB.out (hK _ _ (Below.refl _ _) rfl)) ?_; rintro _ rfl; simp only [Act.put, List.setIfInBounds_toArray, List.set_cons_zero, List.set_cons_succ])
    (refine loose_step_on rfl (fun W' hB' hd K hK => ?_) ?_; (focus (skip; clear hd; go_simp; refine (hOB.out _).mono ?_; rintro _ _ ⟨v', rfl, hr, hb'⟩; exact hK v' _ hb' hr)); intro v15 _; simp only [Act.put, List.setIfInBounds_toArray, List.set_cons_zero, List.set_cons_succ])
    (refine loose_step_on rfl (fun W' hB' hd K hK => ?_) ?_; (focus (have g13 : RdN W' v13 a := hd ⟨1, Ground.data⟩ (by simp) rfl _ 13 rfl rfl (by simp); have g15 : RdN W' v15 b := hd ⟨3, Ground.data⟩ (by simp) rfl _ 15 rfl rfl (by simp); clear hd; go_simp; refine (hQ.out v13 v15 _ g13 g15).mono ?_; rintro _ _ ⟨v1', v2', rfl, hr1, hr2, hb'⟩; exact hK _ _ hb' ⟨v1', v2', rfl, hr1, hr2⟩)); intro v16 _; simp only [Act.put, List.setIfInBounds_toArray, List.set_cons_zero, List.set_cons_succ])
    (refine loose_step_on rfl (fun W' hB' hd K hK => ?_) ?_; (focus (have g16 : ∃ v1 v2, v16 = .tuple #[v1, v2] ∧ RdN W' v1 (q) ∧ RdN W' v2 (r) := hd ⟨4, Ground.data⟩ (by simp) rfl _ 16 rfl rfl (by simp); clear hd; go_simp; exact hK _ _ (Below.refl _ _) g16)); intro v11 _; simp only [Act.put, List.setIfInBounds_toArray, List.set_cons_zero, List.set_cons_succ])
    (refine loose_step_on rfl (fun W' hB' hd K hK => ?_) ?_; (focus (have g11 : ∃ v1 v2, v11 = .tuple #[v1, v2] ∧ RdN W' v1 (q) ∧ RdN W' v2 (r) := hd ⟨5, Ground.data⟩ (by simp) rfl _ 11 rfl rfl (by simp); clear hd; obtain ⟨x1, x2, rfl, h1, h2⟩ := g11; go_simp; exact hK _ _ (Below.refl _ _) h1)); intro v17 _; simp only [Act.put, List.setIfInBounds_toArray, List.set_cons_zero, List.set_cons_succ])
    (refine loose_step_on rfl (fun W' hB' hd K hK => ?_) ?_; (focus (have g11 : ∃ v1 v2, v11 = .tuple #[v1, v2] ∧ RdN W' v1 (q) ∧ RdN W' v2 (r) := hd ⟨5, Ground.data⟩ (by simp) rfl _ 11 rfl rfl (by simp); clear hd; obtain ⟨x1, x2, rfl, h1, h2⟩ := g11; go_simp; exact hK _ _ (Below.refl _ _) h2)); intro v18 _; simp only [Act.put, List.setIfInBounds_toArray, List.set_cons_zero, List.set_cons_succ])
    (refine loose_step_on rfl (fun W' hB' hd K hK => ?_) ?_; (focus (have g17 : RdN W' v17 q := hd ⟨6, Ground.data⟩ (by simp) rfl _ 17 rfl rfl (by simp); clear hd; go_simp; exact hK _ _ (Below.refl _ _) g17)); intro v5 _; simp only [Act.put, List.setIfInBounds_toArray, List.set_cons_zero, List.set_cons_succ])
    (refine loose_step_on rfl (fun W' hB' hd K hK => ?_) ?_; (focus (have g18 : RdN W' v18 r := hd ⟨7, Ground.data⟩ (by simp) rfl _ 18 rfl rfl (by simp); clear hd; go_simp; exact hK _ _ (Below.refl _ _) g18)); intro v6 _; simp only [Act.put, List.setIfInBounds_toArray, List.set_cons_zero, List.set_cons_succ])
    intro w6 hb6 hf
    have g5 : RdN w6 v5 q := hf 8 _ 5 (by first | omega | simp) rfl rfl (by simp)
    have g6 : RdN w6 v6 r := hf 9 _ 6 (by first | omega | simp) rfl rfl (by simp)
    clear hf
    have hC6 := hid (hC0.out.below hb6 hC0.out.lt)
    have hb7 := hb0.trans (hb6.mono hb0.size)
    clear hA0 hB0 hC0 hb0 hb6
    go_wp2_with fail
    refine (hW.out _ _ (by assumption)).mono ?_
    rintro e w8 ⟨rfl, hb8⟩
    have hC8 := hid (hC6.out.below hb8 hC6.out.lt)
    go_wp2_with (refine wpList_store_row rfl 24 (.tmp 4) (.tmp 20) rfl (w.heap.size + 2) _ rfl rfl 24 _ hC8.out iY.out rfl nY.out ?_; simp only [Act.put])
    refine bodyPost_ret (results_cell_row rfl _ _ (w.heap.size + 2) 24 (cellsW r) (0, 0) _ rfl (heap_setRow' _ _ _ _ _ hC8.out) uWd rfl iY.out) rfl ⟨rfl, below_setRow' (hb7.trans (hb8.mono hb7.size)) _ (by omega) _⟩
set_option maxHeartbeats 1000000 in
theorem raddm_any (a b m : Nat) (w : World) (ha : a < 2 ^ 256) (hb : b < 2 ^ 256) (hm : m < 2 ^ 256) : Calls Try.prog 71 #[wd a, wd b, wd m] w fun e w' => e = .returned (wd (modW (a + b) m)) ∧ Below w.heap.size w w' := by
  have hOA := hid (fun w => of_any a w ha)
  have hOB := hid (fun w => of_any b w hb)
  have hOM := hid (fun w => of_any m w hm)
  have la := dg_word_len a ha
  have lb := dg_word_len b hb
  have lm := dg_word_len m hm
  have lab := len_add la lb
  obtain ⟨s, hs⟩ : ∃ s, s = a + b := ⟨_, rfl⟩
  rw [← hs] at lab ⊢
  have lr : (dg (s % m)).length ≤ 65536 := Nat.le_trans (dg_len_mono _ _ (Nat.mod_le _ _)) (by omega)
  have he : ∀ w, (Op.equalIn 10000 24 (.agg (cellsW m)) (.agg #[.int .u64 0, .int .u64 0, .int .u64 0, .int .u64 0])).run Try.prog w = .ok (decide (m = 0)) w := eq_wd m 0 hm (by decide)
  have iA := hid (iW a)
  have iB := hid (iW b)
  have iM := hid (iW m)
  have nM := hid (one_cellsW m)
  by_cases h0 : m = 0
  · have HY := hid (show modW s m = m by unfold modW; rw [if_pos h0, h0])
    rw [decide_eq_true h0] at he
    rw [HY.out]
    clear h0 HY hOA hOB hOM la lb lm lab lr ha hb hm hs
    unfold wd
    have hA0 := hid (show ArrW 24 ((((w.alloc (.cells (cellsW a) 24)).alloc (.cells (cellsW b) 24)).alloc (.cells (cellsW m) 24)).alloc (.cells (cellsW 0) 24)) w.heap.size a from (((ArrW.new _ w a).alloc _).alloc _).alloc _)
    have hB0 := hid (show ArrW 24 ((((w.alloc (.cells (cellsW a) 24)).alloc (.cells (cellsW b) 24)).alloc (.cells (cellsW m) 24)).alloc (.cells (cellsW 0) 24)) (w.heap.size + 1) b by
      have := ArrW.new 24 (w.alloc (.cells (cellsW a) 24)) b
      rw [World.size_alloc] at this; exact (this.alloc _).alloc _)
    have hC0 := hid (show ArrW 24 ((((w.alloc (.cells (cellsW a) 24)).alloc (.cells (cellsW b) 24)).alloc (.cells (cellsW m) 24)).alloc (.cells (cellsW 0) 24)) (w.heap.size + 2) m by
      have := ArrW.new 24 ((w.alloc (.cells (cellsW a) 24)).alloc (.cells (cellsW b) 24)) m
      rw [World.size_alloc, World.size_alloc] at this; exact this.alloc _)
    have hD0 := hid (show ArrW 24 ((((w.alloc (.cells (cellsW a) 24)).alloc (.cells (cellsW b) 24)).alloc (.cells (cellsW m) 24)).alloc (.cells (cellsW 0) 24)) (w.heap.size + 3) 0 by
      have := ArrW.new 24 (((w.alloc (.cells (cellsW a) 24)).alloc (.cells (cellsW b) 24)).alloc (.cells (cellsW m) 24)) 0
      rw [World.size_alloc, World.size_alloc, World.size_alloc] at this; exact this)
    have hb0 : Below w.heap.size w ((((w.alloc (.cells (cellsW a) 24)).alloc (.cells (cellsW b) 24)).alloc (.cells (cellsW m) 24)).alloc (.cells (cellsW 0) 24)) := ((((Below.refl _ _).alloc (Nat.le_refl _) _).alloc (by simp) _).alloc (by simp; omega) _).alloc (by simp; omega) _
    go_enter Try.func71, Try.ntmps71
    go_wp2_with (first | (refine wpList_alloc_new rfl 24 rfl (cellsW 0) zWd ?_; simp only [Act.put, List.setIfInBounds_toArray, List.set_cons_zero, List.set_cons_succ, World.size_alloc]) | (refine wpList_load_row rfl 24 (.tmp 5) rfl (w.heap.size + 2) rfl 24 _ (0, 0) _ hC0.out uWd rfl iM.out ?_; simp only [Act.put, List.setIfInBounds_toArray, List.set_cons_zero, List.set_cons_succ]) | (refine wpList_store_row rfl 24 (.tmp 6) (.tmp 12) rfl (w.heap.size + 3) _ rfl rfl 24 _ hD0.out iM.out rfl nM.out ?_; simp only [Act.put]))
    refine bodyPost_ret (results_cell_row rfl _ _ (w.heap.size + 3) 24 (cellsW m) (0, 0) _ rfl (heap_setRow' _ _ _ _ _ hD0.out) uWd rfl iM.out) rfl ⟨rfl, below_setRow' hb0 _ (by omega) _⟩
  · have HY := hid (show modW s m = s % m by unfold modW; rw [if_neg h0])
    rw [decide_eq_false h0] at he
    rw [HY.out]
    have hpos : 0 < m := Nat.pos_of_ne_zero h0
    have hr : s % m < 2 ^ 256 := Nat.lt_trans (Nat.mod_lt _ hpos) hm
    have hW := hid (fun v w h => wordN_any (s % m) v w h (by omega))
    rw [show (s % m) % 2 ^ 256 = s % m from Nat.mod_eq_of_lt hr] at hW
    obtain ⟨q, hq2⟩ : ∃ q, q = s / m := ⟨_, rfl⟩
    obtain ⟨r, hr2⟩ : ∃ r, r = s % m := ⟨_, rfl⟩
    have hQ := hid (fun va vb w ha hb => quo_any s m va vb w ha hb (by omega) (by omega) hpos)
    have hF := hid (fun va vb w ha hb => plus_any a b va vb w ha hb (by omega) (by omega))
    rw [← hs] at hF
    rw [← hr2] at hW ⊢
    rw [← hq2, ← hr2] at hQ
    clear h0 HY lr hr ha hb hm hpos hq2 hr2 hs
    unfold wd at *
    have iY := hid (iW r)
    have nY := hid (one_cellsW r)
    have hA0 := hid (show ArrW 24 ((((w.alloc (.cells (cellsW a) 24)).alloc (.cells (cellsW b) 24)).alloc (.cells (cellsW m) 24)).alloc (.cells (cellsW 0) 24)) w.heap.size a from (((ArrW.new _ w a).alloc _).alloc _).alloc _)
    have hB0 := hid (show ArrW 24 ((((w.alloc (.cells (cellsW a) 24)).alloc (.cells (cellsW b) 24)).alloc (.cells (cellsW m) 24)).alloc (.cells (cellsW 0) 24)) (w.heap.size + 1) b by
      have := ArrW.new 24 (w.alloc (.cells (cellsW a) 24)) b
      rw [World.size_alloc] at this; exact (this.alloc _).alloc _)
    have hC0 := hid (show ArrW 24 ((((w.alloc (.cells (cellsW a) 24)).alloc (.cells (cellsW b) 24)).alloc (.cells (cellsW m) 24)).alloc (.cells (cellsW 0) 24)) (w.heap.size + 2) m by
      have := ArrW.new 24 ((w.alloc (.cells (cellsW a) 24)).alloc (.cells (cellsW b) 24)) m
      rw [World.size_alloc, World.size_alloc] at this; exact this.alloc _)
    have hD0 := hid (show ArrW 24 ((((w.alloc (.cells (cellsW a) 24)).alloc (.cells (cellsW b) 24)).alloc (.cells (cellsW m) 24)).alloc (.cells (cellsW 0) 24)) (w.heap.size + 3) 0 by
      have := ArrW.new 24 (((w.alloc (.cells (cellsW a) 24)).alloc (.cells (cellsW b) 24)).alloc (.cells (cellsW m) 24)) 0
      rw [World.size_alloc, World.size_alloc, World.size_alloc] at this; exact this)
    have hb0 : Below w.heap.size w ((((w.alloc (.cells (cellsW a) 24)).alloc (.cells (cellsW b) 24)).alloc (.cells (cellsW m) 24)).alloc (.cells (cellsW 0) 24)) := ((((Below.refl _ _).alloc (Nat.le_refl _) _).alloc (by simp) _).alloc (by simp; omega) _).alloc (by simp; omega) _
    go_enter Try.func71, Try.ntmps71
    go_wp2_with (first | (refine wpList_alloc_new rfl 24 rfl (cellsW 0) zWd ?_; simp only [Act.put, List.setIfInBounds_toArray, List.set_cons_zero, List.set_cons_succ, World.size_alloc]) | (refine wpList_load_row rfl 24 (.tmp 5) rfl (w.heap.size + 2) rfl 24 _ (0, 0) _ hC0.out uWd rfl iM.out ?_; simp only [Act.put, List.setIfInBounds_toArray, List.set_cons_zero, List.set_cons_succ]))
    ((try simp only [World.size_alloc]); refine wp_region_loose [.kn (.agg (cellsW (a))), .lo (fun v w => RdN w v (a)), .kn (.agg (cellsW (b))), .lo (fun v w => RdN w v (b)), .lo (fun v w => RdN w v (s)), .kn (.agg (cellsW (m))), .lo (fun v w => RdN w v (m)), .lo (fun v w => ∃ v1 v2, v = .tuple #[v1, v2] ∧ RdN w v1 (q) ∧ RdN w v2 (r)), .lo (fun v w => ∃ v1 v2, v = .tuple #[v1, v2] ∧ RdN w v1 (q) ∧ RdN w v2 (r)), .lo (fun v w => RdN w v (q)), .lo (fun v w => RdN w v (r)), .lo (fun v w => RdN w v (q)), .lo (fun v w => RdN w v (r))] (by kernel_rfl) (by kernel_rfl) (by kernel_rfl) (by first | exact trivial | ((repeat (first | refine keepsAll_kn ?_ | (refine keepsAll_lo (fun v w w' h hb => ?_) ?_; first | exact RdN.below h hb | exact RdL.below h hb | exact RdY.below h hb | (obtain ⟨b, e, h1⟩ := h; exact ⟨b, e, ArrY.below h1 hb (ArrY.lt h1)⟩) | (obtain ⟨v1, v2, e, h1, h2⟩ := h; exact ⟨v1, v2, e, RdN.below h1 hb, RdN.below h2 hb⟩)))); exact trivial)) ?_)
    (refine loose_step_on rfl (fun W' hB' hd K hK => wp_load_block 24 (.tmp 3) rfl w.heap.size rfl 24 _ _ (ArrW.below hA0.out hB' (ArrW.lt hA0.out)) uWd rfl iA.out (hK _ _ (Below.refl _ _) rfl)) ?_; rintro _ rfl; simp only [Act.put, List.setIfInBounds_toArray, List.set_cons_zero, List.set_cons_succ])
    (refine loose_step_on rfl (fun W' hB' hd K hK => ?_) ?_; (focus (skip; clear hd; go_simp; refine (hOA.out _).mono ?_; rintro _ _ ⟨v', rfl, hr, hb'⟩; exact hK v' _ hb' hr)); intro v15 _; simp only [Act.put, List.setIfInBounds_toArray, List.set_cons_zero, List.set_cons_succ])
    (refine loose_step_on rfl (fun W' hB' hd K hK => wp_load_block 24 (.tmp 4) rfl (w.heap.size + 1) rfl 24 _ _ (ArrW.below hB0.out hB' (ArrW.lt hB0.out)) uWd rfl iB.out (hK _ _ (Below.refl _ _) rfl)) ?_; rintro _ rfl; simp only [Act.put, List.setIfInBounds_toArray, List.set_cons_zero, List.set_cons_succ])
    (refine loose_step_on rfl (fun W' hB' hd K hK => ?_) ?_; (focus (skip; clear hd; go_simp; refine (hOB.out _).mono ?_; rintro _ _ ⟨v', rfl, hr, hb'⟩; exact hK v' _ hb' hr)); intro v17 _; simp only [Act.put, List.setIfInBounds_toArray, List.set_cons_zero, List.set_cons_succ])
    (refine loose_step_on rfl (fun W' hB' hd K hK => ?_) ?_; (focus (have g15 : RdN W' v15 a := hd ⟨1, Ground.data⟩ (by simp) rfl _ 15 rfl rfl (by simp); have g17 : RdN W' v17 b := hd ⟨3, Ground.data⟩ (by simp) rfl _ 17 rfl rfl (by simp); clear hd; go_simp; refine (hF.out v15 v17 _ g15 g17).mono ?_; rintro _ _ ⟨v', rfl, hr, hb'⟩; exact hK v' _ hb' hr)); intro v18 _; simp only [Act.put, List.setIfInBounds_toArray, List.set_cons_zero, List.set_cons_succ])
    (refine loose_step_on rfl (fun W' hB' hd K hK => wp_load_block 24 (.tmp 5) rfl (w.heap.size + 2) rfl 24 _ _ (ArrW.below hC0.out hB' (ArrW.lt hC0.out)) uWd rfl iM.out (hK _ _ (Below.refl _ _) rfl)) ?_; rintro _ rfl; simp only [Act.put, List.setIfInBounds_toArray, List.set_cons_zero, List.set_cons_succ])
    (refine loose_step_on rfl (fun W' hB' hd K hK => ?_) ?_; (focus (skip; clear hd; go_simp; refine (hOM.out _).mono ?_; rintro _ _ ⟨v', rfl, hr, hb'⟩; exact hK v' _ hb' hr)); intro v20 _; simp only [Act.put, List.setIfInBounds_toArray, List.set_cons_zero, List.set_cons_succ])
    (refine loose_step_on rfl (fun W' hB' hd K hK => ?_) ?_; (focus (have g18 : RdN W' v18 s := hd ⟨4, Ground.data⟩ (by simp) rfl _ 18 rfl rfl (by simp); have g20 : RdN W' v20 m := hd ⟨6, Ground.data⟩ (by simp) rfl _ 20 rfl rfl (by simp); clear hd; go_simp; refine (hQ.out v18 v20 _ g18 g20).mono ?_; rintro _ _ ⟨v1', v2', rfl, hr1, hr2, hb'⟩; exact hK _ _ hb' ⟨v1', v2', rfl, hr1, hr2⟩)); intro v21 _; simp only [Act.put, List.setIfInBounds_toArray, List.set_cons_zero, List.set_cons_succ])
    (refine loose_step_on rfl (fun W' hB' hd K hK => ?_) ?_; (focus (have g21 : ∃ v1 v2, v21 = .tuple #[v1, v2] ∧ RdN W' v1 (q) ∧ RdN W' v2 (r) := hd ⟨7, Ground.data⟩ (by simp) rfl _ 21 rfl rfl (by simp); clear hd; go_simp; exact hK _ _ (Below.refl _ _) g21)); intro v13 _; simp only [Act.put, List.setIfInBounds_toArray, List.set_cons_zero, List.set_cons_succ])
    (refine loose_step_on rfl (fun W' hB' hd K hK => ?_) ?_; (focus (have g13 : ∃ v1 v2, v13 = .tuple #[v1, v2] ∧ RdN W' v1 (q) ∧ RdN W' v2 (r) := hd ⟨8, Ground.data⟩ (by simp) rfl _ 13 rfl rfl (by simp); clear hd; obtain ⟨x1, x2, rfl, h1, h2⟩ := g13; go_simp; exact hK _ _ (Below.refl _ _) h1)); intro v22 _; simp only [Act.put, List.setIfInBounds_toArray, List.set_cons_zero, List.set_cons_succ])
    (refine loose_step_on rfl (fun W' hB' hd K hK => ?_) ?_; (focus (have g13 : ∃ v1 v2, v13 = .tuple #[v1, v2] ∧ RdN W' v1 (q) ∧ RdN W' v2 (r) := hd ⟨8, Ground.data⟩ (by simp) rfl _ 13 rfl rfl (by simp); clear hd; obtain ⟨x1, x2, rfl, h1, h2⟩ := g13; go_simp; exact hK _ _ (Below.refl _ _) h2)); intro v23 _; simp only [Act.put, List.setIfInBounds_toArray, List.set_cons_zero, List.set_cons_succ])
    (refine loose_step_on rfl (fun W' hB' hd K hK => ?_) ?_; (focus (have g22 : RdN W' v22 q := hd ⟨9, Ground.data⟩ (by simp) rfl _ 22 rfl rfl (by simp); clear hd; go_simp; exact hK _ _ (Below.refl _ _) g22)); intro v7 _; simp only [Act.put, List.setIfInBounds_toArray, List.set_cons_zero, List.set_cons_succ])
    (refine loose_step_on rfl (fun W' hB' hd K hK => ?_) ?_; (focus (have g23 : RdN W' v23 r := hd ⟨10, Ground.data⟩ (by simp) rfl _ 23 rfl rfl (by simp); clear hd; go_simp; exact hK _ _ (Below.refl _ _) g23)); intro v8 _; simp only [Act.put, List.setIfInBounds_toArray, List.set_cons_zero, List.set_cons_succ])
    intro w6 hb6 hf
    have g8 : RdN w6 v8 r := hf 12 _ 8 (by first | omega | simp) rfl rfl (by simp)
    clear hf
    have hC6 := hid (hD0.out.below hb6 hD0.out.lt)
    have hb7 := hb0.trans (hb6.mono hb0.size)
    clear hA0 hB0 hC0 hD0 hb0 hb6
    go_wp2_with fail
    refine (hW.out _ _ g8).mono ?_
    rintro e w8 ⟨rfl, hb8⟩
    have hC8 := hid (hC6.out.below hb8 hC6.out.lt)
    go_wp2_with (refine wpList_store_row rfl 24 (.tmp 6) (.tmp 25) rfl (w.heap.size + 3) _ rfl rfl 24 _ hC8.out iY.out rfl nY.out ?_; simp only [Act.put])
    refine bodyPost_ret (results_cell_row rfl _ _ (w.heap.size + 3) 24 (cellsW r) (0, 0) _ rfl (heap_setRow' _ _ _ _ _ hC8.out) uWd rfl iY.out) rfl ⟨rfl, below_setRow' (hb7.trans (hb8.mono hb7.size)) _ (by omega) _⟩
set_option maxHeartbeats 1000000 in
theorem rmulm_any (a b m : Nat) (w : World) (ha : a < 2 ^ 256) (hb : b < 2 ^ 256) (hm : m < 2 ^ 256) : Calls Try.prog 73 #[wd a, wd b, wd m] w fun e w' => e = .returned (wd (modW (a * b) m)) ∧ Below w.heap.size w w' := by
  have hOA := hid (fun w => of_any a w ha)
  have hOB := hid (fun w => of_any b w hb)
  have hOM := hid (fun w => of_any m w hm)
  have la := dg_word_len a ha
  have lb := dg_word_len b hb
  have lm := dg_word_len m hm
  have lab := len_mul la lb
  obtain ⟨s, hs⟩ : ∃ s, s = a * b := ⟨_, rfl⟩
  rw [← hs] at lab ⊢
  have lr : (dg (s % m)).length ≤ 65536 := Nat.le_trans (dg_len_mono _ _ (Nat.mod_le _ _)) (by omega)
  have he : ∀ w, (Op.equalIn 10000 24 (.agg (cellsW m)) (.agg #[.int .u64 0, .int .u64 0, .int .u64 0, .int .u64 0])).run Try.prog w = .ok (decide (m = 0)) w := eq_wd m 0 hm (by decide)
  have iA := hid (iW a)
  have iB := hid (iW b)
  have iM := hid (iW m)
  have nM := hid (one_cellsW m)
  by_cases h0 : m = 0
  · have HY := hid (show modW s m = m by unfold modW; rw [if_pos h0, h0])
    rw [decide_eq_true h0] at he
    rw [HY.out]
    clear h0 HY hOA hOB hOM la lb lm lab lr ha hb hm hs
    unfold wd
    have hA0 := hid (show ArrW 24 ((((w.alloc (.cells (cellsW a) 24)).alloc (.cells (cellsW b) 24)).alloc (.cells (cellsW m) 24)).alloc (.cells (cellsW 0) 24)) w.heap.size a from (((ArrW.new _ w a).alloc _).alloc _).alloc _)
    have hB0 := hid (show ArrW 24 ((((w.alloc (.cells (cellsW a) 24)).alloc (.cells (cellsW b) 24)).alloc (.cells (cellsW m) 24)).alloc (.cells (cellsW 0) 24)) (w.heap.size + 1) b by
      have := ArrW.new 24 (w.alloc (.cells (cellsW a) 24)) b
      rw [World.size_alloc] at this; exact (this.alloc _).alloc _)
    have hC0 := hid (show ArrW 24 ((((w.alloc (.cells (cellsW a) 24)).alloc (.cells (cellsW b) 24)).alloc (.cells (cellsW m) 24)).alloc (.cells (cellsW 0) 24)) (w.heap.size + 2) m by
      have := ArrW.new 24 ((w.alloc (.cells (cellsW a) 24)).alloc (.cells (cellsW b) 24)) m
      rw [World.size_alloc, World.size_alloc] at this; exact this.alloc _)
    have hD0 := hid (show ArrW 24 ((((w.alloc (.cells (cellsW a) 24)).alloc (.cells (cellsW b) 24)).alloc (.cells (cellsW m) 24)).alloc (.cells (cellsW 0) 24)) (w.heap.size + 3) 0 by
      have := ArrW.new 24 (((w.alloc (.cells (cellsW a) 24)).alloc (.cells (cellsW b) 24)).alloc (.cells (cellsW m) 24)) 0
      rw [World.size_alloc, World.size_alloc, World.size_alloc] at this; exact this)
    have hb0 : Below w.heap.size w ((((w.alloc (.cells (cellsW a) 24)).alloc (.cells (cellsW b) 24)).alloc (.cells (cellsW m) 24)).alloc (.cells (cellsW 0) 24)) := ((((Below.refl _ _).alloc (Nat.le_refl _) _).alloc (by simp) _).alloc (by simp; omega) _).alloc (by simp; omega) _
    go_enter Try.func73, Try.ntmps73
    go_wp2_with (first | (refine wpList_alloc_new rfl 24 rfl (cellsW 0) zWd ?_; simp only [Act.put, List.setIfInBounds_toArray, List.set_cons_zero, List.set_cons_succ, World.size_alloc]) | (refine wpList_load_row rfl 24 (.tmp 5) rfl (w.heap.size + 2) rfl 24 _ (0, 0) _ hC0.out uWd rfl iM.out ?_; simp only [Act.put, List.setIfInBounds_toArray, List.set_cons_zero, List.set_cons_succ]) | (refine wpList_store_row rfl 24 (.tmp 6) (.tmp 12) rfl (w.heap.size + 3) _ rfl rfl 24 _ hD0.out iM.out rfl nM.out ?_; simp only [Act.put]))
    refine bodyPost_ret (results_cell_row rfl _ _ (w.heap.size + 3) 24 (cellsW m) (0, 0) _ rfl (heap_setRow' _ _ _ _ _ hD0.out) uWd rfl iM.out) rfl ⟨rfl, below_setRow' hb0 _ (by omega) _⟩
  · have HY := hid (show modW s m = s % m by unfold modW; rw [if_neg h0])
    rw [decide_eq_false h0] at he
    rw [HY.out]
    have hpos : 0 < m := Nat.pos_of_ne_zero h0
    have hr : s % m < 2 ^ 256 := Nat.lt_trans (Nat.mod_lt _ hpos) hm
    have hW := hid (fun v w h => wordN_any (s % m) v w h (by omega))
    rw [show (s % m) % 2 ^ 256 = s % m from Nat.mod_eq_of_lt hr] at hW
    obtain ⟨q, hq2⟩ : ∃ q, q = s / m := ⟨_, rfl⟩
    obtain ⟨r, hr2⟩ : ∃ r, r = s % m := ⟨_, rfl⟩
    have hQ := hid (fun va vb w ha hb => quo_any s m va vb w ha hb (by omega) (by omega) hpos)
    have hF := hid (fun va vb w ha hb => times_any a b va vb w ha hb (by omega) (by omega))
    rw [← hs] at hF
    rw [← hr2] at hW ⊢
    rw [← hq2, ← hr2] at hQ
    clear h0 HY lr hr ha hb hm hpos hq2 hr2 hs
    unfold wd at *
    have iY := hid (iW r)
    have nY := hid (one_cellsW r)
    have hA0 := hid (show ArrW 24 ((((w.alloc (.cells (cellsW a) 24)).alloc (.cells (cellsW b) 24)).alloc (.cells (cellsW m) 24)).alloc (.cells (cellsW 0) 24)) w.heap.size a from (((ArrW.new _ w a).alloc _).alloc _).alloc _)
    have hB0 := hid (show ArrW 24 ((((w.alloc (.cells (cellsW a) 24)).alloc (.cells (cellsW b) 24)).alloc (.cells (cellsW m) 24)).alloc (.cells (cellsW 0) 24)) (w.heap.size + 1) b by
      have := ArrW.new 24 (w.alloc (.cells (cellsW a) 24)) b
      rw [World.size_alloc] at this; exact (this.alloc _).alloc _)
    have hC0 := hid (show ArrW 24 ((((w.alloc (.cells (cellsW a) 24)).alloc (.cells (cellsW b) 24)).alloc (.cells (cellsW m) 24)).alloc (.cells (cellsW 0) 24)) (w.heap.size + 2) m by
      have := ArrW.new 24 ((w.alloc (.cells (cellsW a) 24)).alloc (.cells (cellsW b) 24)) m
      rw [World.size_alloc, World.size_alloc] at this; exact this.alloc _)
    have hD0 := hid (show ArrW 24 ((((w.alloc (.cells (cellsW a) 24)).alloc (.cells (cellsW b) 24)).alloc (.cells (cellsW m) 24)).alloc (.cells (cellsW 0) 24)) (w.heap.size + 3) 0 by
      have := ArrW.new 24 (((w.alloc (.cells (cellsW a) 24)).alloc (.cells (cellsW b) 24)).alloc (.cells (cellsW m) 24)) 0
      rw [World.size_alloc, World.size_alloc, World.size_alloc] at this; exact this)
    have hb0 : Below w.heap.size w ((((w.alloc (.cells (cellsW a) 24)).alloc (.cells (cellsW b) 24)).alloc (.cells (cellsW m) 24)).alloc (.cells (cellsW 0) 24)) := ((((Below.refl _ _).alloc (Nat.le_refl _) _).alloc (by simp) _).alloc (by simp; omega) _).alloc (by simp; omega) _
    go_enter Try.func73, Try.ntmps73
    go_wp2_with (first | (refine wpList_alloc_new rfl 24 rfl (cellsW 0) zWd ?_; simp only [Act.put, List.setIfInBounds_toArray, List.set_cons_zero, List.set_cons_succ, World.size_alloc]) | (refine wpList_load_row rfl 24 (.tmp 5) rfl (w.heap.size + 2) rfl 24 _ (0, 0) _ hC0.out uWd rfl iM.out ?_; simp only [Act.put, List.setIfInBounds_toArray, List.set_cons_zero, List.set_cons_succ]))
    ((try simp only [World.size_alloc]); refine wp_region_loose [.kn (.agg (cellsW (a))), .lo (fun v w => RdN w v (a)), .kn (.agg (cellsW (b))), .lo (fun v w => RdN w v (b)), .lo (fun v w => RdN w v (s)), .kn (.agg (cellsW (m))), .lo (fun v w => RdN w v (m)), .lo (fun v w => ∃ v1 v2, v = .tuple #[v1, v2] ∧ RdN w v1 (q) ∧ RdN w v2 (r)), .lo (fun v w => ∃ v1 v2, v = .tuple #[v1, v2] ∧ RdN w v1 (q) ∧ RdN w v2 (r)), .lo (fun v w => RdN w v (q)), .lo (fun v w => RdN w v (r)), .lo (fun v w => RdN w v (q)), .lo (fun v w => RdN w v (r))] (by kernel_rfl) (by kernel_rfl) (by kernel_rfl) (by first | exact trivial | ((repeat (first | refine keepsAll_kn ?_ | (refine keepsAll_lo (fun v w w' h hb => ?_) ?_; first | exact RdN.below h hb | exact RdL.below h hb | exact RdY.below h hb | (obtain ⟨b, e, h1⟩ := h; exact ⟨b, e, ArrY.below h1 hb (ArrY.lt h1)⟩) | (obtain ⟨v1, v2, e, h1, h2⟩ := h; exact ⟨v1, v2, e, RdN.below h1 hb, RdN.below h2 hb⟩)))); exact trivial)) ?_)
    (refine loose_step_on rfl (fun W' hB' hd K hK => wp_load_block 24 (.tmp 3) rfl w.heap.size rfl 24 _ _ (ArrW.below hA0.out hB' (ArrW.lt hA0.out)) uWd rfl iA.out (hK _ _ (Below.refl _ _) rfl)) ?_; rintro _ rfl; simp only [Act.put, List.setIfInBounds_toArray, List.set_cons_zero, List.set_cons_succ])
    (refine loose_step_on rfl (fun W' hB' hd K hK => ?_) ?_; (focus (skip; clear hd; go_simp; refine (hOA.out _).mono ?_; rintro _ _ ⟨v', rfl, hr, hb'⟩; exact hK v' _ hb' hr)); intro v15 _; simp only [Act.put, List.setIfInBounds_toArray, List.set_cons_zero, List.set_cons_succ])
    (refine loose_step_on rfl (fun W' hB' hd K hK => wp_load_block 24 (.tmp 4) rfl (w.heap.size + 1) rfl 24 _ _ (ArrW.below hB0.out hB' (ArrW.lt hB0.out)) uWd rfl iB.out (hK _ _ (Below.refl _ _) rfl)) ?_; rintro _ rfl; simp only [Act.put, List.setIfInBounds_toArray, List.set_cons_zero, List.set_cons_succ])
    (refine loose_step_on rfl (fun W' hB' hd K hK => ?_) ?_; (focus (skip; clear hd; go_simp; refine (hOB.out _).mono ?_; rintro _ _ ⟨v', rfl, hr, hb'⟩; exact hK v' _ hb' hr)); intro v17 _; simp only [Act.put, List.setIfInBounds_toArray, List.set_cons_zero, List.set_cons_succ])
    (refine loose_step_on rfl (fun W' hB' hd K hK => ?_) ?_; (focus (have g15 : RdN W' v15 a := hd ⟨1, Ground.data⟩ (by simp) rfl _ 15 rfl rfl (by simp); have g17 : RdN W' v17 b := hd ⟨3, Ground.data⟩ (by simp) rfl _ 17 rfl rfl (by simp); clear hd; go_simp; refine (hF.out v15 v17 _ g15 g17).mono ?_; rintro _ _ ⟨v', rfl, hr, hb'⟩; exact hK v' _ hb' hr)); intro v18 _; simp only [Act.put, List.setIfInBounds_toArray, List.set_cons_zero, List.set_cons_succ])
    (refine loose_step_on rfl (fun W' hB' hd K hK => wp_load_block 24 (.tmp 5) rfl (w.heap.size + 2) rfl 24 _ _ (ArrW.below hC0.out hB' (ArrW.lt hC0.out)) uWd rfl iM.out (hK _ _ (Below.refl _ _) rfl)) ?_; rintro _ rfl; simp only [Act.put, List.setIfInBounds_toArray, List.set_cons_zero, List.set_cons_succ])
    (refine loose_step_on rfl (fun W' hB' hd K hK => ?_) ?_; (focus (skip; clear hd; go_simp; refine (hOM.out _).mono ?_; rintro _ _ ⟨v', rfl, hr, hb'⟩; exact hK v' _ hb' hr)); intro v20 _; simp only [Act.put, List.setIfInBounds_toArray, List.set_cons_zero, List.set_cons_succ])
    (refine loose_step_on rfl (fun W' hB' hd K hK => ?_) ?_; (focus (have g18 : RdN W' v18 s := hd ⟨4, Ground.data⟩ (by simp) rfl _ 18 rfl rfl (by simp); have g20 : RdN W' v20 m := hd ⟨6, Ground.data⟩ (by simp) rfl _ 20 rfl rfl (by simp); clear hd; go_simp; refine (hQ.out v18 v20 _ g18 g20).mono ?_; rintro _ _ ⟨v1', v2', rfl, hr1, hr2, hb'⟩; exact hK _ _ hb' ⟨v1', v2', rfl, hr1, hr2⟩)); intro v21 _; simp only [Act.put, List.setIfInBounds_toArray, List.set_cons_zero, List.set_cons_succ])
    (refine loose_step_on rfl (fun W' hB' hd K hK => ?_) ?_; (focus (have g21 : ∃ v1 v2, v21 = .tuple #[v1, v2] ∧ RdN W' v1 (q) ∧ RdN W' v2 (r) := hd ⟨7, Ground.data⟩ (by simp) rfl _ 21 rfl rfl (by simp); clear hd; go_simp; exact hK _ _ (Below.refl _ _) g21)); intro v13 _; simp only [Act.put, List.setIfInBounds_toArray, List.set_cons_zero, List.set_cons_succ])
    (refine loose_step_on rfl (fun W' hB' hd K hK => ?_) ?_; (focus (have g13 : ∃ v1 v2, v13 = .tuple #[v1, v2] ∧ RdN W' v1 (q) ∧ RdN W' v2 (r) := hd ⟨8, Ground.data⟩ (by simp) rfl _ 13 rfl rfl (by simp); clear hd; obtain ⟨x1, x2, rfl, h1, h2⟩ := g13; go_simp; exact hK _ _ (Below.refl _ _) h1)); intro v22 _; simp only [Act.put, List.setIfInBounds_toArray, List.set_cons_zero, List.set_cons_succ])
    (refine loose_step_on rfl (fun W' hB' hd K hK => ?_) ?_; (focus (have g13 : ∃ v1 v2, v13 = .tuple #[v1, v2] ∧ RdN W' v1 (q) ∧ RdN W' v2 (r) := hd ⟨8, Ground.data⟩ (by simp) rfl _ 13 rfl rfl (by simp); clear hd; obtain ⟨x1, x2, rfl, h1, h2⟩ := g13; go_simp; exact hK _ _ (Below.refl _ _) h2)); intro v23 _; simp only [Act.put, List.setIfInBounds_toArray, List.set_cons_zero, List.set_cons_succ])
    (refine loose_step_on rfl (fun W' hB' hd K hK => ?_) ?_; (focus (have g22 : RdN W' v22 q := hd ⟨9, Ground.data⟩ (by simp) rfl _ 22 rfl rfl (by simp); clear hd; go_simp; exact hK _ _ (Below.refl _ _) g22)); intro v7 _; simp only [Act.put, List.setIfInBounds_toArray, List.set_cons_zero, List.set_cons_succ])
    (refine loose_step_on rfl (fun W' hB' hd K hK => ?_) ?_; (focus (have g23 : RdN W' v23 r := hd ⟨10, Ground.data⟩ (by simp) rfl _ 23 rfl rfl (by simp); clear hd; go_simp; exact hK _ _ (Below.refl _ _) g23)); intro v8 _; simp only [Act.put, List.setIfInBounds_toArray, List.set_cons_zero, List.set_cons_succ])
    intro w6 hb6 hf
    have g8 : RdN w6 v8 r := hf 12 _ 8 (by first | omega | simp) rfl rfl (by simp)
    clear hf
    have hC6 := hid (hD0.out.below hb6 hD0.out.lt)
    have hb7 := hb0.trans (hb6.mono hb0.size)
    clear hA0 hB0 hC0 hD0 hb0 hb6
    go_wp2_with fail
    refine (hW.out _ _ g8).mono ?_
    rintro e w8 ⟨rfl, hb8⟩
    have hC8 := hid (hC6.out.below hb8 hC6.out.lt)
    go_wp2_with (refine wpList_store_row rfl 24 (.tmp 6) (.tmp 25) rfl (w.heap.size + 3) _ rfl rfl 24 _ hC8.out iY.out rfl nY.out ?_; simp only [Act.put])
    refine bodyPost_ret (results_cell_row rfl _ _ (w.heap.size + 3) 24 (cellsW r) (0, 0) _ rfl (heap_setRow' _ _ _ _ _ hC8.out) uWd rfl iY.out) rfl ⟨rfl, below_setRow' (hb7.trans (hb8.mono hb7.size)) _ (by omega) _⟩

set_option maxHeartbeats 1000000 in
theorem small_any (x m : Nat) (w : World) (hx : x < 2 ^ 256) (hm : m < 2 ^ 63) : Calls Try.prog 103 #[wd x, .int .i64 (m : Int)] w fun e w' => e = .returned (.int .i64 ((upT x m : Nat) : Int)) ∧ Below w.heap.size w w' := by
  have hl := limbs_sum x hx
  have g0 := lmN_lt x 0
  have g1 := lmN_lt x 1
  have g2 := lmN_lt x 2
  have g3 := lmN_lt x 3
  have q0 := cellsW_at x 0 (by omega)
  have q1 := cellsW_at x 1 (by omega)
  have q2 := cellsW_at x 2 (by omega)
  have q3 := cellsW_at x 3 (by omega)
  have hor : bits .or .u64 (bits .or .u64 (lm x 1) (lm x 2)) (lm x 3) = ((lmN x 1 ||| lmN x 2 ||| lmN x 3 : Nat) : Int) := by
    unfold lm
    rw [u64_or_nat _ _ g1 g2, u64_or_nat _ _ (show lmN x 1 ||| lmN x 2 < 2 ^ 64 from Nat.or_lt_two_pow (n := 64) g1 g2) g3]
  have hz : (lmN x 1 ||| lmN x 2 ||| lmN x 3) = 0 ↔ lmN x 1 = 0 ∧ lmN x 2 = 0 ∧ lmN x 3 = 0 := by
    rw [Nat.or_eq_zero_iff, Nat.or_eq_zero_iff, and_assoc]
  have hb : Below w.heap.size w (w.alloc (.cells (cellsW x) 24)) := (Below.refl _ _).alloc (Nat.le_refl _) _
  by_cases h : lmN x 1 = 0 ∧ lmN x 2 = 0 ∧ lmN x 3 = 0
  · have h1 := hz.2 h
    rw [h1] at hor
    have hx0 : x = lmN x 0 := by obtain ⟨h1, h2, h3⟩ := h; rw [h1, h2, h3] at hl; omega
    have e0 : lm x 0 = (x : Int) := by unfold lm; omega
    rw [e0] at q0
    have hxs : x < 18446744073709551616 := by omega
    by_cases hlt : x < m
    · have HU := hid (show upT x m = x by unfold upT; rw [if_pos hlt])
      have h4 : ¬ m ≤ x := by omega
      rw [HU.out]
      clear hl hz h h1 e0 HU hx hx0
      unfold wd
      go_enter Try.func103, Try.ntmps103
      go_wp2
      go_ret
      exact ⟨rfl, hb⟩
    · have HU := hid (show upT x m = m by unfold upT; rw [if_neg hlt])
      have h4 : m ≤ x := by omega
      rw [HU.out]
      clear hl hz h h1 e0 HU hx hx0
      unfold wd
      go_enter Try.func103, Try.ntmps103
      go_wp2
      go_ret
      exact ⟨rfl, hb⟩
  · have hne : ¬ (lmN x 1 ||| lmN x 2 ||| lmN x 3) = 0 := fun e => h (hz.1 e)
    have hx0 : ¬ x < m := by
      intro hlt
      apply h
      have e : ∀ i, 1 ≤ i → lmN x i = 0 := fun i hi => lmN_hi x i (by
        have h2 : 2 ^ 64 ≤ 2 ^ (64 * i) := Nat.pow_le_pow_right (by omega) (by omega)
        omega)
      exact ⟨e 1 (by omega), e 2 (by omega), e 3 (by omega)⟩
    have HU := hid (show upT x m = m by unfold upT; rw [if_neg hx0])
    rw [HU.out]
    obtain ⟨r, hr⟩ : ∃ r, r = lmN x 1 ||| lmN x 2 ||| lmN x 3 := ⟨_, rfl⟩
    rw [← hr] at hor hne
    clear hl hz h HU hx hx0 hr
    unfold wd
    go_enter Try.func103, Try.ntmps103
    go_wp2
    go_ret
    exact ⟨rfl, hb⟩

set_option maxHeartbeats 1000000 in
theorem rshr_any (n x : Nat) (w : World) (hn : n < 2 ^ 256) (hx : x < 2 ^ 256) : Calls Try.prog 33 #[wd n, wd x] w fun e w' => e = .returned (wd (x / 2 ^ upT n 256)) ∧ Below w.heap.size w w' := by
  have hOX := hid (fun w => of_any x w hx)
  have hU := hid (fun w => small_any n 256 w hn (by omega))
  have hk := upT_le n 256
  obtain ⟨k, hk2⟩ : ∃ k, k = upT n 256 := ⟨_, rfl⟩
  rw [← hk2] at hU hk ⊢
  have hP := hid (fun w => power_any k w (by omega))
  have lx := dg_word_len x hx
  have lp := len_pow k
  have hpos : 0 < 2 ^ k := Nat.pow_pos (by omega)
  have lq : (dg (x / 2 ^ k)).length ≤ 65536 := Nat.le_trans (dg_len_mono _ _ (Nat.div_le_self _ _)) (by omega)
  have hlt : x / 2 ^ k < 2 ^ 256 := Nat.lt_of_le_of_lt (Nat.div_le_self _ _) hx
  have hW := hid (fun v w h => wordN_any (x / 2 ^ k) v w h lq)
  rw [Nat.mod_eq_of_lt hlt] at hW
  have hQ := hid (fun va vb w ha hb => quo_any x (2 ^ k) va vb w ha hb (by omega) (by omega) hpos)
  obtain ⟨y, hy⟩ : ∃ y, y = x / 2 ^ k := ⟨_, rfl⟩
  obtain ⟨r, hr⟩ : ∃ r, r = x % 2 ^ k := ⟨_, rfl⟩
  rw [← hy] at hW hQ ⊢
  rw [← hr] at hQ
  obtain ⟨p, hp⟩ : ∃ p, p = 2 ^ k := ⟨_, rfl⟩
  rw [← hp] at hQ hP
  clear hn hk2 hx hy hr hp hpos lq hlt lp lx
  unfold wd at *
  have iN := hid (iW n)
  have iX := hid (iW x)
  have iY := hid (iW y)
  have nY := hid (one_cellsW y)
  have hA0 := hid (show ArrW 24 (((w.alloc (.cells (cellsW n) 24)).alloc (.cells (cellsW x) 24)).alloc (.cells (cellsW 0) 24)) w.heap.size n from ((ArrW.new _ w n).alloc _).alloc _)
  have hB0 := hid (show ArrW 24 (((w.alloc (.cells (cellsW n) 24)).alloc (.cells (cellsW x) 24)).alloc (.cells (cellsW 0) 24)) (w.heap.size + 1) x by
    have := ArrW.new 24 (w.alloc (.cells (cellsW n) 24)) x
    rw [World.size_alloc] at this; exact this.alloc _)
  have hC0 := hid (show ArrW 24 (((w.alloc (.cells (cellsW n) 24)).alloc (.cells (cellsW x) 24)).alloc (.cells (cellsW 0) 24)) (w.heap.size + 2) 0 by
    have := ArrW.new 24 ((w.alloc (.cells (cellsW n) 24)).alloc (.cells (cellsW x) 24)) 0
    rw [World.size_alloc, World.size_alloc] at this; exact this)
  have hb0 : Below w.heap.size w (((w.alloc (.cells (cellsW n) 24)).alloc (.cells (cellsW x) 24)).alloc (.cells (cellsW 0) 24)) := (((Below.refl _ _).alloc (Nat.le_refl _) _).alloc (by simp) _).alloc (by simp; omega) _
  go_enter Try.func33, Try.ntmps33
  go_wp2_with (refine wpList_alloc_new rfl 24 rfl (cellsW 0) zWd ?_; simp only [Act.put, List.setIfInBounds_toArray, List.set_cons_zero, List.set_cons_succ, World.size_alloc])
  ((try simp only [World.size_alloc]); refine wp_region_loose [.kn (.agg (cellsW (x))), .lo (fun v w => RdN w v (x)), .kn (.agg (cellsW (n))), .kn (.int .i64 (k : Int)), .lo (fun v w => RdN w v (p)), .lo (fun v w => ∃ v1 v2, v = .tuple #[v1, v2] ∧ RdN w v1 (y) ∧ RdN w v2 (r)), .lo (fun v w => ∃ v1 v2, v = .tuple #[v1, v2] ∧ RdN w v1 (y) ∧ RdN w v2 (r)), .lo (fun v w => RdN w v (y)), .lo (fun v w => RdN w v (r)), .lo (fun v w => RdN w v (y)), .lo (fun v w => RdN w v (r))] (by kernel_rfl) (by kernel_rfl) (by kernel_rfl) (by first | exact trivial | ((repeat (first | refine keepsAll_kn ?_ | (refine keepsAll_lo (fun v w w' h hb => ?_) ?_; first | exact RdN.below h hb | exact RdL.below h hb | exact RdY.below h hb | (obtain ⟨b, e, h1⟩ := h; exact ⟨b, e, ArrY.below h1 hb (ArrY.lt h1)⟩) | (obtain ⟨v1, v2, e, h1, h2⟩ := h; exact ⟨v1, v2, e, RdN.below h1 hb, RdN.below h2 hb⟩)))); exact trivial)) ?_)
  (refine loose_step_on rfl (fun W' hB' hd K hK => wp_load_block 24 (.tmp 3) rfl (w.heap.size + 1) rfl 24 _ _ (ArrW.below hB0.out hB' (ArrW.lt hB0.out)) uWd rfl iX.out (hK _ _ (Below.refl _ _) rfl)) ?_; rintro _ rfl; simp only [Act.put, List.setIfInBounds_toArray, List.set_cons_zero, List.set_cons_succ])
  (refine loose_step_on rfl (fun W' hB' hd K hK => ?_) ?_; (focus (skip; clear hd; go_simp; refine (hOX.out _).mono ?_; rintro _ _ ⟨v', rfl, hr, hb'⟩; exact hK v' _ hb' hr)); intro v9 _; simp only [Act.put, List.setIfInBounds_toArray, List.set_cons_zero, List.set_cons_succ])
  (refine loose_step_on rfl (fun W' hB' hd K hK => wp_load_block 24 (.tmp 2) rfl w.heap.size rfl 24 _ _ (ArrW.below hA0.out hB' (ArrW.lt hA0.out)) uWd rfl iN.out (hK _ _ (Below.refl _ _) rfl)) ?_; rintro _ rfl; simp only [Act.put, List.setIfInBounds_toArray, List.set_cons_zero, List.set_cons_succ])
  (refine loose_step_on rfl (fun W' hB' hd K hK => ?_) ?_; (focus (skip; clear hd; go_simp; refine (hU.out _).mono ?_; rintro _ _ ⟨rfl, hb'⟩; exact hK _ _ hb' rfl)); rintro _ rfl; simp only [Act.put, List.setIfInBounds_toArray, List.set_cons_zero, List.set_cons_succ])
  (refine loose_step_on rfl (fun W' hB' hd K hK => ?_) ?_; (focus (skip; clear hd; go_simp; refine (hP.out _).mono ?_; rintro _ _ ⟨v', rfl, hr, hb'⟩; exact hK v' _ hb' hr)); intro v12 _; simp only [Act.put, List.setIfInBounds_toArray, List.set_cons_zero, List.set_cons_succ])
  (refine loose_step_on rfl (fun W' hB' hd K hK => ?_) ?_; (focus (have g9 : RdN W' v9 x := hd ⟨1, Ground.data⟩ (by simp) rfl _ 9 rfl rfl (by simp); have g12 : RdN W' v12 p := hd ⟨4, Ground.data⟩ (by simp) rfl _ 12 rfl rfl (by simp); clear hd; go_simp; refine (hQ.out v9 v12 _ g9 g12).mono ?_; rintro _ _ ⟨v1', v2', rfl, hr1, hr2, hb'⟩; exact hK _ _ hb' ⟨v1', v2', rfl, hr1, hr2⟩)); intro v13 _; simp only [Act.put, List.setIfInBounds_toArray, List.set_cons_zero, List.set_cons_succ])
  (refine loose_step_on rfl (fun W' hB' hd K hK => ?_) ?_; (focus (have g13 : ∃ v1 v2, v13 = .tuple #[v1, v2] ∧ RdN W' v1 (y) ∧ RdN W' v2 (r) := hd ⟨5, Ground.data⟩ (by simp) rfl _ 13 rfl rfl (by simp); clear hd; go_simp; exact hK _ _ (Below.refl _ _) g13)); intro v7 _; simp only [Act.put, List.setIfInBounds_toArray, List.set_cons_zero, List.set_cons_succ])
  (refine loose_step_on rfl (fun W' hB' hd K hK => ?_) ?_; (focus (have g7 : ∃ v1 v2, v7 = .tuple #[v1, v2] ∧ RdN W' v1 (y) ∧ RdN W' v2 (r) := hd ⟨6, Ground.data⟩ (by simp) rfl _ 7 rfl rfl (by simp); clear hd; obtain ⟨x1, x2, rfl, h1, h2⟩ := g7; go_simp; exact hK _ _ (Below.refl _ _) h1)); intro v14 _; simp only [Act.put, List.setIfInBounds_toArray, List.set_cons_zero, List.set_cons_succ])
  (refine loose_step_on rfl (fun W' hB' hd K hK => ?_) ?_; (focus (have g7 : ∃ v1 v2, v7 = .tuple #[v1, v2] ∧ RdN W' v1 (y) ∧ RdN W' v2 (r) := hd ⟨6, Ground.data⟩ (by simp) rfl _ 7 rfl rfl (by simp); clear hd; obtain ⟨x1, x2, rfl, h1, h2⟩ := g7; go_simp; exact hK _ _ (Below.refl _ _) h2)); intro v15 _; simp only [Act.put, List.setIfInBounds_toArray, List.set_cons_zero, List.set_cons_succ])
  (refine loose_step_on rfl (fun W' hB' hd K hK => ?_) ?_; (focus (have g14 : RdN W' v14 y := hd ⟨7, Ground.data⟩ (by simp) rfl _ 14 rfl rfl (by simp); clear hd; go_simp; exact hK _ _ (Below.refl _ _) g14)); intro v5 _; simp only [Act.put, List.setIfInBounds_toArray, List.set_cons_zero, List.set_cons_succ])
  (refine loose_step_on rfl (fun W' hB' hd K hK => ?_) ?_; (focus (have g15 : RdN W' v15 r := hd ⟨8, Ground.data⟩ (by simp) rfl _ 15 rfl rfl (by simp); clear hd; go_simp; exact hK _ _ (Below.refl _ _) g15)); intro v6 _; simp only [Act.put, List.setIfInBounds_toArray, List.set_cons_zero, List.set_cons_succ])
  intro w6 hb6 hf
  have g5 : RdN w6 v5 y := hf 9 _ 5 (by first | omega | simp) rfl rfl (by simp)
  clear hf
  have hC6 := hid (hC0.out.below hb6 hC0.out.lt)
  have hb7 := hb0.trans (hb6.mono hb0.size)
  clear hA0 hB0 hC0 hb0 hb6
  go_wp2_with fail
  refine (hW.out _ _ g5).mono ?_
  rintro e w8 ⟨rfl, hb8⟩
  have hC8 := hid (hC6.out.below hb8 hC6.out.lt)
  go_wp2_with (refine wpList_store_row rfl 24 (.tmp 4) (.tmp 17) rfl (w.heap.size + 2) _ rfl rfl 24 _ hC8.out iY.out rfl nY.out ?_; simp only [Act.put])
  refine bodyPost_ret (results_cell_row rfl _ _ (w.heap.size + 2) 24 (cellsW y) (0, 0) _ rfl (heap_setRow' _ _ _ _ _ hC8.out) uWd rfl iY.out) rfl ⟨rfl, below_setRow' (hb7.trans (hb8.mono hb7.size)) _ (by omega) _⟩
end Go.Proofs.Ytfidbiabgmioaaa
