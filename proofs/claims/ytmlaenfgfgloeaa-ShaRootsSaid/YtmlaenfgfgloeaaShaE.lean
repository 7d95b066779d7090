import Derived.Test.YtmlaenfgfgloeaaShaD
/-! sha: nil hashers; Sum. -/
set_option maxRecDepth 4000
set_option linter.unusedVariables false
set_option linter.unusedSimpArgs false
namespace Go.Proofs.Ytmlaenfgfgloeaa
open Go.RowKit

theorem shnil_any (w : World) : Calls Try.prog 26 #[.pointer none] w fun e w' => e = .returned (.agg (cellsY (zY 64))) ∧ Below w.heap.size w w' := by
  have iZ := hid (show (Try.prog.info? 38).map (·.size) = some (cellsY (zY 64)).size from i64h)
  have hZ := hid (ArrY.new 38 w (zY 64))
  have hb : Below w.heap.size w (w.alloc (.cells (cellsY (zY 64)) 38)) := (Below.refl _ _).alloc (Nat.le_refl _) _
  go_enter Try.func26, Try.ntmps26
  go_wp2_with (first | (refine wpList_alloc_new rfl 38 rfl (cellsY (zY 64)) zi64 ?_; simp only [Act.put, List.setIfInBounds_toArray, List.set_cons_zero, List.set_cons_succ]) | (refine wpList_load_row rfl 38 (.tmp 2) rfl w.heap.size rfl 38 _ (0, 0) _ hZ.out u64h rfl iZ.out ?_; simp only [Act.put, List.setIfInBounds_toArray, List.set_cons_zero, List.set_cons_succ]) | (refine wpList_store_row rfl 38 (.tmp 2) (.tmp 11) rfl w.heap.size _ rfl rfl 38 _ hZ.out iZ.out rfl (one_cellsY (zY 64)) ?_; simp only [Act.put]))
  refine bodyPost_ret (results_cell_row rfl _ _ w.heap.size 38 (cellsY (zY 64)) (0, 0) _ rfl (heap_setRow _ _ _ _ _ hZ.out) u64h rfl iZ.out) rfl ⟨rfl, below_setRow hb _ (Nat.le_refl _) _⟩
theorem swnil_any (v : Value) (w : World) : Calls Try.prog 25 #[.pointer none, v] w fun e w' => e = .returned (.tuple #[]) ∧ Below w.heap.size w w' := by
  go_enter Try.func25, Try.ntmps25
  go_wp2
  refine bodyPost_ret (results_none rfl _ _ _) rfl ⟨rfl, (by repeat (first | (with_reducible first | exact Below.refl _ _ | assumption | refine World.ext_below_of ?_ ?_ _ | refine Below.setCell ?_ ?_ _ | refine Below.alloc ?_ ?_ _ | refine Below.drew ?_ | refine World.size_le_ext _ _ _ ?_) | (solve | simp [go_sem] | (simp [go_sem]; omega) | omega)))⟩

/-- A new hasher stands at the begin of whatever text. -/
theorem AtS.zero {w : World} {b : Nat} (h : HasS w b shaH zero128 0 0) (T : List (BitVec 8)) : AtS w b shaH T 0 0 :=
  ⟨zero128, by simp [zero128], h, by simp⟩
theorem shaL_def (m : List (BitVec 8)) : outS (absS shaH (padS m) ((padS m).length / 128)) 64 = shaL m := rfl

set_option maxHeartbeats 1000000 in
theorem ssum_any (m : List (BitVec 8)) (v : Value) (w : World) (hr : RdY w v m) (hl : m.length ≤ 140737488351232) :
    Calls Try.prog 18 #[v] w fun e w' => e = .returned (.agg (cellsY (shaL m))) ∧ Below w.heap.size w w' := by
  have hlo := shaL_len m
  have iO := hid (show (Try.prog.info? 38).map (·.size) = some (cellsY (shaL m)).size by rw [size_cellsY, hlo]; exact i64h)
  have zO := hid (show (cellsY (zY 64)).size = (cellsY (shaL m)).size by rw [size_cellsY, size_cellsY, hlo, zY_len])
  have nO := hid (one_cellsY (shaL m))
  have HR := hid hr
  obtain ⟨y2, hy2⟩ : ∃ y2, y2 = shaL m := ⟨_, rfl⟩
  rw [← hy2] at iO zO nO
  have HY2 := hid hy2
  clear hlo hy2
  have hb0 : Below w.heap.size w (w.alloc (.cells (cellsY (zY 64)) 38)) := (Below.refl _ _).alloc (Nat.le_refl _) _
  have HRB : Hid (∀ b off n c, v = .slice (some ⟨b, off, none⟩) n c → 0 < n → b < w.heap.size) := hid (by
    obtain ⟨a, cap, rfl, hc, h⟩ := hr
    intro b off n c e h0
    simp at e
    obtain ⟨rfl, rfl, rfl⟩ := e
    obtain ⟨b', off', e2, h3, _⟩ := h (by intro e; subst e; simp at h0)
    simp at e2
    rw [e2.1]; exact h3)
  clear hr
  go_enter Try.func18, Try.ntmps18
  go_wp2_with (first | (refine wpList_alloc_new rfl 38 rfl (cellsY (zY 64)) zi64 ?_; simp only [Act.put, List.setIfInBounds_toArray, List.set_cons_zero, List.set_cons_succ]))
  refine (snew_any _).mono ?_
  rintro e w1 ⟨hb, rfl, hbs, hH1', hb1⟩
  rw [World.size_alloc] at hbs
  have hH1 := hid hH1'
  clear hH1'
  go_wp2_with fail
  refine (swrite_any hb shaH m 0 0 v w1 rfl (Nat.zero_le _) (AtS.zero hH1.out m) (by rw [List.drop_zero]; exact RdX.of ((HR.out.below hb0).below hb1) (fun b off n c e h0 => by have := HRB.out b off n c e h0; omega)) (by omega)).mono ?_
  rintro e w2 ⟨rfl, hH2, hg2⟩
  rw [Nat.sub_zero, show (0 : BitVec 64) + BitVec.ofNat 64 m.length = BitVec.ofNat 64 m.length from by simp] at hH2
  have hH3 := hid hH2
  clear hH2
  go_wp2_with fail
  refine (shsum_any hb shaH m _ rfl hH3.out hl).mono ?_
  rintro e w3 ⟨rfl, hb3⟩
  have hZ1 : ArrY 38 w1 w.heap.size (zY 64) := (ArrY.new 38 w (zY 64)).below hb1 (by simp)
  have hZ2 : ArrY 38 w2 w.heap.size (zY 64) := (hg2.block _ hZ1.lt (by simp; omega)).trans hZ1
  have hZ3 : Hid (ArrY 38 w3 w.heap.size (zY 64)) := hid (hZ2.below hb3 hZ2.lt)
  have hb4 : Below w.heap.size w w3 := ((hb0.trans (hb1.mono (by simp))).grown hg2 (by have := hb1.size; simp at this; omega) (fun k e => by simp at e; omega)).trans (hb3.mono (by have := hg2.size; have := hb1.size; simp at this; omega))
  rw [shaL_def, ← HY2.out]
  go_wp2_with (refine wpList_store_row rfl 38 (.tmp 2) (.tmp 9) rfl w.heap.size _ rfl rfl 38 _ hZ3.out iO.out zO.out nO.out ?_; simp only [Act.put])
  refine bodyPost_ret (results_cell_row rfl _ _ w.heap.size 38 (cellsY y2) (0, 0) _ rfl (heap_setRow _ _ _ _ _ hZ3.out) u64h rfl iO.out) rfl ⟨by rw [HY2.out], below_setRow hb4 _ (Nat.le_refl _) _⟩
end Go.Proofs.Ytmlaenfgfgloeaa
