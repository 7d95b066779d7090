import Derived.Test.YtmlaenfgfgloeaaShaZ
import Derived.Test.YtmlaenfgfgloeaaKecAl
/-! conclavelaw03.alive: the walk. -/
set_option maxRecDepth 4000
set_option linter.unusedVariables false
set_option linter.unusedSimpArgs false
namespace Go.Proofs.Ytmlaenfgfgloeaa
open Go.RowKit Go.Shelf

set_option maxRecDepth 20000 in
set_option maxHeartbeats 1000000 in
theorem salive_any (w : World) : Calls Try.prog 20 #[] w fun e w' => e = .returned (.bool true) ∧ Below w.heap.size w w' := by
  have hv := sha_abc
  simp only [Bool.and_eq_true, beq_iff_eq] at hv
  rw [← sha_one abcS (by decide +kernel)] at hv
  have hl1 := shaL_len abcS
  obtain ⟨y1, hy1⟩ : ∃ y1, y1 = shaL abcS := ⟨_, rfl⟩
  rw [← hy1] at hv hl1
  have HY1 := hid hy1
  obtain ⟨⟨⟨v1, v2⟩, v3⟩, v4⟩ := hv
  have i1 := hid (show (Try.prog.info? 38).map (·.size) = some (cellsY y1).size by rw [size_cellsY, hl1]; exact i64h)
  have z1 := hid (show (cellsY (zY 64)).size = (cellsY y1).size by rw [size_cellsY, size_cellsY, hl1, zY_len])
  have HL1 := hid hl1
  have V1 := hid v1
  have V2 := hid v2
  have V3 := hid v3
  have V4 := hid v4
  clear hy1 hl1 v1 v2 v3 v4
  have hcv := cvB w
  have hk : Hid (∀ w : World, Calls Try.prog 21 #[.int .i64 0] w fun e w' => e = .returned (.int .u64 4794697086780616226) ∧ Below w.heap.size w w') := hid (fun w => K_any 0 (by decide) w)
  have hh : Hid (∀ w : World, Calls Try.prog 22 #[.int .i64 0] w fun e w' => e = .returned (.int .u64 7640891576956012808) ∧ Below w.heap.size w w') := hid (fun w => H_any 0 (by decide) w)
  go_enter Try.func20, Try.ntmps20
  go_wp2_with fail
  refine (ssum_any abcS _ _ ⟨_, 3, rfl, Nat.le_refl _, fun _ => ⟨_, 0, rfl, (Array.getElem?_eq_some_iff.1 (heap_abc w)).1, fun j hj => ?_⟩⟩ (by simp [abcS])).mono ?_
  · rw [Nat.zero_add]
    have h1 : ((w.alloc (.cells abcV 5)).freeze ⟨w.heap.size, 3, none⟩ 1).cell? ⟨w.heap.size, j, none⟩ = abcV[j]? := cell_of_row _ _ _ _ _ _ (heap_abc w)
    rw [h1]
    match j, hj with
    | 0, _ => rfl
    | 1, _ => rfl
    | 2, _ => rfl
  rintro e w2 ⟨rfl, hb2⟩
  have hbf : Below w.heap.size w ((w.alloc (.cells abcV 5)).freeze ⟨w.heap.size, 3, none⟩ 1) := Lib.below_freeze ((Below.refl _ w).alloc (Nat.le_refl _) _) (Nat.le_refl _) 1
  have hbb : Below w.heap.size w w2 := hbf.trans (hb2.mono hbf.size)
  rw [← HY1.out]
  clear hbf hb2 hcv
  have hA : ArrY 38 (w2.alloc (.cells (cellsY y1) 38)) w2.heap.size y1 := ArrY.new _ _ _
  have c1 := hA.cell 0 (by rw [HL1.out]; decide)
  have c2 := hA.cell 1 (by rw [HL1.out]; decide)
  have c3 := hA.cell 62 (by rw [HL1.out]; decide)
  have c4 := hA.cell 63 (by rw [HL1.out]; decide)
  rw [V1.out, show yv 0xdd#8 = 221 from rfl] at c1
  rw [V2.out, show yv 0xaf#8 = 175 from rfl] at c2
  rw [V3.out, show yv 0xa4#8 = 164 from rfl] at c3
  rw [V4.out, show yv 0x9f#8 = 159 from rfl] at c4
  have hb3 := hbb.alloc hbb.size (.cells (cellsY y1) 38)
  have l1 := hA.lt
  clear hA
  obtain ⟨w3, hw3⟩ : ∃ w3, w3 = w2.alloc (.cells (cellsY y1) 38) := ⟨_, rfl⟩
  rw [← hw3] at c1 c2 c3 c4 hb3 l1
  have HW3 := hid hw3
  clear hw3
  go_wp2_with (first | ((refine wpList_allocStore 38 4 1 (cellsY y1) (cellsY (zY 64)) rfl rfl rfl rfl rfl rfl (by decide) (by simp) rfl (by kernel_rfl) z1.out i1.out (one_cellsY y1) ?_; simp only [Act.put, List.setIfInBounds_toArray, List.set_cons_zero, List.set_cons_succ]); rw [← HW3.out]) | (go_at_call 21; (with_reducible refine (Calls.asExt (hk.out _)).mono ?_); rintro _ _ ⟨rfl, _, rfl⟩) | (go_at_call 22; (with_reducible refine (Calls.asExt (hh.out _)).mono ?_); rintro _ _ ⟨rfl, _, rfl⟩))
  go_ret
  exact ⟨rfl, World.ext_below_of (World.ext_below_of hb3 hb3.size _) (Nat.le_trans hb3.size (World.size_ext _ _)) _⟩
end Go.Proofs.Ytmlaenfgfgloeaa
