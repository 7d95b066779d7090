import Derived.Test.YtmlaenfgfgloeaaKecZ
import Derived.Lib.UnsafeStr
/-! conclavelaw02.alive: the walk. -/
set_option maxRecDepth 4000
set_option linter.unusedVariables false
set_option linter.unusedSimpArgs false
namespace Go.Proofs.Ytmlaenfgfgloeaa
open Go.RowKit Go.Shelf

theorem index_arrB (p : List (BitVec 64)) (hp : p.length = 25) (w : World) : (Instr.index 23 (.agg (cellsB p)) (.int .i64 0)).run Try.prog w = .ok (.int .u64 (iv (nb p 0))) w := by
  have := run_index_ints (k' := .i64) (P := Try.prog) uArr25 iU cU uU (p.map iv) (by simpa using hp) 0 (by omega) (by omega) w
  rw [show (cellsB p) = ((p.map iv).map (Value.int .u64)).toArray from by simp [cellsB]]
  rw [this]
  match p, hp with
  | x :: _, _ => rfl
def abcV : Array Value := #[.int .u8 97, .int .u8 98, .int .u8 99]
theorem heap_freeze {w : World} {b : Nat} {cs : Array Value} {t : TypeId} (h : w.heap[b]? = some (.cells cs t (0, 0))) (o : Nat) : (w.freeze ⟨b, o, none⟩ 1).heap[b]? = some (.cells cs t (o, o + 1)) := by
  unfold World.freeze
  rw [if_neg (by omega)]
  show (w.heap.modify _ _)[b]? = _
  rw [Array.getElem?_modify, if_pos rfl, h]
  rfl
theorem run_mark {P : Program} {w : World} {b : Nat} {cs : Array Value} {t : TypeId} (h : w.heap[b]? = some (.cells cs t (0, 0))) : (markStringish ⟨b, 0, none⟩).run P w = .ok () (w.freeze ⟨b, cs.size, none⟩ 1) := by
  simp [markStringish, World.shape?, h]
theorem heap_abc (w : World) : ((w.alloc (.cells abcV 5)).freeze ⟨w.heap.size, 3, none⟩ 1).heap[w.heap.size]? = some (.cells abcV 5 (3, 4)) := heap_freeze (World.alloc_heap_new w _) 3
theorem uY1 : Try.prog.underlying 5 = some (.int .u8) := by kernel_rfl
theorem cvB (w : World) : (convert 27 27 (Value.slice (some ⟨w.heap.size, 0, none⟩) 3 3)).run Try.prog (w.alloc (.cells #[.int .u8 97, .int .u8 98, .int .u8 99] 5)) = .ok (Value.slice (some ⟨w.heap.size, 0, none⟩) 3 3) ((w.alloc (.cells abcV 5)).freeze ⟨w.heap.size, 3, none⟩ 1) := by
  have h := World.alloc_heap_new w (.cells #[.int .u8 97, .int .u8 98, .int .u8 99] 5)
  have hm := run_mark (P := Try.prog) h
  simp [convert, run_underlying uSY, run_underlying uY1, hm, abcV]
set_option maxRecDepth 20000 in
set_option maxHeartbeats 1000000 in
theorem kalive_any (w : World) : Calls Try.prog 12 #[] w fun e w' => e = .returned (.bool true) ∧ Below w.heap.size w w' := by
  go_enter Try.func12, Try.ntmps12
  go_wp2_with fail
  refine (sum_any [] _ _ (RdY.nil _ _ _) (by simp)).mono ?_
  rintro e w1 ⟨rfl, hb1⟩
  obtain ⟨y1, hy1⟩ : ∃ y1, y1 = sumL [] := ⟨_, rfl⟩
  rw [← hy1]
  have HY1 := hid hy1
  clear hy1
  have hcv := cvB w1
  go_wp2_with fail
  refine (sum_any abc _ _ ⟨_, 3, rfl, Nat.le_refl _, fun _ => ⟨_, 0, rfl, (Array.getElem?_eq_some_iff.1 (heap_abc w1)).1, fun j hj => ?_⟩⟩ (by simp [abc])).mono ?_
  · rw [Nat.zero_add]
    have h1 : ((w1.alloc (.cells abcV 5)).freeze ⟨w1.heap.size, 3, none⟩ 1).cell? ⟨w1.heap.size, j, none⟩ = abcV[j]? := cell_of_row _ _ _ _ _ _ (heap_abc w1)
    rw [h1]
    match j, hj with
    | 0, _ => rfl
    | 1, _ => rfl
    | 2, _ => rfl
  rintro e w2 ⟨rfl, hb2⟩
  obtain ⟨y2, hy2⟩ : ∃ y2, y2 = sumL abc := ⟨_, rfl⟩
  rw [← hy2]
  have HY2 := hid hy2
  clear hy2 hcv
  have hbf : Below w.heap.size w ((w1.alloc (.cells abcV 5)).freeze ⟨w1.heap.size, 3, none⟩ 1)   := Lib.below_freeze (hb1.alloc hb1.size _) hb1.size 1
  have hbb : Below w.heap.size w w2 := hbf.trans (hb2.mono hbf.size)
  clear hbf
  clear hb1 hb2
  have l1 : y1.length = 32 := by rw [HY1.out, sumL_len]
  have l2 : y2.length = 32 := by rw [HY2.out, sumL_len]
  have i1 := hid (show (Try.prog.info? 29).map (·.size) = some (cellsY y1).size by rw [size_cellsY, l1]; exact iHash)
  have i2 := hid (show (Try.prog.info? 29).map (·.size) = some (cellsY y2).size by rw [size_cellsY, l2]; exact iHash)
  have z1 := hid (show (cellsY zero32).size = (cellsY y1).size by rw [size_cellsY, size_cellsY, l1]; rfl)
  have z2 := hid (show (cellsY zero32).size = (cellsY y2).size by rw [size_cellsY, size_cellsY, l2]; rfl)
  have hA : ((w2.alloc (.cells (cellsY zero32) 29)).alloc (.cells (cellsY zero32) 29)).heap[w2.heap.size]? = some (.cells (cellsY zero32) 29 (0, 0)) := (ArrY.new _ _ _).alloc _
  have hB : ((w2.alloc (.cells (cellsY zero32) 29)).alloc (.cells (cellsY zero32) 29)).heap[w2.heap.size + 1]? = some (.cells (cellsY zero32) 29 (0, 0)) := by
    have := World.alloc_heap_new (w2.alloc (.cells (cellsY zero32) 29)) (.cells (cellsY zero32) 29)
    rw [World.size_alloc] at this; exact this
  have HA := hid hA
  have HB := hid hB
  clear hA hB
  obtain ⟨w3, hw3⟩ : ∃ w3, w3 = (((w2.alloc (.cells (cellsY zero32) 29)).alloc (.cells (cellsY zero32) 29)).setRow w2.heap.size (cellsY y1)).setRow (w2.heap.size + 1) (cellsY y2) := ⟨_, rfl⟩
  have h3A : ArrY 29 w3 w2.heap.size y1 := by
    show w3.heap[w2.heap.size]? = _
    rw [hw3, setRow_other' _ _ _ _ (by omega)]; exact heap_setRow _ _ _ _ _ HA.out
  have h3B : ArrY 29 w3 (w2.heap.size + 1) y2 := by
    show w3.heap[w2.heap.size + 1]? = _
    rw [hw3]; exact heap_setRow _ _ _ _ _ ((setRow_other' _ _ _ _ (by omega)).trans HB.out)
  have hb3 : Below w.heap.size w w3 := by
    rw [hw3]; exact below_setRow (below_setRow ((hbb.alloc hbb.size _).alloc (by simp; have := hbb.size; omega) _) _ hbb.size _) _ (by have := hbb.size; omega) _
  have HW3 := hid hw3
  clear hw3 hbb
  have c1 := h3A.cell 0 (by omega)
  have c2 := h3A.cell 1 (by omega)
  have c3 := h3A.cell 31 (by omega)
  have d1 := h3B.cell 0 (by omega)
  have d2 := h3B.cell 31 (by omega)
  have e1 : yv (ny y1 0) = 197 := by rw [HY1.out, sum_nil]; rfl
  have e2 : yv (ny y1 1) = 210 := by rw [HY1.out, sum_nil]; rfl
  have e3 : yv (ny y1 31) = 112 := by rw [HY1.out, sum_nil]; rfl
  have e4 : yv (ny y2 0) = 78 := by rw [HY2.out, sum_abc]; rfl
  have e5 : yv (ny y2 31) = 69 := by rw [HY2.out, sum_abc]; rfl
  rw [e1] at c1
  rw [e2] at c2
  rw [e3] at c3
  rw [e4] at d1
  rw [e5] at d2
  clear e1 e2 e3 e4 e5 h3A h3B l1 l2
  go_wp2_with (first | (refine wpList_alloc_new rfl 29 rfl (cellsY zero32) zInfo32 ?_; simp only [Act.put, List.setIfInBounds_toArray, List.set_cons_zero, List.set_cons_succ, World.size_alloc]) | (refine wpList_store_row rfl 29 (.tmp 1) (.tmp 3) rfl w2.heap.size _ rfl rfl 29 _ HA.out i1.out z1.out (one_cellsY y1) ?_; simp only [Act.put]; refine wpList_store_row rfl 29 (.tmp 2) (.tmp 6) rfl (w2.heap.size + 1) _ rfl rfl 29 _ ((setRow_other' _ _ _ _ (by omega)).trans HB.out) i2.out z2.out (one_cellsY y2) ?_; simp only [Act.put]; rw [← HW3.out]))
  have hp := permute_any zero25 w3 (by simp [zero25])
  refine hp.mono ?_
  rintro e w4 ⟨rfl, hb4⟩
  have hix : (Instr.index 23 (.agg (cellsB (permL zero25))) (.int .i64 0)).run Try.prog w4 = .ok (.int .u64 17376452488221285863) w4 := by
    rw [index_arrB _ (by rw [permL_len]; simp [zero25]), perm_zero]; rfl
  generalize cellsB (permL zero25) = cp at hix ⊢
  have hb5 := hb3.trans (hb4.mono hb3.size)
  go_wp2
  go_ret
  exact ⟨rfl, hb5⟩
end Go.Proofs.Ytmlaenfgfgloeaa
