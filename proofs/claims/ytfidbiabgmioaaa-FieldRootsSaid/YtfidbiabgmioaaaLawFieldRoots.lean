import Derived.Test.YtfidbiabgmioaaaFldAl
import Derived.Test.YtfidbiabgmioaaaGfN
import Derived.Test.YtfidbiabgmioaaaWArg
/-! FieldRoots. -/
set_option maxRecDepth 4000
set_option linter.unusedVariables false
set_option linter.unusedSimpArgs false
namespace Go.Proofs.Ytfidbiabgmioaaa
open Go.RowKit

theorem sqX_lt (a : Nat) : sqX a < 2 ^ 256 := by
  unfold sqX
  have h := sq1_lt a
  have h2 := pN_lt
  split
  · split <;> omega
  · exact Nat.pow_pos (by omega)
set_option maxRecDepth 20000 in
set_option maxHeartbeats 8000000 in
theorem walk_FieldRoots (w : World) (x0 : List Int) (lx : x0.length = 4) (wx : ∀ y ∈ x0, (Lit.int .u64 y).wf = true) :
    Calls Try.prog 3 #[.agg (x0.map (Value.int .u64)).toArray] w fun e w' => e = .returned (.bool true) ∧ Below w.heap.size w w' := by
  obtain ⟨x, hx, ea⟩ := word_arg x0 lx wx
  rw [ea]
  have s1 := hid fun w => fsqrt_any x w hx
  have s2 := hid fun w => rfsqrt_any x w hx
  have v1 := hid fun w => finv_any x w hx
  have v2 := hid fun w => rfinv_any x w hx
  have q1 := eq_self (powP x (pN - 2)) (powP_lt _ _)
  have q2 := eq_self (sqX x) (sqX_lt x)
  obtain ⟨y, hy⟩ : ∃ y, y = powP x (pN - 2) := ⟨_, rfl⟩
  obtain ⟨r, hr⟩ : ∃ r, r = sqX x := ⟨_, rfl⟩
  obtain ⟨ok, hok⟩ : ∃ ok, ok = sqOk x := ⟨_, rfl⟩
  rw [← hr, ← hok] at s1 s2
  rw [← hy] at v1 v2 q1
  rw [← hr] at q2
  clear hy hr hok
  clear ea lx wx x0 hx
  cases ok
  all_goals
    unfold wd at *
    have iX := hid (iW x)
    have iR := hid (iW r)
    have nR := hid (one_cellsW r)
    have hA0 := hid (ArrW.new 24 w x)
    have hb0 : Below w.heap.size w (w.alloc (.cells (cellsW x) 24)) := (Below.refl _ _).alloc (Nat.le_refl _) _
    go_enter Try.func3, Try.ntmps3
    go_wp2_with (refine wpList_load_row rfl 24 (.tmp 1) rfl w.heap.size rfl 24 _ (0, 0) _ hA0.out uWd rfl iX.out ?_; simp only [Act.put, List.setIfInBounds_toArray, List.set_cons_zero, List.set_cons_succ])
    refine (s1.out _).mono ?_
    rintro e w1 ⟨rfl, hb1⟩
    have hA1 := hid ((hA0.out.step hb1).alloc (.cells (cellsW r) 24))
    have hR1 := hid (ArrW.new 24 w1 r)
    have hb2 := hb0.trans (hb1.mono hb0.size)
    have hb3 := hb2.alloc hb2.size (.cells (cellsW r) 24)
    obtain ⟨G, hG⟩ : ∃ G, G = w1.heap.size := ⟨_, rfl⟩
    clear hA0 hb0 hb1
    go_wp2_with (first | (refine wpList_allocStore 24 10 3 (cellsW r) (cellsW 0) rfl rfl rfl rfl rfl rfl (by decide) (by simp) rfl (by kernel_rfl) (by rw [size_cellsW, size_cellsW]) iR.out nR.out ?_; simp only [Act.put, List.setIfInBounds_toArray, List.set_cons_zero, List.set_cons_succ]) | (refine wpList_load_row rfl 24 (.tmp 1) rfl w.heap.size rfl 24 _ (0, 0) _ hA1.out uWd rfl iX.out ?_; simp only [Act.put, List.setIfInBounds_toArray, List.set_cons_zero, List.set_cons_succ]))
    rw [← hG] at hR1 ⊢
    generalize w1.alloc (.cells (cellsW r) 24) = w2 at hA1 hR1 hb3 ⊢
    clear hG hb2
    refine (s2.out _).mono ?_
    rintro e w3 ⟨rfl, hb4⟩
    have hA3 := hid ((hA1.out.step hb4).alloc (.cells (cellsW r) 24))
    have hR3 := hid ((hR1.out.step hb4).alloc (.cells (cellsW r) 24))
    have hS3 := hid (ArrW.new 24 w3 r)
    have hb5 := hb3.trans (hb4.mono hb3.size)
    have hb6 := hb5.alloc hb5.size (.cells (cellsW r) 24)
    obtain ⟨H, hH⟩ : ∃ H, H = w3.heap.size := ⟨_, rfl⟩
    clear hA1 hR1 hb3 hb4
    go_wp2_with (refine wpList_allocStore 24 15 5 (cellsW r) (cellsW 0) rfl rfl rfl rfl rfl rfl (by decide) (by simp) rfl (by kernel_rfl) (by rw [size_cellsW, size_cellsW]) iR.out nR.out ?_; simp only [Act.put, List.setIfInBounds_toArray, List.set_cons_zero, List.set_cons_succ])
    rw [← hH] at hS3 ⊢
    generalize w3.alloc (.cells (cellsW r) 24) = w4 at hA3 hR3 hS3 hb6 ⊢
    clear hH hb5
    ((try simp only [World.size_alloc]); refine wp_region_ext (by kernel_rfl) (by kernel_rfl) ?_; (try simp only [List.append_eq, List.cons_append, List.nil_append]); (repeat (first | (refine wpQuiet_load_want 24 (.tmp 1) rfl w.heap.size rfl 24 (cellsW _) _ hA3.out uWd rfl iX.out rfl ?_; simp only [Act.put, List.setIfInBounds_toArray, List.set_cons_zero, List.set_cons_succ]) | (refine wpQuiet_load_want 24 (.tmp 3) rfl G rfl 24 (cellsW _) _ hR3.out uWd rfl iR.out rfl ?_; simp only [Act.put, List.setIfInBounds_toArray, List.set_cons_zero, List.set_cons_succ]) | (refine wpQuiet_load_want 24 (.tmp 5) rfl H rfl 24 (cellsW _) _ hS3.out uWd rfl iR.out rfl ?_; simp only [Act.put, List.setIfInBounds_toArray, List.set_cons_zero, List.set_cons_succ]) | go_big_quiet_step (first | (go_at_call 17; with_reducible refine Calls.ext_of (v1.out _)) | (go_at_call 18; with_reducible refine Calls.ext_of (v2.out _)) | (go_at_call 19; with_reducible refine Calls.ext_of (f4alive_any _))))); refine wpQuiet_nil ?_; rintro _ ⟨xw, rfl⟩)
    go_wp2
    all_goals
      go_ret
      exact ⟨rfl, World.ext_below_of hb6 hb6.size _⟩
end Go.Proofs.Ytfidbiabgmioaaa
