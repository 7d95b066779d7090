import Derived.Test.YtblnjnhneliffaaLawW
/-! WordBits. -/
set_option linter.unusedVariables false
set_option linter.unusedSimpArgs false
namespace Go.Proofs.Ytblnjnhneliffaa
open Go.RowKit

theorem index_wd (x i : Nat) (hi : i < 4) (w : World) : (Instr.index 24 (.agg (cellsW x)) (.int .i64 (i : Int))).run Try.prog w = .ok (.int .u64 (lm x i)) w := by
  have := run_index_ints (P := Try.prog) (t := 24) (k := .u64) (k' := .i64) uWd (by kernel_rfl) (by kernel_rfl) (by kernel_rfl) [lm x 0, lm x 1, lm x 2, lm x 3] rfl (i : Int) (by omega) (by omega) w
  have hc : i = 0 ∨ i = 1 ∨ i = 2 ∨ i = 3 := by omega
  rcases hc with rfl | rfl | rfl | rfl <;> exact this

set_option maxRecDepth 20000 in
set_option maxHeartbeats 8000000 in
theorem walk_WordBits (w : World) (x0 : List Int) (lx : x0.length = 4) (wx : ∀ y ∈ x0, (Lit.int .u64 y).wf = true) (x' : List Int) (lx' : x'.length = 4) (wx' : ∀ y ∈ x', (Lit.int .u64 y).wf = true)
    (x'' : List Int) (lx'' : x''.length = 4) (wx'' : ∀ y ∈ x'', (Lit.int .u64 y).wf = true) :
    Calls Try.prog 3 #[.agg (x0.map (Value.int .u64)).toArray, .agg (x'.map (Value.int .u64)).toArray, .agg (x''.map (Value.int .u64)).toArray] w fun e w' => e = .returned (.bool true) ∧ Below w.heap.size w w' := by
  obtain ⟨k, hk, ea⟩ := word_arg x0 lx wx
  obtain ⟨x, hx, eb⟩ := word_arg x' lx' wx'
  obtain ⟨y, hy, ec⟩ := word_arg x'' lx'' wx''
  rw [ea, eb, ec]
  clear ea eb ec lx wx lx' wx' lx'' wx'' x0 x' x''
  have n1 := hid fun w => wand_any x y w
  have n2 := hid fun w => wor_any x y w
  have n3 := hid fun w => wxor_any x y w
  have n4 := hid fun w => wnot_any x w hx
  have h1 := hid fun w => wbyte_any k x w hk
  have h2 := hid fun w => rbyte_any k x w hk hx
  have h3 := hid fun w => wshl_any k x w hk hx
  have h4 := hid fun w => rshl_any k x w hk hx
  have h5 := hid fun w => wshr_any k x w hk hx
  have h6 := hid fun w => rshr_any k x w hk hx
  have h7 := hid fun w => wsar_any k x w hk hx
  have h8 := hid fun w => rsar_any k x w hk hx
  have h9 := hid fun w => wsext_any k x w hk hx
  have h10 := hid fun w => rsext_any k x w hk hx
  have q1 := eq_self (byteW k x) (Nat.lt_trans (byteW_lt _ _) (by decide))
  have q2 := eq_self (x * 2 ^ upT k 256 % 2 ^ 256) (Nat.mod_lt _ (by decide))
  have q3 := eq_self (x / 2 ^ upT k 256) (Nat.lt_of_le_of_lt (Nat.div_le_self _ _) hx)
  have q4 := eq_self (sarW x (upT k 256)) (sarW_lt _ _ hx)
  have q5 := eq_self (sexW k x) (sexW_lt _ _)
  have hnot := hid (fun i hi => lm_not x i hx hi)
  clear hk hx hy
  generalize x * 2 ^ upT k 256 % 2 ^ 256 = s2 at *
  generalize x / 2 ^ upT k 256 = s3 at *
  generalize sarW x (upT k 256) = s4 at *
  generalize sexW k x = s5 at *
  generalize byteW k x = s1 at *
  unfold wd at *
  have iA := hid (iW k)
  have iB := hid (iW x)
  have iC := hid (iW y)
  have hA := hid (show ArrW 24 (((w.alloc (.cells (cellsW k) 24)).alloc (.cells (cellsW x) 24)).alloc (.cells (cellsW y) 24)) w.heap.size k from ((ArrW.new _ w k).alloc _).alloc _)
  have hB := hid (show ArrW 24 (((w.alloc (.cells (cellsW k) 24)).alloc (.cells (cellsW x) 24)).alloc (.cells (cellsW y) 24)) (w.heap.size + 1) x by
    have := ArrW.new 24 (w.alloc (.cells (cellsW k) 24)) x
    rw [World.size_alloc] at this; exact this.alloc _)
  have hC := hid (show ArrW 24 (((w.alloc (.cells (cellsW k) 24)).alloc (.cells (cellsW x) 24)).alloc (.cells (cellsW y) 24)) (w.heap.size + 2) y by
    have := ArrW.new 24 ((w.alloc (.cells (cellsW k) 24)).alloc (.cells (cellsW x) 24)) y
    rw [World.size_alloc, World.size_alloc] at this; exact this)
  have hb0 : Below w.heap.size w (((w.alloc (.cells (cellsW k) 24)).alloc (.cells (cellsW x) 24)).alloc (.cells (cellsW y) 24)) := (((Below.refl _ _).alloc (Nat.le_refl _) _).alloc (by simp) _).alloc (by simp; omega) _
  go_enter Try.func3, Try.ntmps3
  go_wp2_with fail
  generalize ((w.alloc (.cells (cellsW k) 24)).alloc (.cells (cellsW x) 24)).alloc (.cells (cellsW y) 24) = w1 at hA hB hC hb0 ⊢
  go_loopw [7] (fun iv wr => ∃ i : Nat, i ≤ 4 ∧ iv = .int .i64 (i : Int) ∧ Hid (ArrW 24 wr w.heap.size k) ∧ Hid (ArrW 24 wr (w.heap.size + 1) x) ∧ Hid (ArrW 24 wr (w.heap.size + 2) y) ∧ Below w.heap.size w wr)
    (fun iv _ => 4 - (intOf iv).toNat)
  case atStart => exact ⟨0, by omega, rfl, hA, hB, hC, hb0⟩
  case round =>
    clear hA hB hC hb0
    obtain ⟨i, hi, rfl, hA, hB, hC, hb0⟩ := hrel
    by_cases hlt : i < 4
    · have cX := hB.out.cell i hlt
      have cY := hC.out.cell i hlt
      have lX := hB.out.lt
      have lY := hC.out.lt
      have d1 := index_wd (x &&& y) i hlt
      have d2 := index_wd (x ||| y) i hlt
      have d3 := index_wd (x ^^^ y) i hlt
      have d4 := index_wd (notW x) i hlt
      have e1 := lm_and x y i
      have e2 := lm_or x y i
      have e3 := lm_xor x y i
      have e4 : bits .xor .u64 (if IntKind.u64.signed = true then -1 else IntKind.u64.max) (lm x i) = lm (notW x) i := by rw [if_neg (by decide)]; exact hnot.out i hlt
      generalize x &&& y = p1 at *
      generalize x ||| y = p2 at *
      generalize x ^^^ y = p3 at *
      generalize notW x = p4 at *
      go_wp2_with fail
      ((try simp only [World.size_alloc]); refine wp_region_ext (by kernel_rfl) (by kernel_rfl) ?_; (try simp only [List.append_eq, List.cons_append, List.nil_append]); (repeat (first | (refine wpQuiet_load_want 24 (.tmp 4) rfl (w.heap.size + 1) rfl 24 (cellsW _) _ hB.out uWd rfl iB.out rfl ?_; simp only [Act.put, List.setIfInBounds_toArray, List.set_cons_zero, List.set_cons_succ]) | (refine wpQuiet_load_want 24 (.tmp 5) rfl (w.heap.size + 2) rfl 24 (cellsW _) _ hC.out uWd rfl iC.out rfl ?_; simp only [Act.put, List.setIfInBounds_toArray, List.set_cons_zero, List.set_cons_succ]) | go_big_quiet_step (first | (go_at_call 10; with_reducible refine Calls.ext_of (n1.out _)) | (go_at_call 11; with_reducible refine Calls.ext_of (n2.out _)) | (go_at_call 12; with_reducible refine Calls.ext_of (n3.out _)) | (go_at_call 13; with_reducible refine Calls.ext_of (n4.out _))))); refine wpQuiet_nil ?_; rintro _ ⟨xw, rfl⟩)
      go_wp2_with fail
      go_roundw
      case rel => exact ⟨i + 1, by omega, by go_num, hid (hA.out.ext xw), hid (hB.out.ext xw), hid (hC.out.ext xw), World.ext_below_of hb0 hb0.size xw⟩
      case measure => simp [intOf]; omega
    · obtain rfl : i = 4 := by omega
      go_wp2_with fail
      ((try simp only [World.size_alloc]); refine wp_region_ext (by kernel_rfl) (by kernel_rfl) ?_; (try simp only [List.append_eq, List.cons_append, List.nil_append]); (repeat (first | (refine wpQuiet_load_want 24 (.tmp 3) rfl w.heap.size rfl 24 (cellsW _) _ hA.out uWd rfl iA.out rfl ?_; simp only [Act.put, List.setIfInBounds_toArray, List.set_cons_zero, List.set_cons_succ]) | (refine wpQuiet_load_want 24 (.tmp 4) rfl (w.heap.size + 1) rfl 24 (cellsW _) _ hB.out uWd rfl iB.out rfl ?_; simp only [Act.put, List.setIfInBounds_toArray, List.set_cons_zero, List.set_cons_succ]) | go_big_quiet_step (first | (go_at_call 14; with_reducible refine Calls.ext_of (h1.out _)) | (go_at_call 15; with_reducible refine Calls.ext_of (h2.out _)) | (go_at_call 16; with_reducible refine Calls.ext_of (h3.out _)) | (go_at_call 17; with_reducible refine Calls.ext_of (h4.out _)) | (go_at_call 18; with_reducible refine Calls.ext_of (h5.out _)) | (go_at_call 19; with_reducible refine Calls.ext_of (h6.out _)) | (go_at_call 20; with_reducible refine Calls.ext_of (h7.out _)) | (go_at_call 21; with_reducible refine Calls.ext_of (h8.out _)) | (go_at_call 22; with_reducible refine Calls.ext_of (h9.out _)) | (go_at_call 23; with_reducible refine Calls.ext_of (h10.out _)) | (go_at_call 24; with_reducible refine Calls.ext_of (walive_any _))))); refine wpQuiet_nil ?_; rintro _ ⟨xw, rfl⟩)
      go_wp2_with fail
      go_ret
      exact ⟨rfl, World.ext_below_of hb0 hb0.size xw⟩
end Go.Proofs.Ytblnjnhneliffaa
