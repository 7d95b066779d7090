import Derived.Test.YtfidbiabgmioaaaFldAl
import Derived.Test.YtfidbiabgmioaaaFldF
import Derived.Test.YtfidbiabgmioaaaWArg
/-! FieldScalars. -/
set_option maxRecDepth 4000
set_option linter.unusedVariables false
set_option linter.unusedSimpArgs false
namespace Go.Proofs.Ytfidbiabgmioaaa
open Go.RowKit

theorem l_mod_lt (a : Nat) : a % lN < 2 ^ 256 := Nat.lt_trans (Nat.mod_lt _ lN_pos) lN_lt
set_option maxRecDepth 20000 in
set_option maxHeartbeats 8000000 in
theorem walk_FieldScalars (w : World) (x0 : List Int) (lx : x0.length = 4) (wx : ∀ y ∈ x0, (Lit.int .u64 y).wf = true) (y0 : List Int) (ly : y0.length = 4) (wy : ∀ y ∈ y0, (Lit.int .u64 y).wf = true) :
    Calls Try.prog 11 #[.agg (x0.map (Value.int .u64)).toArray, .agg (y0.map (Value.int .u64)).toArray] w fun e w' => e = .returned (.bool true) ∧ Below w.heap.size w w' := by
  obtain ⟨a, ha, ea⟩ := word_arg x0 lx wx
  obtain ⟨b, hb, eb⟩ := word_arg y0 ly wy
  rw [ea, eb]
  have s1 := hid fun w => ladd_any a b w ha hb
  have s2 := hid fun w => rfladd_any a b w ha hb
  have v1 := hid fun w => lmul_any a b w ha hb
  have v2 := hid fun w => rflmul_any a b w ha hb
  have q1 := eq_self ((a + b) % lN) (l_mod_lt _)
  have q2 := eq_self (a * b % lN) (l_mod_lt _)
  obtain ⟨s, hs⟩ : ∃ s, s = (a + b) % lN := ⟨_, rfl⟩
  obtain ⟨v, hv⟩ : ∃ v, v = a * b % lN := ⟨_, rfl⟩
  rw [← hs] at s1 s2 q1
  rw [← hv] at v1 v2 q2
  clear ea lx wx x0 ha eb ly wy y0 hb hs hv
  unfold wd at *
  have iA := hid (iW a)
  have iB := hid (iW b)
  have hA0 := hid (show ArrW 24 ((w.alloc (.cells (cellsW a) 24)).alloc (.cells (cellsW b) 24)) w.heap.size a from (ArrW.new _ w a).alloc _)
  have hB0 := hid (show ArrW 24 ((w.alloc (.cells (cellsW a) 24)).alloc (.cells (cellsW b) 24)) (w.heap.size + 1) b by
    have := ArrW.new 24 (w.alloc (.cells (cellsW a) 24)) b
    rw [World.size_alloc] at this; exact this)
  have hb0 : Below w.heap.size w ((w.alloc (.cells (cellsW a) 24)).alloc (.cells (cellsW b) 24)) := ((Below.refl _ _).alloc (Nat.le_refl _) _).alloc (by simp) _
  go_enter Try.func11, Try.ntmps11
  go_wp2
  (try simp only [World.size_alloc])
  generalize (w.alloc (.cells (cellsW a) 24)).alloc (.cells (cellsW b) 24) = w1 at hA0 hB0 hb0 ⊢
  ((try simp only [World.size_alloc]); refine wp_region_ext (by kernel_rfl) (by kernel_rfl) ?_; (try simp only [List.append_eq, List.cons_append, List.nil_append]); (repeat (first | (refine wpQuiet_load_want 24 (.tmp 2) rfl w.heap.size rfl 24 (cellsW _) _ hA0.out uWd rfl iA.out rfl ?_; simp only [Act.put, List.setIfInBounds_toArray, List.set_cons_zero, List.set_cons_succ]) | (refine wpQuiet_load_want 24 (.tmp 3) rfl (w.heap.size + 1) rfl 24 (cellsW _) _ hB0.out uWd rfl iB.out rfl ?_; simp only [Act.put, List.setIfInBounds_toArray, List.set_cons_zero, List.set_cons_succ]) | go_big_quiet_step (first | (go_at_call 74; with_reducible refine Calls.ext_of (s1.out _)) | (go_at_call 75; with_reducible refine Calls.ext_of (s2.out _)) | (go_at_call 76; with_reducible refine Calls.ext_of (v1.out _)) | (go_at_call 77; with_reducible refine Calls.ext_of (v2.out _)) | (go_at_call 19; with_reducible refine Calls.ext_of (f4alive_any _))))); refine wpQuiet_nil ?_; rintro _ ⟨xw, rfl⟩)
  go_wp2
  go_ret
  exact ⟨rfl, World.ext_below_of hb0 hb0.size _⟩
end Go.Proofs.Ytfidbiabgmioaaa
