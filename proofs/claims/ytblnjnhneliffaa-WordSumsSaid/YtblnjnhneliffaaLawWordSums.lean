import Derived.Test.YtblnjnhneliffaaLawW
/-! WordSums. -/
set_option linter.unusedVariables false
set_option linter.unusedSimpArgs false
namespace Go.Proofs.Ytblnjnhneliffaa
open Go.RowKit

set_option maxRecDepth 20000 in
set_option maxHeartbeats 4000000 in
theorem walk_WordSums (w : World) (x : List Int) (lx : x.length = 4) (wx : ∀ y ∈ x, (Lit.int .u64 y).wf = true) (x' : List Int) (lx' : x'.length = 4) (wx' : ∀ y ∈ x', (Lit.int .u64 y).wf = true) :
    Calls Try.prog 7 #[.agg (x.map (Value.int .u64)).toArray, .agg (x'.map (Value.int .u64)).toArray] w fun e w' => e = .returned (.bool true) ∧ Below w.heap.size w w' := by
  obtain ⟨a, ha, ea⟩ := word_arg x lx wx
  obtain ⟨b, hb, eb⟩ := word_arg x' lx' wx'
  rw [ea, eb]
  clear ea eb lx wx lx' wx' x x'
  have h1 := hid fun w => wadd_any a b w ha hb
  have h2 := hid fun w => radd_any a b w ha hb
  have h3 := hid fun w => wsub_any a b w ha hb
  have h4 := hid fun w => rsub_any a b w ha hb
  have h5 := hid fun w => wmul_any a b w ha hb
  have h6 := hid fun w => rmul_any a b w ha hb
  have h7 := hid fun w => wexp_any a b w ha hb
  have h8 := hid fun w => rexp_any a b w ha hb
  have q1 := eq_self ((a + b) % 2 ^ 256) (Nat.mod_lt _ (by decide))
  have q2 := eq_self (subW a b) (subW_lt _ _)
  have q3 := eq_self (a * b % 2 ^ 256) (Nat.mod_lt _ (by decide))
  have q4 := eq_self (powW a b) (powW_lt _ _)
  clear ha hb
  generalize (a + b) % 2 ^ 256 = s1 at *
  generalize subW a b = s2 at *
  generalize a * b % 2 ^ 256 = s3 at *
  generalize powW a b = s4 at *
  unfold wd at *
  have iA := hid (iW a)
  have iB := hid (iW b)
  have hA := hid (show ArrW 24 ((w.alloc (.cells (cellsW a) 24)).alloc (.cells (cellsW b) 24)) w.heap.size a from (ArrW.new _ w a).alloc _)
  have hB := hid (show ArrW 24 ((w.alloc (.cells (cellsW a) 24)).alloc (.cells (cellsW b) 24)) (w.heap.size + 1) b by
    have := ArrW.new 24 (w.alloc (.cells (cellsW a) 24)) b
    rw [World.size_alloc] at this; exact this)
  have hb0 : Below w.heap.size w ((w.alloc (.cells (cellsW a) 24)).alloc (.cells (cellsW b) 24)) := ((Below.refl _ _).alloc (Nat.le_refl _) _).alloc (by simp) _
  go_enter Try.func7, Try.ntmps7
  go_wp2_with fail
  ((try simp only [World.size_alloc]); refine wp_region_ext (by kernel_rfl) (by kernel_rfl) ?_; (repeat (first | (refine wpQuiet_load_want 24 (.tmp 2) rfl w.heap.size rfl 24 (cellsW _) _ hA.out uWd rfl iA.out rfl ?_; simp only [Act.put, List.setIfInBounds_toArray, List.set_cons_zero, List.set_cons_succ]) | (refine wpQuiet_load_want 24 (.tmp 3) rfl (w.heap.size + 1) rfl 24 (cellsW _) _ hB.out uWd rfl iB.out rfl ?_; simp only [Act.put, List.setIfInBounds_toArray, List.set_cons_zero, List.set_cons_succ]) | go_big_quiet_step (first | (go_at_call 25; with_reducible refine Calls.ext_of (h1.out _)) | (go_at_call 44; with_reducible refine Calls.ext_of (h2.out _)) | (go_at_call 27; with_reducible refine Calls.ext_of (h3.out _)) | (go_at_call 45; with_reducible refine Calls.ext_of (h4.out _)) | (go_at_call 26; with_reducible refine Calls.ext_of (h5.out _)) | (go_at_call 46; with_reducible refine Calls.ext_of (h6.out _)) | (go_at_call 47; with_reducible refine Calls.ext_of (h7.out _)) | (go_at_call 48; with_reducible refine Calls.ext_of (h8.out _)) | (go_at_call 24; with_reducible refine Calls.ext_of (walive_any _))))); refine wpQuiet_nil ?_; rintro _ ⟨xw, rfl⟩)
  go_wp2_with fail
  go_ret
  exact ⟨rfl, World.ext_below_of hb0 hb0.size xw⟩
end Go.Proofs.Ytblnjnhneliffaa
