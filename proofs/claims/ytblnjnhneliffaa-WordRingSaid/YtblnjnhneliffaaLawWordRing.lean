import Derived.Test.YtblnjnhneliffaaLawW
/-! WordRing. -/
set_option linter.unusedVariables false
set_option linter.unusedSimpArgs false
namespace Go.Proofs.Ytblnjnhneliffaa
open Go.RowKit

theorem ring_add (a b c M : Nat) : ((a + b) % M + c) % M = (a + (b + c) % M) % M := by rw [Nat.mod_add_mod, Nat.add_mod_mod, Nat.add_assoc]
theorem ring_mul (a b c M : Nat) : (a * b % M * c) % M = (a * (b * c % M)) % M := by rw [Nat.mod_mul_mod, Nat.mul_mod_mod, Nat.mul_assoc]
theorem ring_dist (a b c M : Nat) : (a * ((b + c) % M)) % M = (a * b % M + a * c % M) % M := by rw [Nat.mul_mod_mod, Nat.mul_add, Nat.add_mod]
theorem ring_sub (a b : Nat) (ha : a < 2 ^ 256) (hb : b < 2 ^ 256) : subW ((a + b) % 2 ^ 256) b = a := by
  unfold subW
  rw [Nat.mod_add_mod, show a + b + (2 ^ 256 - b) = a + 2 ^ 256 by omega, Nat.add_mod_right, Nat.mod_eq_of_lt ha]

set_option maxRecDepth 20000 in
set_option maxHeartbeats 8000000 in
theorem walk_WordRing (w : World) (x : List Int) (lx : x.length = 4) (wx : ∀ y ∈ x, (Lit.int .u64 y).wf = true) (x' : List Int) (lx' : x'.length = 4) (wx' : ∀ y ∈ x', (Lit.int .u64 y).wf = true)
    (x'' : List Int) (lx'' : x''.length = 4) (wx'' : ∀ y ∈ x'', (Lit.int .u64 y).wf = true) :
    Calls Try.prog 4 #[.agg (x.map (Value.int .u64)).toArray, .agg (x'.map (Value.int .u64)).toArray, .agg (x''.map (Value.int .u64)).toArray] w fun e w' => e = .returned (.bool true) ∧ Below w.heap.size w w' := by
  obtain ⟨a, ha, ea⟩ := word_arg x lx wx
  obtain ⟨b, hb, eb⟩ := word_arg x' lx' wx'
  obtain ⟨c, hc, ec⟩ := word_arg x'' lx'' wx''
  rw [ea, eb, ec]
  clear ea eb ec lx wx lx' wx' lx'' wx'' x x' x''
  have M : ∀ n, n % 2 ^ 256 < 2 ^ 256 := fun n => Nat.mod_lt _ (by decide)
  have h1 := hid fun w => wadd_any a b w ha hb
  have h1' := hid fun w => wadd_any b a w hb ha
  have m1 := hid fun w => wmul_any a b w ha hb
  have m1' := hid fun w => wmul_any b a w hb ha
  have h2 := hid fun w => wadd_any ((a + b) % 2 ^ 256) c w (M _) hc
  have h3 := hid fun w => wadd_any b c w hb hc
  have h4 := hid fun w => wadd_any a ((b + c) % 2 ^ 256) w ha (M _)
  have m2 := hid fun w => wmul_any (a * b % 2 ^ 256) c w (M _) hc
  have m3 := hid fun w => wmul_any b c w hb hc
  have m4 := hid fun w => wmul_any a (b * c % 2 ^ 256) w ha (M _)
  have m5 := hid fun w => wmul_any a ((b + c) % 2 ^ 256) w ha (M _)
  have m6 := hid fun w => wmul_any a c w ha hc
  have h5 := hid fun w => wadd_any (a * b % 2 ^ 256) (a * c % 2 ^ 256) w (M _) (M _)
  have s1 := hid fun w => wsub_any ((a + b) % 2 ^ 256) b w (M _) hb
  have m7 := hid fun w => wmul_any a 1 w ha (by decide)
  rw [Nat.add_comm b a] at h1'
  rw [Nat.mul_comm b a] at m1'
  rw [ring_add] at h2
  rw [ring_mul] at m2
  rw [ring_dist] at m5
  rw [ring_sub a b ha hb] at s1
  rw [Nat.mul_one, Nat.mod_eq_of_lt ha] at m7
  have q1 := eq_self ((a + b) % 2 ^ 256) (M _)
  have q2 := eq_self (a * b % 2 ^ 256) (M _)
  have q3 := eq_self ((a + (b + c) % 2 ^ 256) % 2 ^ 256) (M _)
  have q4 := eq_self ((a * (b * c % 2 ^ 256)) % 2 ^ 256) (M _)
  have q5 := eq_self ((a * b % 2 ^ 256 + a * c % 2 ^ 256) % 2 ^ 256) (M _)
  have q6 := eq_self a ha
  clear ha hb hc M
  generalize (a + (b + c) % 2 ^ 256) % 2 ^ 256 = n1 at *
  generalize (a * (b * c % 2 ^ 256)) % 2 ^ 256 = n2 at *
  generalize (a * b % 2 ^ 256 + a * c % 2 ^ 256) % 2 ^ 256 = n3 at *
  generalize (a + b) % 2 ^ 256 = n4 at *
  generalize (b + c) % 2 ^ 256 = n5 at *
  generalize a * b % 2 ^ 256 = n6 at *
  generalize b * c % 2 ^ 256 = n7 at *
  generalize a * c % 2 ^ 256 = n8 at *
  have z1 : cellsW 1 = (#[.int .u64 1, .int .u64 0, .int .u64 0, .int .u64 0] : Array Value) := by kernel_rfl
  unfold wd at *
  rw [z1] at m7
  clear z1
  have iA := hid (iW a)
  have iB := hid (iW b)
  have iC := hid (iW c)
  have hA := hid (show ArrW 24 (((w.alloc (.cells (cellsW a) 24)).alloc (.cells (cellsW b) 24)).alloc (.cells (cellsW c) 24)) w.heap.size a from ((ArrW.new _ w a).alloc _).alloc _)
  have hB := hid (show ArrW 24 (((w.alloc (.cells (cellsW a) 24)).alloc (.cells (cellsW b) 24)).alloc (.cells (cellsW c) 24)) (w.heap.size + 1) b by
    have := ArrW.new 24 (w.alloc (.cells (cellsW a) 24)) b
    rw [World.size_alloc] at this; exact this.alloc _)
  have hC := hid (show ArrW 24 (((w.alloc (.cells (cellsW a) 24)).alloc (.cells (cellsW b) 24)).alloc (.cells (cellsW c) 24)) (w.heap.size + 2) c by
    have := ArrW.new 24 ((w.alloc (.cells (cellsW a) 24)).alloc (.cells (cellsW b) 24)) c
    rw [World.size_alloc, World.size_alloc] at this; exact this)
  have hb0 : Below w.heap.size w (((w.alloc (.cells (cellsW a) 24)).alloc (.cells (cellsW b) 24)).alloc (.cells (cellsW c) 24)) := (((Below.refl _ _).alloc (Nat.le_refl _) _).alloc (by simp) _).alloc (by simp; omega) _
  go_enter Try.func4, Try.ntmps4
  go_wp2_with fail
  ((try simp only [World.size_alloc]); refine wp_region_ext (by kernel_rfl) (by kernel_rfl) ?_; (try simp only [List.append_eq, List.cons_append, List.nil_append]); (repeat (first | (refine wpQuiet_load_want 24 (.tmp 3) rfl w.heap.size rfl 24 (cellsW _) _ hA.out uWd rfl iA.out rfl ?_; simp only [Act.put, List.setIfInBounds_toArray, List.set_cons_zero, List.set_cons_succ]) | (refine wpQuiet_load_want 24 (.tmp 4) rfl (w.heap.size + 1) rfl 24 (cellsW _) _ hB.out uWd rfl iB.out rfl ?_; simp only [Act.put, List.setIfInBounds_toArray, List.set_cons_zero, List.set_cons_succ]) | (refine wpQuiet_load_want 24 (.tmp 5) rfl (w.heap.size + 2) rfl 24 (cellsW _) _ hC.out uWd rfl iC.out rfl ?_; simp only [Act.put, List.setIfInBounds_toArray, List.set_cons_zero, List.set_cons_succ]) | go_big_quiet_step (first | (go_at_call 25; with_reducible refine Calls.ext_of (h1.out _)) | (go_at_call 25; with_reducible refine Calls.ext_of (h1'.out _)) | (go_at_call 25; with_reducible refine Calls.ext_of (h2.out _)) | (go_at_call 25; with_reducible refine Calls.ext_of (h3.out _)) | (go_at_call 25; with_reducible refine Calls.ext_of (h4.out _)) | (go_at_call 25; with_reducible refine Calls.ext_of (h5.out _)) | (go_at_call 26; with_reducible refine Calls.ext_of (m1.out _)) | (go_at_call 26; with_reducible refine Calls.ext_of (m1'.out _)) | (go_at_call 26; with_reducible refine Calls.ext_of (m2.out _)) | (go_at_call 26; with_reducible refine Calls.ext_of (m3.out _)) | (go_at_call 26; with_reducible refine Calls.ext_of (m4.out _)) | (go_at_call 26; with_reducible refine Calls.ext_of (m5.out _)) | (go_at_call 26; with_reducible refine Calls.ext_of (m6.out _)) | (go_at_call 26; with_reducible refine Calls.ext_of (m7.out _)) | (go_at_call 27; with_reducible refine Calls.ext_of (s1.out _)) | (go_at_call 24; with_reducible refine Calls.ext_of (walive_any _))))); refine wpQuiet_nil ?_; rintro _ ⟨xw, rfl⟩)
  go_wp2_with fail
  go_ret
  exact ⟨rfl, World.ext_below_of hb0 hb0.size xw⟩
end Go.Proofs.Ytblnjnhneliffaa
