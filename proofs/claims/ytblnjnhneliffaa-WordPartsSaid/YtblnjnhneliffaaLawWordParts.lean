import Derived.Test.YtblnjnhneliffaaLawW
import Derived.Test.YtblnjnhneliffaaDivI
/-! WordParts. -/
set_option linter.unusedVariables false
set_option linter.unusedSimpArgs false
namespace Go.Proofs.Ytblnjnhneliffaa
open Go.RowKit

theorem modW_lt' (a b : Nat) (h : b < 2 ^ 256) : modW a b < 2 ^ 256 := by
  unfold modW; split
  · exact Nat.pow_pos (by omega)
  · exact Nat.lt_trans (Nat.mod_lt _ (by omega)) h
theorem sdivW_lt (a b : Nat) (ha : a < 2 ^ 256) : sdivW a b < 2 ^ 256 :=
  signW_lt _ _ (Nat.lt_of_le_of_lt (Nat.div_le_self _ _) (sizeW_lt a ha))
theorem smodW_lt (a b : Nat) (ha : a < 2 ^ 256) : smodW a b < 2 ^ 256 :=
  signW_lt _ _ (modW_lt _ _ (sizeW_lt a ha))

set_option maxRecDepth 20000 in
set_option maxHeartbeats 8000000 in
theorem walk_WordParts (w : World) (x0 : List Int) (lx : x0.length = 4) (wx : ∀ y ∈ x0, (Lit.int .u64 y).wf = true) (x' : List Int) (lx' : x'.length = 4) (wx' : ∀ y ∈ x', (Lit.int .u64 y).wf = true)
    (x'' : List Int) (lx'' : x''.length = 4) (wx'' : ∀ y ∈ x'', (Lit.int .u64 y).wf = true) :
    Calls Try.prog 8 #[.agg (x0.map (Value.int .u64)).toArray, .agg (x'.map (Value.int .u64)).toArray, .agg (x''.map (Value.int .u64)).toArray] w fun e w' => e = .returned (.bool true) ∧ Below w.heap.size w w' := by
  obtain ⟨k, hk, ea⟩ := word_arg x0 lx wx
  obtain ⟨x, hx, eb⟩ := word_arg x' lx' wx'
  obtain ⟨y, hy, ec⟩ := word_arg x'' lx'' wx''
  rw [ea, eb, ec]
  clear ea eb ec lx wx lx' wx' lx'' wx'' x0 x' x''
  have h1 := hid fun w => wdiv_any k x w hk hx
  have h2 := hid (show ∀ w, Calls Try.prog 50 #[wd k, wd x] w fun e w' => e = .returned (wd (k / x)) ∧ Below w.heap.size w w' from fun w => rdiv_any k x w hk hx)
  have h3 := hid fun w => wmod_any k x w hk hx
  have h4 := hid fun w => rmod_any k x w hk hx
  have h5 := hid fun w => wsdiv_any k x w hk hx
  have h6 := hid fun w => rsdiv_any k x w hk hx
  have h7 := hid fun w => wsmod_any k x w hk hx
  have h8 := hid fun w => rsmod_any k x w hk hx
  have h9 := hid fun w => waddmod_any k x y w hk hx hy
  have h10 := hid fun w => raddm_any k x y w hk hx hy
  have h11 := hid fun w => wmulmod_any k x y w hk hx hy
  have h12 := hid fun w => rmulm_any k x y w hk hx hy
  have q1 := eq_self (k / x) (Nat.lt_of_le_of_lt (Nat.div_le_self _ _) hk)
  have q2 := eq_self (modW k x) (modW_lt _ _ hk)
  have q3 := eq_self (sdivW k x) (sdivW_lt _ _ hk)
  have q4 := eq_self (smodW k x) (smodW_lt _ _ hk)
  have q5 := eq_self (modW (k + x) y) (modW_lt' _ _ hy)
  have q6 := eq_self (modW (k * x) y) (modW_lt' _ _ hy)
  clear hk hx hy
  generalize modW (k * x) y = s6 at *
  generalize modW (k + x) y = s5 at *
  generalize smodW k x = s4 at *
  generalize sdivW k x = s3 at *
  generalize modW k x = s2 at *
  generalize k / x = s1 at *
  unfold wd at *
  have iA := hid (iW k)
  have iB := hid (iW x)
  have iC := hid (iW y)
  have hA := hid (show ArrW 24 (((w.alloc (.cells (cellsW k) 24)).alloc (.cells (cellsW x) 24)).alloc (.cells (cellsW y) 24)) w.heap.size k from ((ArrW.new _ w k).alloc _).alloc _)
  have hB := hid (show ArrW 24 (((w.alloc (.cells (cellsW k) 24)).alloc (.cells (cellsW x) 24)).alloc (.cells (cellsW y) 24)) (w.heap.size + 1) x by
    have := ArrW.new 24 (w.alloc (.cells (cellsW k) 24)) x
    rw [World.size_alloc] at this; exact this.alloc _)
  have hC := hid (show ArrW 24 (((w.alloc (.cells (cellsW k) 24)).alloc (.cells (cellsW x) 24)).alloc (.cells (cellsW y) 24)) (w.heap.size + 2) y by
    have := ArrW.new 24 ((w.alloc (.cells (cellsW k) 24)).alloc (.cells (cellsW x) 24)) y
    rw [World.size_alloc, World.size_alloc] at this; exact this)
  have hb0 : Below w.heap.size w (((w.alloc (.cells (cellsW k) 24)).alloc (.cells (cellsW x) 24)).alloc (.cells (cellsW y) 24)) := (((Below.refl _ _).alloc (Nat.le_refl _) _).alloc (by simp) _).alloc (by simp; omega) _
  go_enter Try.func8, Try.ntmps8
  go_wp2_with fail
  generalize ((w.alloc (.cells (cellsW k) 24)).alloc (.cells (cellsW x) 24)).alloc (.cells (cellsW y) 24) = w1 at hA hB hC hb0 ⊢
  ((try simp only [World.size_alloc]); refine wp_region_ext (by kernel_rfl) (by kernel_rfl) ?_; (try simp only [List.append_eq, List.cons_append, List.nil_append]); (repeat (first | (refine wpQuiet_load_want 24 (.tmp 3) rfl w.heap.size rfl 24 (cellsW _) _ hA.out uWd rfl iA.out rfl ?_; simp only [Act.put, List.setIfInBounds_toArray, List.set_cons_zero, List.set_cons_succ]) | (refine wpQuiet_load_want 24 (.tmp 4) rfl (w.heap.size + 1) rfl 24 (cellsW _) _ hB.out uWd rfl iB.out rfl ?_; simp only [Act.put, List.setIfInBounds_toArray, List.set_cons_zero, List.set_cons_succ]) | (refine wpQuiet_load_want 24 (.tmp 5) rfl (w.heap.size + 2) rfl 24 (cellsW _) _ hC.out uWd rfl iC.out rfl ?_; simp only [Act.put, List.setIfInBounds_toArray, List.set_cons_zero, List.set_cons_succ]) | go_big_quiet_step (first | (go_at_call 49; with_reducible refine Calls.ext_of (h1.out _)) | (go_at_call 50; with_reducible refine Calls.ext_of (h2.out _)) | (go_at_call 51; with_reducible refine Calls.ext_of (h3.out _)) | (go_at_call 52; with_reducible refine Calls.ext_of (h4.out _)) | (go_at_call 53; with_reducible refine Calls.ext_of (h5.out _)) | (go_at_call 54; with_reducible refine Calls.ext_of (h6.out _)) | (go_at_call 55; with_reducible refine Calls.ext_of (h7.out _)) | (go_at_call 56; with_reducible refine Calls.ext_of (h8.out _)) | (go_at_call 57; with_reducible refine Calls.ext_of (h9.out _)) | (go_at_call 58; with_reducible refine Calls.ext_of (h10.out _)) | (go_at_call 59; with_reducible refine Calls.ext_of (h11.out _)) | (go_at_call 60; with_reducible refine Calls.ext_of (h12.out _)) | (go_at_call 24; with_reducible refine Calls.ext_of (walive_any _))))); refine wpQuiet_nil ?_; rintro _ ⟨xw, rfl⟩)
  go_wp2_with fail
  go_ret
  exact ⟨rfl, World.ext_below_of hb0 hb0.size xw⟩
end Go.Proofs.Ytblnjnhneliffaa
