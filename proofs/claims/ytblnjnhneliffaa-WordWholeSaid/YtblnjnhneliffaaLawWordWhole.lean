import Derived.Test.YtblnjnhneliffaaLawW
import Derived.Test.YtblnjnhneliffaaWhl
/-! WordWhole. -/
set_option linter.unusedVariables false
set_option linter.unusedSimpArgs false
namespace Go.Proofs.Ytblnjnhneliffaa
open Go.RowKit

set_option maxRecDepth 100000 in
set_option maxHeartbeats 8000000 in
theorem walk_WordWhole (w : World) (x0 : List Int) (lx : x0.length = 4) (wx : ∀ y ∈ x0, (Lit.int .u64 y).wf = true) (x' : List Int) (lx' : x'.length = 4) (wx' : ∀ y ∈ x', (Lit.int .u64 y).wf = true)
    (n : Int) (hn : (Lit.int .u8 n).wf = true) :
    Calls Try.prog 9 #[.agg (x0.map (Value.int .u64)).toArray, .agg (x'.map (Value.int .u64)).toArray, .int .u8 n] w fun e w' => e = .returned (.bool true) ∧ Below w.heap.size w w' := by
  obtain ⟨a, ha, ea⟩ := word_arg x0 lx wx
  obtain ⟨b, hb, eb⟩ := word_arg x' lx' wx'
  obtain ⟨k, hk, rfl⟩ : ∃ k : Nat, k < 256 ∧ n = (k : Int) := ⟨n.toNat, by have := wf_u8 hn; omega, by have := wf_u8 hn; omega⟩
  rw [ea, eb]
  clear ea eb lx wx lx' wx' x0 x' hn
  have M : ∀ n, n % 2 ^ 256 < 2 ^ 256 := fun n => Nat.mod_lt _ (by decide)
  have hk2 : k < 2 ^ 256 := Nat.lt_trans hk (by decide)
  have hP : 2 ^ k < 2 ^ 256 := Nat.pow_lt_pow_right (by omega) hk
  have hdv := Nat.lt_of_le_of_lt (Nat.div_le_self a b) ha
  have h1 := hid fun w => wdiv_any a b w ha hb
  have h2 := hid fun w => wmul_any (a / b) b w hdv hb
  have h3 := hid fun w => wmod_any a b w ha hb
  have h4 := hid fun w => wadd_any (a / b * b % 2 ^ 256) (modW a b) w (M _) (modW_lt _ _ ha)
  have h5 := hid fun w => wzero_any b hb w
  have h6 := hid fun w => wsdiv_any a b w ha hb
  have h7 := hid fun w => wmul_any (sdivW a b) b w (signW_lt _ _ (Nat.lt_of_le_of_lt (Nat.div_le_self _ _) (sizeW_lt a ha))) hb
  have h8 := hid fun w => wsmod_any a b w ha hb
  have h9 := hid fun w => wadd_any (sdivW a b * b % 2 ^ 256) (smodW a b) w (M _) (signW_lt _ _ (modW_lt _ _ (sizeW_lt a ha)))
  have h10 := hid fun w => wcmp_any (modW a b) b w (modW_lt _ _ ha) hb
  have g1 := hid fun w => wexp_any 2 k w (by decide) hk2
  have g2 := hid fun w => wshl_any k a w hk2 ha
  have g3 := hid fun w => wmul_any a (2 ^ k) w ha hP
  have g4 := hid fun w => wshr_any k a w hk2 ha
  have g5 := hid fun w => wdiv_any a (2 ^ k) w ha hP
  have g6 := hid fun w => wshort_any a w ha
  have g7 := hid (show ∀ v w, RdY w v (shortW a) → Calls Try.prog 34 #[v] w fun e w' => e = .returned (.tuple #[wd a, .int .i64 0]) ∧ Below w.heap.size w w' by
    intro v w hr
    have := wread_any (shortW a) v w hr
    rw [if_pos (by unfold shortW; rw [be_len]; exact wlen_le a ha), numY_short] at this
    exact this)
  rw [powW_two k hk] at g1
  rw [upT_small k hk] at g2 g4
  obtain ⟨S, e, z, c, hS1, hS2, hq, hz, hc, hx⟩ : ∃ S e z c, (a / b * b % 2 ^ 256 + modW a b) % 2 ^ 256 = S ∧ (sdivW a b * b % 2 ^ 256 + smodW a b) % 2 ^ 256 = S ∧
      (∀ w, (Op.equalIn 10000 24 (.agg (cellsW S)) (.agg (cellsW a))).run Try.prog w = .ok e w) ∧ decide (b = 0) = z ∧ cmpI (modW a b) b = c ∧ ((z = true ∧ c = 0 ∧ (e = true ∨ e = false)) ∨ (e = true ∧ z = false ∧ c = -1)) := by
    by_cases h0 : b = 0
    · subst h0
      exact ⟨0, decide (0 = a), true, 0, whole_zero a, swhole_zero a, eq_wd 0 a (by decide) ha, rfl, cmpI_eq (by unfold modW; rw [if_pos rfl]), .inl ⟨rfl, rfl, by cases decide (0 = a) <;> simp⟩⟩
    · exact ⟨a, true, false, -1, whole_pos a b ha h0, swhole_pos a b ha hb h0, eq_self a ha, decide_eq_false h0, cmpI_lt (by unfold modW; rw [if_neg h0]; exact Nat.mod_lt _ (by omega)), .inr ⟨rfl, rfl, rfl⟩⟩
  rw [hS1] at h4
  rw [hS2] at h9
  rw [hz] at h5
  rw [hc] at h10
  have q1 := eq_self (a * 2 ^ k % 2 ^ 256) (M _)
  have q2 := eq_self (a / 2 ^ k) (Nat.lt_of_le_of_lt (Nat.div_le_self _ _) ha)
  have q3 := eq_self a ha
  have zK := hid (cellsW_one k (Nat.lt_trans hk (by decide)))
  have z2 : cellsW 2 = (#[.int .u64 2, .int .u64 0, .int .u64 0, .int .u64 0] : Array Value) := by kernel_rfl
  clear hS1 hS2 hz hc M hk2 hP hdv ha hb
  generalize sdivW a b * b % 2 ^ 256 = d4 at *
  generalize smodW a b = d3 at *
  generalize sdivW a b = d2 at *
  generalize a / b * b % 2 ^ 256 = d1 at *
  generalize modW a b = d5 at *
  generalize a / b = d6 at *
  generalize a * 2 ^ k % 2 ^ 256 = d7 at *
  generalize a / 2 ^ k = d8 at *
  generalize 2 ^ k = p at *
  unfold wd at *
  rw [z2] at g1
  clear z2
  have iA := hid (iW a)
  have iB := hid (iW b)
  have iK := hid (iW k)
  have iP := hid (iW p)
  have nA := hid (one_cellsW a)
  have nP := hid (one_cellsW p)
  have hA := hid (show ArrW 24 ((w.alloc (.cells (cellsW a) 24)).alloc (.cells (cellsW b) 24)) w.heap.size a from (ArrW.new _ w a).alloc _)
  have hB := hid (show ArrW 24 ((w.alloc (.cells (cellsW a) 24)).alloc (.cells (cellsW b) 24)) (w.heap.size + 1) b by
    have := ArrW.new 24 (w.alloc (.cells (cellsW a) 24)) b
    rw [World.size_alloc] at this; exact this)
  have hb0 : Below w.heap.size w ((w.alloc (.cells (cellsW a) 24)).alloc (.cells (cellsW b) 24)) := ((Below.refl _ _).alloc (Nat.le_refl _) _).alloc (by simp) _
  rcases hx with ⟨rfl, rfl, rfl | rfl⟩ | ⟨rfl, rfl, rfl⟩
  all_goals
    go_enter Try.func9, Try.ntmps9
    go_wp2_with fail
    generalize (w.alloc (.cells (cellsW a) 24)).alloc (.cells (cellsW b) 24) = w1 at hA hB hb0 ⊢
    ((try simp only [World.size_alloc]); refine wp_region_ext (by kernel_rfl) (by kernel_rfl) ?_; (try simp only [List.append_eq, List.cons_append, List.nil_append]); (repeat (first | (refine wpQuiet_load_want 24 (.tmp 3) rfl w.heap.size rfl 24 (cellsW _) _ hA.out uWd rfl iA.out rfl ?_; simp only [Act.put, List.setIfInBounds_toArray, List.set_cons_zero, List.set_cons_succ]) | (refine wpQuiet_load_want 24 (.tmp 4) rfl (w.heap.size + 1) rfl 24 (cellsW _) _ hB.out uWd rfl iB.out rfl ?_; simp only [Act.put, List.setIfInBounds_toArray, List.set_cons_zero, List.set_cons_succ]) | go_big_quiet_step (first | (go_at_call 49; with_reducible refine Calls.ext_of (h1.out _)) | (go_at_call 26; with_reducible refine Calls.ext_of (h2.out _)) | (go_at_call 51; with_reducible refine Calls.ext_of (h3.out _)) | (go_at_call 25; with_reducible refine Calls.ext_of (h4.out _)) | (go_at_call 33; with_reducible refine Calls.ext_of (h5.out _))))); refine wpQuiet_nil ?_; rintro _ ⟨xw, rfl⟩)
    have hA2 := hid (hA.out.ext xw)
    have hB2 := hid (hB.out.ext xw)
    have hb2 := World.ext_below_of hb0 hb0.size xw
    clear hA hB hb0
    generalize w1.ext xw = w2 at hA2 hB2 hb2 ⊢
    go_wp2_with fail
    ((try simp only [World.size_alloc]); refine wp_region_ext (by kernel_rfl) (by kernel_rfl) ?_; (try simp only [List.append_eq, List.cons_append, List.nil_append]); (repeat (first | (refine wpQuiet_load_want 24 (.tmp 3) rfl w.heap.size rfl 24 (cellsW _) _ hA2.out uWd rfl iA.out rfl ?_; simp only [Act.put, List.setIfInBounds_toArray, List.set_cons_zero, List.set_cons_succ]) | (refine wpQuiet_load_want 24 (.tmp 4) rfl (w.heap.size + 1) rfl 24 (cellsW _) _ hB2.out uWd rfl iB.out rfl ?_; simp only [Act.put, List.setIfInBounds_toArray, List.set_cons_zero, List.set_cons_succ]) | go_big_quiet_step (first | (go_at_call 53; with_reducible refine Calls.ext_of (h6.out _)) | (go_at_call 26; with_reducible refine Calls.ext_of (h7.out _)) | (go_at_call 55; with_reducible refine Calls.ext_of (h8.out _)) | (go_at_call 25; with_reducible refine Calls.ext_of (h9.out _)) | (go_at_call 33; with_reducible refine Calls.ext_of (h5.out _))))); refine wpQuiet_nil ?_; rintro _ ⟨xw, rfl⟩)
    have hA3 := hid (hA2.out.ext xw)
    have hB3 := hid (hB2.out.ext xw)
    have hb3 := World.ext_below_of hb2 hb2.size xw
    clear hA2 hB2 hb2
    generalize w2.ext xw = w3 at hA3 hB3 hb3 ⊢
    go_wp2_with fail
    ((try simp only [World.size_alloc]); refine wp_region_ext (by kernel_rfl) (by kernel_rfl) ?_; (try simp only [List.append_eq, List.cons_append, List.nil_append]); (repeat (first | (refine wpQuiet_load_want 24 (.tmp 3) rfl w.heap.size rfl 24 (cellsW _) _ hA3.out uWd rfl iA.out rfl ?_; simp only [Act.put, List.setIfInBounds_toArray, List.set_cons_zero, List.set_cons_succ]) | (refine wpQuiet_load_want 24 (.tmp 4) rfl (w.heap.size + 1) rfl 24 (cellsW _) _ hB3.out uWd rfl iB.out rfl ?_; simp only [Act.put, List.setIfInBounds_toArray, List.set_cons_zero, List.set_cons_succ]) | go_big_quiet_step (first | (go_at_call 51; with_reducible refine Calls.ext_of (h3.out _)) | (go_at_call 28; with_reducible refine Calls.ext_of (h10.out _)) | (go_at_call 33; with_reducible refine Calls.ext_of (h5.out _))))); refine wpQuiet_nil ?_; rintro _ ⟨xw, rfl⟩)
    have hA4 := hid (hA3.out.ext xw)
    have hb4 := World.ext_below_of hb3 hb3.size xw
    clear hA3 hB3 hb3
    generalize w3.ext xw = w4 at hA4 hb4 ⊢
    go_wp2_with fail
    rw [← zK.out]
    have hA5 := hid (hA4.out.alloc (.cells (cellsW k) 24))
    have hK5 := hid (ArrW.new 24 w4 k)
    have hb5 := hb4.alloc hb4.size (.cells (cellsW k) 24)
    refine (g1.out _).mono ?_
    rintro _ w5 ⟨rfl, hc5⟩
    have hA6 := hid ((hA5.out.below hc5 hA5.out.lt).alloc (.cells (cellsW p) 24))
    have hK6 := hid ((hK5.out.below hc5 hK5.out.lt).alloc (.cells (cellsW p) 24))
    have hP6 := hid (ArrW.new 24 w5 p)
    have hb6 := (hb5.trans (hc5.mono hb5.size)).alloc (hb5.trans (hc5.mono hb5.size)).size (.cells (cellsW p) 24)
    clear hA4 hA5 hK5 hb4 hb5 hc5 zK
    go_wp2_with (first | (refine wpList_allocStore 24 59 8 (cellsW p) (cellsW 0) rfl rfl rfl rfl rfl rfl (by decide) (by simp) rfl (by kernel_rfl) rfl iP.out nP.out ?_; simp only [Act.put, List.setIfInBounds_toArray, List.set_cons_zero, List.set_cons_succ]) | (refine wpList_load_row rfl 24 (.tmp 3) rfl w.heap.size rfl 24 _ (0, 0) _ hA6.out uWd rfl iA.out ?_; simp only [Act.put, List.setIfInBounds_toArray, List.set_cons_zero, List.set_cons_succ]))
    refine (g6.out _).mono ?_
    rintro _ w7 ⟨v', rfl, hr, hc7⟩
    have hA7 := hid (hA6.out.below hc7 hA6.out.lt)
    have hK7 := hid (hK6.out.below hc7 hK6.out.lt)
    have hP7 := hid (hP6.out.below hc7 hP6.out.lt)
    have hb7 := hb6.trans (hc7.mono hb6.size)
    clear hA6 hK6 hP6 hb6 hc7
    go_wp2_with fail
    refine (g7.out _ _ hr).mono ?_
    rintro _ w8 ⟨rfl, hc8⟩
    have hA9 := hid ((hA7.out.below hc8 hA7.out.lt).alloc (.cells (cellsW a) 24))
    have hK9 := hid ((hK7.out.below hc8 hK7.out.lt).alloc (.cells (cellsW a) 24))
    have hP9 := hid ((hP7.out.below hc8 hP7.out.lt).alloc (.cells (cellsW a) 24))
    have hX9 := hid (ArrW.new 24 w8 a)
    have hb9 := (hb7.trans (hc8.mono hb7.size)).alloc (hb7.trans (hc8.mono hb7.size)).size (.cells (cellsW a) 24)
    clear hA7 hK7 hP7 hb7 hc8 hr
    go_wp2_with (first | (refine wpList_allocStore 24 64 9 (cellsW a) (cellsW 0) rfl rfl rfl rfl rfl rfl (by decide) (by simp) rfl (by kernel_rfl) rfl iA.out nA.out ?_; simp only [Act.put, List.setIfInBounds_toArray, List.set_cons_zero, List.set_cons_succ]))
    generalize w8.alloc (.cells (cellsW a) 24) = w9 at hA9 hK9 hP9 hX9 hb9 ⊢
    ((try simp only [World.size_alloc]); refine wp_region_ext (by kernel_rfl) (by kernel_rfl) ?_; (try simp only [List.append_eq, List.cons_append, List.nil_append]); (repeat (first | (refine wpQuiet_load_want 24 (.tmp 3) rfl w.heap.size rfl 24 (cellsW _) _ hA9.out uWd rfl iA.out rfl ?_; simp only [Act.put, List.setIfInBounds_toArray, List.set_cons_zero, List.set_cons_succ]) | (refine wpQuiet_load_want 24 (.tmp 7) rfl w4.heap.size rfl 24 (cellsW _) _ hK9.out uWd rfl iK.out rfl ?_; simp only [Act.put, List.setIfInBounds_toArray, List.set_cons_zero, List.set_cons_succ]) | (refine wpQuiet_load_want 24 (.tmp 8) rfl w5.heap.size rfl 24 (cellsW _) _ hP9.out uWd rfl iP.out rfl ?_; simp only [Act.put, List.setIfInBounds_toArray, List.set_cons_zero, List.set_cons_succ]) | (refine wpQuiet_load_want 24 (.tmp 9) rfl w8.heap.size rfl 24 (cellsW _) _ hX9.out uWd rfl iA.out rfl ?_; simp only [Act.put, List.setIfInBounds_toArray, List.set_cons_zero, List.set_cons_succ]) | go_big_quiet_step (first | (go_at_call 16; with_reducible refine Calls.ext_of (g2.out _)) | (go_at_call 26; with_reducible refine Calls.ext_of (g3.out _)) | (go_at_call 18; with_reducible refine Calls.ext_of (g4.out _)) | (go_at_call 49; with_reducible refine Calls.ext_of (g5.out _)) | (go_at_call 24; with_reducible refine Calls.ext_of (walive_any _))))); refine wpQuiet_nil ?_; rintro _ ⟨xw, rfl⟩)
    go_wp2_with fail
    go_ret
    exact ⟨rfl, World.ext_below_of hb9 hb9.size xw⟩
end Go.Proofs.Ytblnjnhneliffaa
