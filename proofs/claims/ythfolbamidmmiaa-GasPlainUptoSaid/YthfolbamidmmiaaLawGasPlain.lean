import Derived.Test.YthfolbamidmmiaaGasF
import Derived.Test.YthfolbamidmmiaaFrameU
import Derived.Test.YthfolbamidmmiaaWArg
import Derived.Test.YthfolbamidmmiaaWant
/-! GasPlain. -/
set_option maxRecDepth 4000
set_option linter.unusedVariables false
set_option linter.unusedSimpArgs false
namespace Go.Proofs.Ythfolbamidmmiaa
open Go.RowKit

theorem RdY.toRd {w : World} {v : Value} {ys : List (BitVec 8)} (h : RdY w v ys) : Rd .u8 w v (ys.map yv) := by
  obtain ⟨a, cap, e, hc, h⟩ := h
  refine ⟨a, cap, by rw [List.length_map]; exact e, fun hx => ?_⟩
  obtain ⟨b, off, e2, h2, h3⟩ := h (by intro e; rw [e] at hx; simp at hx)
  refine ⟨b, off, e2, h2, fun j hj => ?_⟩
  rw [List.length_map] at hj
  rw [h3 j hj]
  simp [ny, hj]
theorem yv_bd (ys : List (BitVec 8)) (j : Nat) : 0 ≤ (ys.map yv).getD j 0 ∧ (ys.map yv).getD j 0 ≤ 255 := by
  by_cases h : j < ys.length
  · have := (ys[j]).isLt
    simp [h, yv]; omega
  · simp [List.getElem?_eq_none (Nat.le_of_not_lt h)]

set_option maxRecDepth 20000 in
set_option maxHeartbeats 4000000 in
theorem walk_GasPlain (w : World) (v : Value) (ys : List (BitVec 8)) (hr : RdY w v ys) (hz : ys.length + 1 ≤ 1048576) (x0 : List Int) (lx : x0.length = 4) (wx : ∀ y ∈ x0, (Lit.int .u64 y).wf = true) (a b c : Bool) :
    Calls Try.prog 10 #[v, .agg (x0.map (Value.int .u64)).toArray, .bool a, .bool b, .bool c] w fun e w' => e = .returned (.bool true) ∧ Below w.heap.size w w' := by
  obtain ⟨x, hx, ea⟩ := word_arg x0 lx wx
  rw [ea]
  have hlen : (ys.map yv).length ≤ 4294967296 := by rw [List.length_map]; omega
  have i1 := hid fun w' (h : Below w.heap.size w w') => intrinsic_any (ys.map yv) v a w' hlen (yv_bd ys) (hr.below h).toRd
  have i2 := hid fun w' (h : Below w.heap.size w w') => refIntrinsic_any (ys.map yv) v a w' hlen (yv_bd ys) (hr.below h).toRd
  generalize intrV (ys.map yv) a = iv at i1 i2
  have e1 := hid fun w => exp_any x w hx
  have e2 := hid fun w => refExp_any x w hx
  generalize (10 + 50 * ((wlen x : Nat) : Int)) = ev at e1 e2
  have a1 := hid fun w => access_any a w
  have a2 := hid fun w => refAccess_any a w
  generalize coldV a 2600 = av at a1 a2
  have s1 := hid fun w => sload_any a w
  have s2 := hid fun w => refSload_any a w
  generalize coldV a 2100 = sv at s1 s2
  have c1 := hid fun w => call_any a b c w
  have c2 := hid fun w => refCall_any a b c w
  generalize callV a b c = cv at c1 c2
  clear ea lx wx x0 hlen hr hz hx
  unfold wd at *
  have iX := hid (iW x)
  have hA0 := hid (ArrW.new 24 w x)
  have hb0 : Below w.heap.size w (w.alloc (.cells (cellsW x) 24)) := (Below.refl _ _).alloc (Nat.le_refl _) _
  go_enter Try.func10, Try.ntmps10
  go_wp2
  generalize w.alloc (.cells (cellsW x) 24) = w1 at hA0 hb0 ⊢
  ((try simp only [World.size_alloc]); refine wp_region_ext (by kernel_rfl) (by kernel_rfl) ?_; (try simp only [List.append_eq, List.cons_append, List.nil_append]); (repeat (first | (refine wpQuiet_load_want 24 (.tmp 6) rfl w.heap.size rfl 24 (cellsW _) _ hA0.out uWd rfl iX.out rfl ?_; simp only [Act.put, List.setIfInBounds_toArray, List.set_cons_zero, List.set_cons_succ]) | go_big_quiet_step (first | (go_at_call 63; with_reducible refine Calls.ext_of (i1.out _ (World.ext_below_of hb0 hb0.size _))) | (go_at_call 64; with_reducible refine Calls.ext_of (i2.out _ (World.ext_below_of hb0 hb0.size _))) | (go_at_call 65; with_reducible refine Calls.ext_of (e1.out _)) | (go_at_call 66; with_reducible refine Calls.ext_of (e2.out _)) | (go_at_call 67; with_reducible refine Calls.ext_of (a1.out _)) | (go_at_call 68; with_reducible refine Calls.ext_of (a2.out _)) | (go_at_call 69; with_reducible refine Calls.ext_of (s1.out _)) | (go_at_call 70; with_reducible refine Calls.ext_of (s2.out _)) | (go_at_call 71; with_reducible refine Calls.ext_of (c1.out _)) | (go_at_call 72; with_reducible refine Calls.ext_of (c2.out _)) | (go_at_call 73; with_reducible refine Calls.ext_of (alive_any _))))); refine wpQuiet_nil ?_; rintro _ ⟨xw, rfl⟩)
  go_wp2
  go_ret
  exact ⟨rfl, World.ext_below_of hb0 hb0.size _⟩
end Go.Proofs.Ythfolbamidmmiaa
