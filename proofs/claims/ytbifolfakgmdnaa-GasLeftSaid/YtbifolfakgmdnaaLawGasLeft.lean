import Derived.Test.YtbifolfakgmdnaaGasE
import Derived.Test.YtbifolfakgmdnaaFrame
/-! GasLeft. -/
namespace Go.Proofs.Ytbifolfakgmdnaa
open Go.RowKit

theorem fwd_le (left a b c d : Int) (h0 : 0 ≤ left) : fwdV left a b c d ≤ left := by unfold fwdV; split <;> omega
theorem refund_le (used sum : Int) (h0 : 0 ≤ used) : refundV used sum ≤ used / 5 := by unfold refundV; (repeat' split) <;> omega

set_option maxHeartbeats 1000000 in
theorem walk_GasLeft (w : World) (left : Int) (wl : (Lit.int .u64 left).wf = true) (x : List Int) (lx : x.length = 4) (wx : ∀ y ∈ x, (Lit.int .u64 y).wf = true) (used : Int) (wu : (Lit.int .u64 used).wf = true) (s : Int) (ws : (Lit.int .i64 s).wf = true) :
    Calls Try.prog 7 #[.int .u64 left, .agg (x.map (Value.int .u64)).toArray, .int .u64 used, .int .i64 s] w fun e w' => e = .returned (.bool true) ∧ Below w.heap.size w w' := by
  obtain ⟨a, b, c, d, rfl⟩ := len4 lx
  obtain ⟨h0, h1⟩ := wf_u64 wl
  obtain ⟨u0, u1⟩ := wf_u64 wu
  obtain ⟨s0, s1⟩ := wf_i64 ws
  have ha := hid (wf_u64 (wx a (by simp)))
  have hb := hid (wf_u64 (wx b (by simp)))
  have hc := hid (wf_u64 (wx c (by simp)))
  have hd := hid (wf_u64 (wx d (by simp)))
  clear wl wu ws wx lx
  simp only [List.map_cons, List.map_nil]
  have l1 := fwd_le left a b c d h0
  have l2 := refund_le used s u0
  have c1 : Hid (∀ w, Calls Try.prog 24 #[.int .u64 left, .agg #[.int .u64 a, .int .u64 b, .int .u64 c, .int .u64 d]] w fun e w' => e = .returned (.int .u64 (fwdV left a b c d)) ∧ Below w.heap.size w w') := hid fun w => forward_any left a b c d w h0 h1 ha.out.1
  have c2 : Hid (∀ w, Calls Try.prog 25 #[.int .u64 left, .agg #[.int .u64 a, .int .u64 b, .int .u64 c, .int .u64 d]] w fun e w' => e = .returned (.int .u64 (fwdV left a b c d)) ∧ Below w.heap.size w w') := hid fun w => refForward_any left a b c d w h0 h1 ha.out.1 hb.out hc.out hd.out
  have c3 : Hid (∀ w, Calls Try.prog 26 #[.int .u64 used, .int .i64 s] w fun e w' => e = .returned (.int .u64 (refundV used s)) ∧ Below w.heap.size w w') := hid fun w => refund_any used s w u0 u1 s0 s1
  have c4 : Hid (∀ w, Calls Try.prog 27 #[.int .u64 used, .int .i64 s] w fun e w' => e = .returned (.int .u64 (refundV used s)) ∧ Below w.heap.size w w') := hid fun w => refRefund_any used s w u0 u1 s0 s1
  generalize fwdV left a b c d = fv at *
  generalize refundV used s = rv at *
  go_enter Try.func7, Try.ntmps7
  go_wp2_with (refine wp_region_ext (by kernel_rfl) (by kernel_rfl) ?_; (repeat (go_big_quiet_step (first | (go_at_call 24; with_reducible refine Calls.ext_of (c1.out _)) | (go_at_call 25; with_reducible refine Calls.ext_of (c2.out _)) | (go_at_call 26; with_reducible refine Calls.ext_of (c3.out _)) | (go_at_call 27; with_reducible refine Calls.ext_of (c4.out _)) | (go_at_call 11; with_reducible refine Calls.ext_of (alive_any _))))); refine wpQuiet_nil ?_; rintro _ ⟨x, rfl⟩)
  go_ret
  exact ⟨rfl, (by repeat (first | (with_reducible first | exact Below.refl _ _ | assumption | refine World.ext_below_of ?_ ?_ _ | refine Below.setCell ?_ ?_ _ | refine Below.alloc ?_ ?_ _ | refine Below.drew ?_ | refine World.size_le_ext _ _ _ ?_) | (solve | simp [go_sem] | (simp [go_sem]; omega) | omega)))⟩
end Go.Proofs.Ytbifolfakgmdnaa
