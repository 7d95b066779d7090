import Derived.Test.YtbifolfakgmdnaaGasD
import Derived.Test.YtbifolfakgmdnaaFrame
/-! GasSlots. -/
namespace Go.Proofs.Ytbifolfakgmdnaa
open Go.RowKit
set_option linter.unusedVariables false
set_option linter.unusedSimpArgs false

set_option maxHeartbeats 1000000 in
theorem walk_GasSlots (w : World) (f : List Int) (lf : f.length = 4) (wf : ∀ y ∈ f, (Lit.int .u64 y).wf = true) (n : List Int) (ln : n.length = 4) (wn : ∀ y ∈ n, (Lit.int .u64 y).wf = true) (x : List Int) (lx : x.length = 4) (wx : ∀ y ∈ x, (Lit.int .u64 y).wf = true) (warm : Bool) :
    Calls Try.prog 3 #[.agg (f.map (Value.int .u64)).toArray, .agg (n.map (Value.int .u64)).toArray, .agg (x.map (Value.int .u64)).toArray, .bool warm] w fun e w' => e = .returned (.bool true) ∧ Below w.heap.size w w' := by
  obtain ⟨f0, f1, f2, f3, rfl⟩ := len4 lf
  obtain ⟨n0, n1, n2, n3, rfl⟩ := len4 ln
  obtain ⟨x0, x1, x2, x3, rfl⟩ := len4 lx
  clear wf wn wx lf ln lx
  simp only [List.map_cons, List.map_nil]
  go_enter Try.func3, Try.ntmps3
  go_wp2_with (first | (go_at_call 9; refine (Calls.asExt (sstore_any _ _ _ _ _ _ _ _ _ _ _ _ _ _)).mono ?_; rintro _ _ ⟨rfl, _, rfl⟩) | (go_at_call 10; refine (Calls.asExt (refSstore_any _ _ _ _ _ _ _ _ _ _ _ _ _ _)).mono ?_; rintro _ _ ⟨rfl, _, rfl⟩) | (go_at_call 11; refine (Calls.asExt (alive_any _)).mono ?_; rintro _ _ ⟨rfl, _, rfl⟩))
  go_ret
  exact ⟨rfl, (by repeat (first | (with_reducible first | exact Below.refl _ _ | assumption | refine World.ext_below_of ?_ ?_ _ | refine Below.setCell ?_ ?_ _ | refine Below.alloc ?_ ?_ _ | refine Below.drew ?_ | refine World.size_le_ext _ _ _ ?_) | (solve | simp [go_sem] | (simp [go_sem]; omega) | omega)))⟩
end Go.Proofs.Ytbifolfakgmdnaa
