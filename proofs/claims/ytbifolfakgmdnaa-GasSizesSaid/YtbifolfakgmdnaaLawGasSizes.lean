import Derived.Test.YtbifolfakgmdnaaGasE
import Derived.Test.YtbifolfakgmdnaaFrame
/-! GasSizes. -/
namespace Go.Proofs.Ytbifolfakgmdnaa
open Go.RowKit

set_option maxHeartbeats 1000000 in
theorem walk_GasSizes (w : World) (n : Int) (wn : (Lit.int .u64 n).wf = true) (t : Int) (wt : (Lit.int .i64 t).wf = true) (hashed : Bool) :
    Calls Try.prog 6 #[.int .u64 n, .int .i64 t, .bool hashed] w fun e w' => e = .returned (.bool true) ∧ Below w.heap.size w w' := by
  obtain ⟨h0, h1⟩ := wf_u64 wn
  obtain ⟨t0, t1⟩ := wf_i64 wt
  clear wn wt
  go_enter Try.func6, Try.ntmps6
  go_wp2_with (first | (go_at_call 13; (with_reducible refine (Calls.asExt (words_any _ _ h0)).mono ?_); rintro _ _ ⟨rfl, _, rfl⟩) | (go_at_call 14; (with_reducible refine (Calls.asExt (refWords_any _ _ h0)).mono ?_); rintro _ _ ⟨rfl, _, rfl⟩) | (go_at_call 16; (with_reducible refine (Calls.asExt (hash_any _ _ h0)).mono ?_); rintro _ _ ⟨rfl, _, rfl⟩) | (go_at_call 17; (with_reducible refine (Calls.asExt (refHash_any _ _ h0)).mono ?_); rintro _ _ ⟨rfl, _, rfl⟩) | (go_at_call 18; (with_reducible refine (Calls.asExt (copy_any _ _ h0)).mono ?_); rintro _ _ ⟨rfl, _, rfl⟩) | (go_at_call 19; (with_reducible refine (Calls.asExt (refCopy_any _ _ h0)).mono ?_); rintro _ _ ⟨rfl, _, rfl⟩) | (go_at_call 12; (with_reducible refine (Calls.asExt (memory_any _ _ h0)).mono ?_); rintro _ _ ⟨rfl, _, rfl⟩) | (go_at_call 15; (with_reducible refine (Calls.asExt (refMemory_any _ _ h0)).mono ?_); rintro _ _ ⟨rfl, _, rfl⟩) | (go_at_call 20; (with_reducible refine (Calls.asExt (log_any _ _ _ h0 t0 t1)).mono ?_); rintro _ _ ⟨rfl, _, rfl⟩) | (go_at_call 21; (with_reducible refine (Calls.asExt (refLog_any _ _ _ h0 t0 t1)).mono ?_); rintro _ _ ⟨rfl, _, rfl⟩) | (go_at_call 22; (with_reducible refine (Calls.asExt (create_any _ _ _ h0)).mono ?_); rintro _ _ ⟨rfl, _, rfl⟩) | (go_at_call 23; (with_reducible refine (Calls.asExt (refCreate_any _ _ _ h0)).mono ?_); rintro _ _ ⟨rfl, _, rfl⟩) | (go_at_call 11; (with_reducible refine (Calls.asExt (alive_any _)).mono ?_); rintro _ _ ⟨rfl, _, rfl⟩))
  all_goals
    go_ret
    exact ⟨rfl, (by repeat (first | (with_reducible first | exact Below.refl _ _ | assumption | refine World.ext_below_of ?_ ?_ _ | refine Below.setCell ?_ ?_ _ | refine Below.alloc ?_ ?_ _ | refine Below.drew ?_ | refine World.size_le_ext _ _ _ ?_) | (solve | simp [go_sem] | (simp [go_sem]; omega) | omega)))⟩
end Go.Proofs.Ytbifolfakgmdnaa
