import Derived.Test.YtmlaenfgfgloeaaKecH
import Derived.Test.YtmlaenfgfgloeaaRnd
/-! keccak.blocks, and the iterator that it hands back. -/
set_option maxRecDepth 4000
set_option linter.unusedVariables false
set_option linter.unusedSimpArgs false
namespace Go.Proofs.Ytmlaenfgfgloeaa
open Go.RowKit

def blk (n : Nat) : Nat := n / 136 * 136
def seqV (w : World) : Value := .func (.func 49) #[] #[.pointer (some ⟨w.heap.size + 1, 0, none⟩), .pointer (some ⟨w.heap.size, 0, none⟩)]

set_option maxHeartbeats 1000000 in
theorem blocks_some (g L cap : Nat) (w : World) (hL : L ≤ cap) (hc : cap ≤ maxLen) :
    Calls Try.prog 35 #[.slice (some ⟨g, 0, none⟩) L cap] w fun e w' => (∃ off, (0 < L - blk L → off = blk L) ∧ e = .returned (.tuple #[seqV w, .slice (some ⟨g, off, none⟩) (L - blk L) (cap - blk L)])) ∧ Below w.heap.size w w' ∧
      Boxed w' w.heap.size 27 (.slice (some ⟨g, 0, none⟩) L cap) ∧ Boxed w' (w.heap.size + 1) 3 (.int .i64 (blk L)) := by
  have h0 : blk L ≤ L := Nat.div_mul_le_self _ _
  have h1 : (L : Int) / 136 * 136 = (blk L : Int) := by unfold blk; omega
  unfold maxLen at hc
  go_enter Try.func35, Try.ntmps35
  go_wp2_with (refine wp_region_ext (by kernel_rfl) (by kernel_rfl) ?_; (repeat (go_big_quiet_step (first | fail))); refine wpQuiet_nil ?_; rintro _ ⟨xw, rfl⟩)
  · go_ret2
    refine ⟨⟨0, fun h => by omega, by simp [seqV]⟩, (by repeat (first | (with_reducible first | exact Below.refl _ _ | assumption | refine World.ext_below_of ?_ ?_ _ | refine Below.setCell ?_ ?_ _ | refine Below.alloc ?_ ?_ _ | refine Below.drew ?_ | refine World.size_le_ext _ _ _ ?_) | (solve | simp [go_sem] | (simp [go_sem]; omega) | omega))), ?_, ?_⟩
    · exact (World.heap_ext _ _ _ (by simp; omega)).trans ((Boxed.new w _ _).alloc _)
    · refine (World.heap_ext _ _ _ (by simp)).trans ?_
      have := Boxed.new (w.alloc (.cells #[.slice (some ⟨g, 0, none⟩) L (blk L)] 27)) 3 (.int .i64 (blk L))
      rw [World.size_alloc] at this
      exact this
  · go_ret2
    refine ⟨⟨blk L, fun _ => rfl, by simp [seqV]⟩, (by repeat (first | (with_reducible first | exact Below.refl _ _ | assumption | refine World.ext_below_of ?_ ?_ _ | refine Below.setCell ?_ ?_ _ | refine Below.alloc ?_ ?_ _ | refine Below.drew ?_ | refine World.size_le_ext _ _ _ ?_) | (solve | simp [go_sem] | (simp [go_sem]; omega) | omega))), ?_, ?_⟩
    · exact (World.heap_ext _ _ _ (by simp; omega)).trans ((Boxed.new w _ _).alloc _)
    · refine (World.heap_ext _ _ _ (by simp)).trans ?_
      have := Boxed.new (w.alloc (.cells #[.slice (some ⟨g, 0, none⟩) L cap] 27)) 3 (.int .i64 (blk L))
      rw [World.size_alloc] at this
      exact this

set_option maxHeartbeats 1000000 in
theorem blocks_nil (w : World) :
    Calls Try.prog 35 #[.slice none 0 0] w fun e w' => e = .returned (.tuple #[seqV w, .slice none 0 0]) ∧ Below w.heap.size w w' ∧
      Boxed w' w.heap.size 27 (.slice none 0 0) ∧ Boxed w' (w.heap.size + 1) 3 (.int .i64 0) := by
  go_enter Try.func35, Try.ntmps35
  go_wp2_with (refine wp_region_ext (by kernel_rfl) (by kernel_rfl) ?_; (repeat (go_big_quiet_step (first | fail))); refine wpQuiet_nil ?_; rintro _ ⟨xw, rfl⟩)
  go_ret2
  refine ⟨rfl, (by repeat (first | (with_reducible first | exact Below.refl _ _ | assumption | refine World.ext_below_of ?_ ?_ _ | refine Below.setCell ?_ ?_ _ | refine Below.alloc ?_ ?_ _ | refine Below.drew ?_ | refine World.size_le_ext _ _ _ ?_) | (solve | simp [go_sem] | (simp [go_sem]; omega) | omega))), ?_, ?_⟩
  · exact (World.heap_ext _ _ _ (by simp; omega)).trans ((Boxed.new w _ _).alloc _)
  · refine (World.heap_ext _ _ _ (by simp)).trans ?_
    have := Boxed.new (w.alloc (.cells #[.slice none 0 0] 27)) 3 (.int .i64 0)
    rw [World.size_alloc] at this
    exact this
end Go.Proofs.Ytmlaenfgfgloeaa
