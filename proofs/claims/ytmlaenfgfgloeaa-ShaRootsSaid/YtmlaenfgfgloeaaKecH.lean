import Derived.Test.YtmlaenfgfgloeaaKecC
import Derived.Test.YtmlaenfgfgloeaaByt
import Derived.Test.YtmlaenfgfgloeaaArrN
/-! keccak.absorb. -/
set_option maxRecDepth 4000
set_option linter.unusedVariables false
set_option linter.unusedSimpArgs false
namespace Go.Proofs.Ytmlaenfgfgloeaa
open Go.RowKit

def absGo (s : List (BitVec 64)) (ys : List (BitVec 8)) : Nat → List (BitVec 64)
  | 0 => s
  | i + 1 => (absGo s ys i).set (i / 8) (nb (absGo s ys i) (i / 8) ^^^ ((ny ys i).setWidth 64 <<< (8 * (i % 8))))
theorem absGo_len (s : List (BitVec 64)) (ys : List (BitVec 8)) (i : Nat) : (absGo s ys i).length = s.length := by induction i <;> simp [absGo, *]
/-- A block of 136 bytes into a state. -/
def absL (s : List (BitVec 64)) (ys : List (BitVec 8)) : List (BitVec 64) := permL (absGo s ys 136)
theorem absL_len (s : List (BitVec 64)) (ys : List (BitVec 8)) : (absL s ys).length = s.length := by rw [absL, permL_len, absGo_len]

set_option maxHeartbeats 1000000 in
set_option maxRecDepth 20000 in
set_option maxHeartbeats 1000000 in
theorem absorb_any (s : List (BitVec 64)) (v : Value) (ys : List (BitVec 8)) (w : World) (hs : s.length = 25) (hr : RdY w v ys) (hy : ys.length = 136) :
    Calls Try.prog 36 #[.agg (cellsB s), v] w fun e w' => e = .returned (.agg (cellsB (absL s ys))) ∧ Below w.heap.size w w' := by
  obtain ⟨a, cap, rfl, hc, hr⟩ := hr
  obtain ⟨b, off, rfl, hbl, hcell⟩ := hr (by intro e; subst e; simp at hy)
  rw [hy] at hcell hc ⊢
  have HC := hid hcell
  clear hcell hr
  have HY := hid hy
  clear hy
  go_enter Try.func36, Try.ntmps36
  go_wp2
  go_loopw [9] (fun i wr => ∃ k : Nat, k ≤ 136 ∧ i = .int .i64 k ∧ Hid (ArrB 23 wr w.heap.size (absGo s ys k)) ∧ Hid (ArrB 23 wr (w.heap.size + 1) (List.replicate 25 0)) ∧ Below w.heap.size w wr)
    (fun i _ => 136 - (intOf i).toNat)
  case atStart =>
    refine ⟨0, by omega, rfl, hid ((ArrB.new _ _ s).alloc _), hid ?_, (by repeat (first | (with_reducible first | exact Below.refl _ _ | assumption | refine World.ext_below_of ?_ ?_ _ | refine Below.setCell ?_ ?_ _ | refine Below.alloc ?_ ?_ _ | refine Below.drew ?_ | refine World.size_le_ext _ _ _ ?_) | (solve | simp [go_sem] | (simp [go_sem]; omega) | omega)))⟩
    have := ArrB.new 23 (w.alloc (.cells (cellsB s) 23)) (List.replicate 25 0)
    rw [show (w.alloc (.cells (cellsB s) 23)).heap.size = w.heap.size + 1 from by simp] at this
    exact this
  case round =>
    obtain ⟨k, hk, rfl, hS, hR, hb⟩ := hrel
    have hlen : (absGo s ys k).length = 25 := by rw [absGo_len]; exact hs
    by_cases hlt : k < 136
    · have c1 := HC.out k hlt
      rw [← hb.cell (p := ⟨b, off + k, none⟩) hbl] at c1
      have h8 : k / 8 < 25 := by omega
      have c2 := hS.out.cell (k / 8) (by omega)
      have f2 := hS.out.free (k / 8)
      have l2 := hS.out.lt
      have hsh : k % 8 < 8 := Nat.mod_lt _ (by omega)

      clear hlen
      go_wp2_with (refine wp_region_ext_tail 12 (by kernel_rfl) (by kernel_rfl) ?_; simp only [List.take_succ_cons, List.take_zero, List.drop_succ_cons, List.drop_zero]; (repeat (go_big_quiet_step (first | fail))); refine wpQuiet_nil ?_; rintro _ ⟨xw, rfl⟩)
      refine ⟨⟨k + 1, by omega, by go_num, ?_, hid ((hR.out.ext _).other (by show w.heap.size + 1 ≠ w.heap.size; omega) _), (by repeat (first | (with_reducible first | exact Below.refl _ _ | assumption | refine World.ext_below_of ?_ ?_ _ | refine Below.setCell ?_ ?_ _ | refine Below.alloc ?_ ?_ _ | refine Below.drew ?_ | refine World.size_le_ext _ _ _ ?_) | (solve | simp [go_sem] | (simp [go_sem]; omega) | omega)))⟩, by simp [intOf]; omega⟩
      rw [yv_wrap, iv_shl, iv_xor]
      exact hid ((hS.out.ext _).set (k / 8) _)
    · obtain rfl : k = 136 := by omega
      have hlA : (absGo s ys 136).length = 25 := by rw [absGo_len]; exact hs
      have hlP : (absL s ys).length = 25 := by rw [absL_len]; exact hs
      have iS := hid (show (Try.prog.info? 23).map (·.size) = some (cellsB (absGo s ys 136)).size by rw [size_cellsB, hlA]; exact iArr25)
      have iP := hid (show (Try.prog.info? 23).map (·.size) = some (cellsB (absL s ys)).size by rw [size_cellsB, hlP]; exact iArr25)
      have oP := hid (show (cellsB (List.replicate 25 0)).size = (cellsB (absL s ys)).size by rw [size_cellsB, size_cellsB, hlP]; rfl)
      have nP := hid (one_cellsB (absL s ys))
      have HA := hid hlA
      have hp := permute_any (absGo s ys 136)
      rw [show permL (absGo s ys 136) = absL s ys from rfl] at hp
      have HP := hid fun w => hp w hlA
      clear hp hlA hlP hlt hk hlen
      obtain ⟨z, hz⟩ : ∃ z : List (BitVec 64), z = List.replicate 25 0 := ⟨_, rfl⟩
      rw [← hz] at hR oP
      clear hz
      obtain ⟨s1, hs1⟩ : ∃ s1, s1 = absGo s ys 136 := ⟨_, rfl⟩
      rw [← hs1] at hS iS HA HP
      obtain ⟨s2, hs2⟩ : ∃ s2, s2 = absL s ys := ⟨_, rfl⟩
      rw [← hs2] at iP oP nP HP
      have HS2 := hid hs2
      clear hs1 hs2
      go_wp2_with (refine wpList_load_row rfl 23 (.tmp 2) rfl w.heap.size rfl 23 _ (0, 0) _ hS.out uArr25 rfl iS.out ?_; simp only [Act.put, List.setIfInBounds_toArray, List.set_cons_zero, List.set_cons_succ])
      refine (HP.out _).mono ?_
      rintro e w1 ⟨rfl, hb1⟩
      have hR1 := hid (hR.out.below hb1 hR.out.lt)
      have hbb : Below w.heap.size w w1 := hb.trans (hb1.mono hb.size)
      clear hS hR hb hb1
      go_wp2_with (refine wpList_store_row rfl 23 (.tmp 4) (.tmp 28) rfl (w.heap.size + 1) _ rfl rfl 23 _ hR1.out iP.out oP.out nP.out ?_; simp only [Act.put])
      refine bodyPost_ret (results_cell_row rfl _ _ (w.heap.size + 1) 23 (cellsB s2) (0, 0) _ rfl (heap_setRow _ _ _ _ _ hR1.out) uArr25 rfl iP.out) rfl ⟨by rw [HS2.out], below_setRow hbb _ (by omega) _⟩
end Go.Proofs.Ytmlaenfgfgloeaa
