import Derived.Test.YthfolbamidmmiaaGasE
import Derived.Test.YthfolbamidmmiaaWordI
/-! conclaveref12.Intrinsic; exponents, accesses, calls. -/
set_option maxRecDepth 4000
set_option linter.unusedVariables false
set_option linter.unusedSimpArgs false
namespace Go.Proofs.Ythfolbamidmmiaa
open Go.RowKit

set_option maxHeartbeats 1000000 in
theorem refIntrinsic_any (ds : List Int) (v : Value) (create : Bool) (w : World) (hl : ds.length ≤ 4294967296) (hd : ∀ j, 0 ≤ ds.getD j 0 ∧ ds.getD j 0 ≤ 255) (hr : Rd .u8 w v ds) :
    Calls Try.prog 64 #[v, .bool create] w fun e w' => e = .returned (.int .u64 (intrV ds create)) ∧ Below w.heap.size w w' := by
  obtain ⟨a, cap, rfl, hc⟩ := hr
  have HD := hid hd
  have HC := hid hc
  clear hd hc
  go_enter Try.func64, Try.ntmps64
  go_wp2
  go_loopw [5, 6] (fun sv iv wr => ∃ k : Nat, k ≤ ds.length ∧ iv = .int .i64 (k : Int) ∧ sv = .int .u64 (21000 + 4 * zeros (ds.take k) + 16 * ((k : Int) - zeros (ds.take k))) ∧ Below w.heap.size w wr)
    (fun _ i _ => ds.length - (intOf i).toNat)
  case atStart => exact ⟨0, by omega, rfl, by simp [zeros], Below.refl _ _⟩
  case round =>
    obtain ⟨k, hk, rfl, rfl, hb⟩ := hrel
    by_cases hlt : k < ds.length
    · obtain ⟨b, off, rfl, hbw, hcell⟩ := HC.out (by intro h; simp [h] at hlt)
      have hd := HD.out k
      have hzb := zeros_bd (ds.take k)
      have hzl : (ds.take k).length ≤ k := List.length_take_le _ _
      have hz1 := hid (zeros_snoc ds k hlt)
      obtain ⟨x, hx⟩ : ∃ x, x = ds.getD k 0 := ⟨_, rfl⟩
      obtain ⟨z, hz⟩ : ∃ z, z = zeros (ds.take k) := ⟨_, rfl⟩
      have hcx : wr.cell? ⟨b, off + k, none⟩ = some (.int .u8 x) := by rw [hb.cell (p := ⟨b, off + k, none⟩) hbw, hx]; exact hcell k hlt
      rw [← hz] at hzb ⊢
      rw [← hx, ← hz] at hz1
      rw [← hx] at hd
      have hzk : z ≤ (k : Int) := by omega
      clear hx hz hcell hzl
      by_cases hx0 : x = 0
      · subst hx0
        have e1 := hid (show zeros (ds.take (k + 1)) = z + 1 by rw [hz1.out]; simp)
        clear hz1
        go_wp2
        go_roundw
        case rel => exact ⟨k + 1, by omega, by go_num, by rw [e1.out]; congr 1; push_cast; omega, hb⟩
        case measure => simp [intOf]; omega
      · have e1 := hid (show zeros (ds.take (k + 1)) = z by rw [hz1.out, if_neg hx0]; simp)
        clear hz1
        go_wp2
        go_roundw
        case rel => exact ⟨k + 1, by omega, by go_num, by rw [e1.out]; congr 1; push_cast; omega, hb⟩
        case measure => simp [intOf]; omega
    · obtain rfl : k = ds.length := by omega
      have e1 := List.take_of_length_le (Nat.le_refl ds.length)
      rw [e1]
      have hzb := zeros_bd ds
      obtain ⟨z, hz⟩ : ∃ z, z = zeros ds := ⟨_, rfl⟩
      rw [← hz] at hzb ⊢
      have HZ := hid hz
      clear hz hlt hk e1
      cases create
      · have HI := hid (show intrV ds false = 21000 + 4 * z + 16 * (ds.length - z) by unfold intrV; rw [HZ.out]; simp)
        go_wp2
        go_ret
        exact ⟨ret_int (by rw [HI.out]), hb⟩
      · have hpc := fun w => refWords_any (ds.length : Int) w (by omega)
        have hpv : perV ds.length 0 1 = (ds.length + 31) / 32 := by unfold perV; rw [if_neg (by omega)]; omega
        rw [hpv] at hpc
        clear hpv
        have HPC := hid hpc
        clear hpc
        have HI := hid (show intrV ds true = 21000 + 4 * z + 16 * (ds.length - z) + (32000 + 2 * ((ds.length + 31) / 32)) by unfold intrV; rw [HZ.out]; simp)
        have hq : 0 ≤ ((ds.length : Int) + 31) / 32 := by omega
        have hq2 : ((ds.length : Int) + 31) / 32 ≤ 134217728 := by omega
        go_wp2_with (go_at_call 102; refine (HPC.out _).mono ?_; rintro e w' ⟨rfl, hbc⟩)
        go_ret
        exact ⟨ret_int (by rw [HI.out]; omega), hb.trans (hbc.mono hb.size)⟩

set_option maxHeartbeats 1000000 in
theorem exp_any (x : Nat) (w : World) (hx : x < 2 ^ 256) : Calls Try.prog 65 #[wd x] w fun e w' => e = .returned (.int .u64 (10 + 50 * ((wlen x : Nat) : Int))) ∧ Below w.heap.size w w' := by
  have hL := hid (fun w => wlen_any x w hx)
  have hl := wlen_le x hx
  obtain ⟨n, hn⟩ : ∃ n, n = wlen x := ⟨_, rfl⟩
  rw [← hn] at hL hl ⊢
  clear hn hx
  unfold wd at *
  have iX := hid (iW x)
  have hA0 := hid (ArrW.new 24 w x)
  have hb0 : Below w.heap.size w (w.alloc (.cells (cellsW x) 24)) := (Below.refl _ _).alloc (Nat.le_refl _) _
  go_enter Try.func65, Try.ntmps65
  go_wp2_with (refine wpList_load_row rfl 24 (.tmp 1) rfl w.heap.size rfl 24 _ (0, 0) _ hA0.out uWd rfl iX.out ?_; simp only [Act.put, List.setIfInBounds_toArray, List.set_cons_zero, List.set_cons_succ])
  refine (hL.out _).mono ?_
  rintro e w1 ⟨rfl, hb1⟩
  go_wp2_with fail
  go_ret
  exact ⟨rfl, hb0.trans (hb1.mono hb0.size)⟩
set_option maxHeartbeats 1000000 in
theorem refExp_any (x : Nat) (w : World) (hx : x < 2 ^ 256) : Calls Try.prog 66 #[wd x] w fun e w' => e = .returned (.int .u64 (10 + 50 * ((wlen x : Nat) : Int))) ∧ Below w.heap.size w w' := by
  have hL := hid (fun w => rshort_any x w hx)
  have hl := wlen_le x hx
  have hsl := hid (show (shortW x).length = wlen x from be_len _ _)
  obtain ⟨n, hn⟩ : ∃ n, n = wlen x := ⟨_, rfl⟩
  rw [← hn] at hl hsl ⊢
  clear hn hx
  unfold wd at *
  have iX := hid (iW x)
  have hA0 := hid (ArrW.new 24 w x)
  have hb0 : Below w.heap.size w (w.alloc (.cells (cellsW x) 24)) := (Below.refl _ _).alloc (Nat.le_refl _) _
  go_enter Try.func66, Try.ntmps66
  go_wp2_with (refine wpList_load_row rfl 24 (.tmp 1) rfl w.heap.size rfl 24 _ (0, 0) _ hA0.out uWd rfl iX.out ?_; simp only [Act.put, List.setIfInBounds_toArray, List.set_cons_zero, List.set_cons_succ])
  refine (hL.out _).mono ?_
  rintro e w1 ⟨v', rfl, hr, hb1⟩
  obtain ⟨a, cap, rfl, _, _⟩ := hr
  rw [hsl.out]
  go_wp2_with fail
  go_ret
  exact ⟨rfl, hb0.trans (hb1.mono hb0.size)⟩

def coldV (warm : Bool) (more : Int) : Int := if warm then 100 else more
theorem cold_any (warm : Bool) (more : Int) (w : World) : Calls Try.prog 103 #[.bool warm, .int .u64 more] w fun e w' => e = .returned (.int .u64 (coldV warm more)) ∧ Below w.heap.size w w' := by
  cases warm
  all_goals
    go_enter Try.func103, Try.ntmps103
    go_wp2
    go_ret
    exact ⟨rfl, Below.refl _ _⟩
theorem access_any (warm : Bool) (w : World) : Calls Try.prog 67 #[.bool warm] w fun e w' => e = .returned (.int .u64 (coldV warm 2600)) ∧ Below w.heap.size w w' := by
  have h := hid fun w => cold_any warm 2600 w
  go_enter Try.func67, Try.ntmps67
  go_wp2_with (go_at_call 103; (with_reducible refine (Calls.asExt (h.out _)).mono ?_); rintro _ _ ⟨rfl, _, rfl⟩)
  go_ret
  exact ⟨rfl, (by repeat (first | (with_reducible first | exact Below.refl _ _ | assumption | refine World.ext_below_of ?_ ?_ _ | refine Below.setCell ?_ ?_ _ | refine Below.alloc ?_ ?_ _ | refine Below.drew ?_ | refine World.size_le_ext _ _ _ ?_) | (solve | simp [go_sem] | (simp [go_sem]; omega) | omega)))⟩
theorem sload_any (warm : Bool) (w : World) : Calls Try.prog 69 #[.bool warm] w fun e w' => e = .returned (.int .u64 (coldV warm 2100)) ∧ Below w.heap.size w w' := by
  have h := hid fun w => cold_any warm 2100 w
  go_enter Try.func69, Try.ntmps69
  go_wp2_with (go_at_call 103; (with_reducible refine (Calls.asExt (h.out _)).mono ?_); rintro _ _ ⟨rfl, _, rfl⟩)
  go_ret
  exact ⟨rfl, (by repeat (first | (with_reducible first | exact Below.refl _ _ | assumption | refine World.ext_below_of ?_ ?_ _ | refine Below.setCell ?_ ?_ _ | refine Below.alloc ?_ ?_ _ | refine Below.drew ?_ | refine World.size_le_ext _ _ _ ?_) | (solve | simp [go_sem] | (simp [go_sem]; omega) | omega)))⟩
theorem refAccess_any (warm : Bool) (w : World) : Calls Try.prog 68 #[.bool warm] w fun e w' => e = .returned (.int .u64 (coldV warm 2600)) ∧ Below w.heap.size w w' := by
  cases warm
  all_goals
    go_enter Try.func68, Try.ntmps68
    go_wp2
    go_ret
    exact ⟨rfl, Below.refl _ _⟩
theorem refSload_any (warm : Bool) (w : World) : Calls Try.prog 70 #[.bool warm] w fun e w' => e = .returned (.int .u64 (coldV warm 2100)) ∧ Below w.heap.size w w' := by
  cases warm
  all_goals
    go_enter Try.func70, Try.ntmps70
    go_wp2
    go_ret
    exact ⟨rfl, Below.refl _ _⟩
def callV (warm value ex : Bool) : Int := coldV warm 2600 + if value then (if ex then 9000 else 34000) else 0
theorem call_any (warm value ex : Bool) (w : World) : Calls Try.prog 71 #[.bool warm, .bool value, .bool ex] w fun e w' => e = .returned (.int .u64 (callV warm value ex)) ∧ Below w.heap.size w w' := by
  cases warm <;> cases value <;> cases ex
  all_goals
    have h := hid fun w => access_any false w
    have h2 := hid fun w => access_any true w
    go_enter Try.func71, Try.ntmps71
    go_wp2_with (first | (go_at_call 67; (with_reducible refine (Calls.asExt (h.out _)).mono ?_); rintro _ _ ⟨rfl, _, rfl⟩) | (go_at_call 67; (with_reducible refine (Calls.asExt (h2.out _)).mono ?_); rintro _ _ ⟨rfl, _, rfl⟩))
    go_ret
    exact ⟨ret_int (by first | rfl | simp [callV, coldV]), (by repeat (first | (with_reducible first | exact Below.refl _ _ | assumption | refine World.ext_below_of ?_ ?_ _ | refine Below.setCell ?_ ?_ _ | refine Below.alloc ?_ ?_ _ | refine Below.drew ?_ | refine World.size_le_ext _ _ _ ?_) | (solve | simp [go_sem] | (simp [go_sem]; omega) | omega)))⟩
theorem refCall_any (warm value ex : Bool) (w : World) : Calls Try.prog 72 #[.bool warm, .bool value, .bool ex] w fun e w' => e = .returned (.int .u64 (callV warm value ex)) ∧ Below w.heap.size w w' := by
  cases warm <;> cases value <;> cases ex
  all_goals
    have h := hid fun w => refAccess_any false w
    have h2 := hid fun w => refAccess_any true w
    rw [show coldV false 2600 = 2600 from rfl] at h
    rw [show coldV true 2600 = 100 from rfl] at h2
    go_enter Try.func72, Try.ntmps72
    go_wp2_with (first | (go_at_call 68; (with_reducible refine (Calls.asExt (h.out _)).mono ?_); rintro _ _ ⟨rfl, _, rfl⟩) | (go_at_call 68; (with_reducible refine (Calls.asExt (h2.out _)).mono ?_); rintro _ _ ⟨rfl, _, rfl⟩))
    go_ret
    exact ⟨ret_int (by first | rfl | simp [callV, coldV]), (by repeat (first | (with_reducible first | exact Below.refl _ _ | assumption | refine World.ext_below_of ?_ ?_ _ | refine Below.setCell ?_ ?_ _ | refine Below.alloc ?_ ?_ _ | refine Below.drew ?_ | refine World.size_le_ext _ _ _ ?_) | (solve | simp [go_sem] | (simp [go_sem]; omega) | omega)))⟩
end Go.Proofs.Ythfolbamidmmiaa
