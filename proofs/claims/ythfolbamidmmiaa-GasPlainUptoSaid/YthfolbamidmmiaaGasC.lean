import Derived.Test.YthfolbamidmmiaaGasB
import Derived.Test.YthfolbamidmmiaaRead
/-! gas.Intrinsic. -/
set_option maxRecDepth 4000
set_option linter.unusedVariables false
set_option linter.unusedSimpArgs false
namespace Go.Proofs.Ythfolbamidmmiaa
open Go.RowKit

def zeros (l : List Int) : Int := ((l.filter fun c => c == 0).length : Nat)
theorem zeros_bd (l : List Int) : 0 ≤ zeros l ∧ zeros l ≤ l.length := by
  unfold zeros; have := List.length_filter_le (fun c : Int => c == 0) l; omega
theorem zeros_snoc (l : List Int) (k : Nat) (h : k < l.length) : zeros (l.take (k + 1)) = zeros (l.take k) + if l.getD k 0 = 0 then 1 else 0 := by
  rw [List.take_succ_eq_append_getElem h]
  unfold zeros
  rw [List.filter_append]
  have : l.getD k 0 = l[k] := by simp [h]
  rw [this]
  by_cases c : l[k] = 0 <;> simp [c]
def intrV (l : List Int) (create : Bool) : Int := 21000 + 4 * zeros l + 16 * (l.length - zeros l) + if create then 32000 + 2 * ((l.length + 31) / 32) else 0

theorem u50 : Try.prog.underlying 81 = some (.array 2 22) := by kernel_rfl
theorem idx0 (w : World) : (Instr.index 81 (.agg #[.int .u64 4, .int .u64 16]) (.int .i64 0)).run Try.prog w = .ok (.int .u64 4) w := by simpa using run_index_ints u50 iU cU uU [4, 16] rfl 0 (by omega) (by omega) w
theorem idx1 (w : World) : (Instr.index 81 (.agg #[.int .u64 4, .int .u64 16]) (.int .i64 1)).run Try.prog w = .ok (.int .u64 16) w := by simpa using run_index_ints u50 iU cU uU [4, 16] rfl 1 (by omega) (by omega) w

set_option maxHeartbeats 1000000 in
theorem intrinsic_any (ds : List Int) (v : Value) (create : Bool) (w : World) (hl : ds.length ≤ 4294967296) (hd : ∀ j, 0 ≤ ds.getD j 0 ∧ ds.getD j 0 ≤ 255) (hr : Rd .u8 w v ds) :
    Calls Try.prog 63 #[v, .bool create] w fun e w' => e = .returned (.int .u64 (intrV ds create)) ∧ Below w.heap.size w w' := by
  obtain ⟨a, cap, rfl, hc⟩ := hr
  have HD := hid hd
  have HC := hid hc
  clear hd hc
  go_enter Try.func63, Try.ntmps63
  go_wp2
  go_loopw [13] (fun i wr => ∃ k : Nat, k ≤ ds.length ∧ i = .int .i64 k ∧ Below w.heap.size w wr ∧ wr.heap.size = w.heap.size + 1 ∧ wr.cell? ⟨w.heap.size, 0, none⟩ = some (.int .u64 (zeros (ds.take k))) ∧ wr.cell? ⟨w.heap.size, 1, none⟩ = some (.int .u64 (k - zeros (ds.take k))) ∧ wr.frozen? ⟨w.heap.size, 0, none⟩ = false ∧ wr.frozen? ⟨w.heap.size, 1, none⟩ = false)
    (fun i _ => ds.length - (intOf i).toNat)
  case atStart => exact ⟨0, by omega, rfl, (by repeat (first | (with_reducible first | exact Below.refl _ _ | assumption | refine World.ext_below_of ?_ ?_ _ | refine Below.setCell ?_ ?_ _ | refine Below.alloc ?_ ?_ _ | refine Below.drew ?_ | refine World.size_le_ext _ _ _ ?_) | (solve | simp [go_sem] | (simp [go_sem]; omega) | omega))), by simp, by simp [go_sem, zeros], by simp [go_sem, zeros], by simp [go_sem], by simp [go_sem]⟩
  case round =>
    obtain ⟨k, hk, rfl, hb, hz, hc0, hc1, hf0, hf1⟩ := hrel
    by_cases hlt : k < ds.length
    · obtain ⟨b, off, rfl, hbw, hcell⟩ := HC.out (by intro h; simp [h] at hlt)
      have hd := HD.out k
      have hzb := zeros_bd (ds.take k)
      have hzl : (ds.take k).length ≤ k := List.length_take_le _ _
      have hz1 := hid (zeros_snoc ds k hlt)
      obtain ⟨x, hx⟩ : ∃ x, x = ds.getD k 0 := ⟨_, rfl⟩
      obtain ⟨z, hz⟩ : ∃ z, z = zeros (ds.take k) := ⟨_, rfl⟩
      have hcx : wr.cell? ⟨b, off + k, none⟩ = some (.int .u8 x) := by rw [hb.cell (p := ⟨b, off + k, none⟩) hbw, hx]; exact hcell k hlt
      rw [← hz] at hc0 hc1 hzb
      rw [← hx, ← hz] at hz1
      rw [← hx] at hd
      have HX := hid hx
      have HZ := hid hz
      clear hx hz hcell
      have hcases : x = 0 ∨ x = 1 ∨ 2 ≤ x := by omega
      rcases hcases with hx0 | hx0 | hx0
      · subst hx0
        go_wp2
        go_roundw
        case rel =>
          have e1 : zeros (ds.take (k + 1)) = z + 1 := by rw [hz1.out]; simp
          refine ⟨k + 1, by omega, rfl, (by repeat (first | (with_reducible first | exact Below.refl _ _ | assumption | refine World.ext_below_of ?_ ?_ _ | refine Below.setCell ?_ ?_ _ | refine Below.alloc ?_ ?_ _ | refine Below.drew ?_ | refine World.size_le_ext _ _ _ ?_) | (solve | simp [go_sem] | (simp [go_sem]; omega) | omega))), by simp [World.setCell, hz], ?_, ?_, ?_, ?_⟩
          · rw [e1]; simp [go_sem, hc0]
          · rw [e1]; simp [go_sem, hc1]; omega
          · simp [go_sem, hf0]
          · simp [go_sem, hf1]
        case measure => simp [intOf]; omega
      · subst hx0
        go_wp2
        go_roundw
        case rel =>
          have e1 : zeros (ds.take (k + 1)) = z := by rw [hz1.out]; simp
          refine ⟨k + 1, by omega, rfl, (by repeat (first | (with_reducible first | exact Below.refl _ _ | assumption | refine World.ext_below_of ?_ ?_ _ | refine Below.setCell ?_ ?_ _ | refine Below.alloc ?_ ?_ _ | refine Below.drew ?_ | refine World.size_le_ext _ _ _ ?_) | (solve | simp [go_sem] | (simp [go_sem]; omega) | omega))), by simp [World.setCell, hz], ?_, ?_, ?_, ?_⟩
          · rw [e1]; simp [go_sem, hc0]
          · rw [e1]; simp [go_sem, hc1]; omega
          · simp [go_sem, hf0]
          · simp [go_sem, hf1]
        case measure => simp [intOf]; omega
      · go_wp2
        go_roundw
        case rel =>
          have e1 : zeros (ds.take (k + 1)) = z := by rw [hz1.out, if_neg (by omega)]; simp
          refine ⟨k + 1, by omega, rfl, (by repeat (first | (with_reducible first | exact Below.refl _ _ | assumption | refine World.ext_below_of ?_ ?_ _ | refine Below.setCell ?_ ?_ _ | refine Below.alloc ?_ ?_ _ | refine Below.drew ?_ | refine World.size_le_ext _ _ _ ?_) | (solve | simp [go_sem] | (simp [go_sem]; omega) | omega))), by simp [World.setCell, hz], ?_, ?_, ?_, ?_⟩
          · rw [e1]; simp [go_sem, hc0]
          · rw [e1]; simp [go_sem, hc1]; omega
          · simp [go_sem, hf0]
          · simp [go_sem, hf1]
        case measure => simp [intOf]; omega
    · obtain rfl : k = ds.length := by omega
      rw [List.take_of_length_le (Nat.le_refl _)] at hc0 hc1
      have hzb := zeros_bd ds
      obtain ⟨z, hz⟩ : ∃ z, z = zeros ds := ⟨_, rfl⟩
      rw [← hz] at hc0 hc1 hzb
      have HZ := hid hz
      clear hz hlt hk
      go_wp2
      obtain ⟨wo, hwo⟩ : ∃ wo : World, wo = wr := ⟨_, rfl⟩
      subst hwo
      go_loop [8, 25] (fun s i => (s = .int .u64 21000 ∧ i = .int .i64 0) ∨ (s = .int .u64 (21000 + 4 * z) ∧ i = .int .i64 1) ∨ (s = .int .u64 (21000 + 4 * z + 16 * (ds.length - z)) ∧ i = .int .i64 2))
        (fun _ i => 2 - (intOf i).toNat)
      case atStart => exact .inl ⟨rfl, rfl⟩
      case round =>
        rcases hrel with ⟨rfl, rfl⟩ | ⟨rfl, rfl⟩ | ⟨rfl, rfl⟩
        · have i0 := idx0
          go_wp2
          go_round
          case rel => exact .inr (.inl ⟨rfl, rfl⟩)
          case measure => simp [intOf]
        · have i1 := idx1
          go_wp2
          go_round
          case rel => exact .inr (.inr ⟨rfl, rfl⟩)
          case measure => simp [intOf]
        · by_cases hcr : create = true
          · subst hcr
            have hpv : perV ds.length 32000 2 = 32000 + 2 * ((ds.length + 31) / 32) := by unfold perV; rw [if_neg (by omega)]
            have hpc := fun w => per_any ds.length 32000 2 w (by omega) (by omega) (by omega) (by omega) (by omega)
            rw [hpv] at hpc
            clear hpv
            have HPC := hid hpc
            clear hpc
            have HI : Hid (intrV ds true = 21000 + 4 * z + 16 * (ds.length - z) + (32000 + 2 * ((ds.length + 31) / 32))) := hid (by unfold intrV; rw [HZ.out]; simp)
            go_wp2_with (go_at_call 101; refine (HPC.out _).mono ?_; rintro e w' ⟨rfl, hbc⟩)
            go_ret
            exact ⟨ret_int (by rw [HI.out]), hb.trans (hbc.mono (by omega))⟩
          · have hcr : create = false := by simpa using hcr
            subst hcr
            have HI : Hid (intrV ds false = 21000 + 4 * z + 16 * (ds.length - z)) := hid (by unfold intrV; rw [HZ.out]; simp)
            go_wp2
            go_ret
            exact ⟨ret_int (by rw [HI.out]), hb⟩
end Go.Proofs.Ythfolbamidmmiaa
