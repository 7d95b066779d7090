import Derived.Test.YtfidbiabgmioaaaDivN
import Derived.Test.YtfidbiabgmioaaaWant
/-! alive. -/
set_option maxRecDepth 4000
set_option linter.unusedVariables false
set_option linter.unusedSimpArgs false
namespace Go.Proofs.Ytfidbiabgmioaaa
open Go.RowKit

def onesN : Nat := 115792089237316195423570985008687907853269984665640564039457584007913129639935
def topN : Nat := 57896044618658097711785492504343953926634992332820282019728792003956564819968
def topS : Nat := 86844066927987146567678238756515930889952488499230423029593188005934847229952
theorem eq_self (x : Nat) (h : x < 2 ^ 256) (w : World) : (Op.equalIn 10000 24 (.agg (cellsW x)) (.agg (cellsW x))).run Try.prog w = .ok true w := by
  rw [eq_wd x x h h, decide_eq_true rfl]
set_option maxRecDepth 100000 in
set_option maxHeartbeats 4000000 in
theorem walive_any (w : World) : Calls Try.prog 38 #[] w fun e w' => e = .returned (.bool true) ∧ Below w.heap.size w w' := by
  have z0 : cellsW 0 = (#[.int .u64 0, .int .u64 0, .int .u64 0, .int .u64 0] : Array Value) := by kernel_rfl
  have z1 : cellsW 1 = (#[.int .u64 1, .int .u64 0, .int .u64 0, .int .u64 0] : Array Value) := by kernel_rfl
  have z2 : cellsW 2 = (#[.int .u64 2, .int .u64 0, .int .u64 0, .int .u64 0] : Array Value) := by kernel_rfl
  have z5 : cellsW 5 = (#[.int .u64 5, .int .u64 0, .int .u64 0, .int .u64 0] : Array Value) := by kernel_rfl
  have z7 : cellsW 7 = (#[.int .u64 7, .int .u64 0, .int .u64 0, .int .u64 0] : Array Value) := by kernel_rfl
  have z31 : cellsW 31 = (#[.int .u64 31, .int .u64 0, .int .u64 0, .int .u64 0] : Array Value) := by kernel_rfl
  have z255 : cellsW 255 = (#[.int .u64 255, .int .u64 0, .int .u64 0, .int .u64 0] : Array Value) := by kernel_rfl
  have zt : cellsW topN = (#[.int .u64 0, .int .u64 0, .int .u64 0, .int .u64 9223372036854775808] : Array Value) := by kernel_rfl
  have e0 : subW 0 1 = onesN := by kernel_rfl
  have e1 : notW 0 = onesN := by kernel_rfl
  have e2 : topN * 2 % 7 = 2 := by kernel_rfl
  have e3 : byteW 31 5 = 5 := by kernel_rfl
  have e4 : sexW 0 255 = onesN := by kernel_rfl
  have e5 : sarW topN (upT 1 256) = topS := by kernel_rfl
  have lo : onesN < 2 ^ 256 := Nat.lt_of_sub_eq_succ (m := 2 ^ 256) (n := onesN) (l := 0) (by kernel_rfl)
  have lt : topN < 2 ^ 256 := Nat.lt_of_sub_eq_succ (m := 2 ^ 256) (n := topN) (l := 57896044618658097711785492504343953926634992332820282019728792003956564819967) (by kernel_rfl)
  have hSub := hid (fun w => wsub_any 0 1 w (by decide) (by decide))
  have hNot := hid (fun w => wnot_any 0 w (by decide))
  have hMm := hid (fun w => wmulmod1_any topN 2 7 w lt (by decide) (by decide) (by decide))
  have hBy := hid (fun w => wbyte_any 31 5 w (by decide))
  have hSx := hid (fun w => wsext_any 0 255 w (by decide) (by decide))
  have hSa := hid (fun w => wsar_any 1 topN w (by decide) lt)
  rw [e0] at hSub
  rw [e1] at hNot
  rw [e2] at hMm
  rw [e3] at hBy
  rw [e4] at hSx
  rw [e5] at hSa
  have q1 := eq_self onesN lo
  have q2 := eq_self 2 (by decide)
  have q3 := eq_self 5 (by decide)
  have c3 : (cellsW onesN)[3]? = some (.int .u64 18446744073709551615) := by kernel_rfl
  have c4 : ∀ w : World, (Instr.index 24 (.agg (cellsW topS)) (.int .i64 3)).run Try.prog w = .ok (.int .u64 13835058055282163712) w := fun w => by
    have := run_index_ints (P := Try.prog) (t := 24) (k := .u64) (k' := .i64) uWd (by kernel_rfl) (by kernel_rfl) (by kernel_rfl) [lm topS 0, lm topS 1, lm topS 2, lm topS 3] rfl 3 (by omega) (by omega) w
    exact this
  clear e0 e1 e2 e3 e4 e5 lo lt
  obtain ⟨O, hO⟩ : ∃ O, O = onesN := ⟨_, rfl⟩
  rw [← hO] at hSub hNot hSx q1 c3
  clear hO
  obtain ⟨T, hT⟩ : ∃ T, T = topN := ⟨_, rfl⟩
  rw [← hT] at zt hMm hSa
  clear hT
  obtain ⟨S, hS⟩ : ∃ S, S = topS := ⟨_, rfl⟩
  rw [← hS] at hSa c4
  clear hS
  unfold wd at *
  rw [z0] at hNot hSx
  rw [z2] at hMm q2
  rw [z7] at hMm
  rw [z31] at hBy
  rw [z5] at hBy q3
  rw [z255] at hSx
  rw [z1] at hSa
  have ZT := hid zt
  clear z0 z1 z2 z5 z7 z31 z255 zt
  have iO := hid (iW O)
  have nO := hid (one_cellsW O)
  have iT := hid (iW T)
  have nT := hid (one_cellsW T)
  go_enter Try.func38, Try.ntmps38
  go_wp2_with fail
  refine (hSub.out _).mono ?_
  rintro e w1 ⟨rfl, hb1⟩
  go_wp2_with (refine wpList_allocStore 24 5 1 (cellsW O) (cellsW 0) rfl rfl rfl rfl rfl rfl (by decide) (by simp) rfl (by kernel_rfl) rfl iO.out nO.out ?_; simp only [Act.put, List.setIfInBounds_toArray, List.set_cons_zero, List.set_cons_succ])
  rw [← ZT.out]
  have hO2 := hid ((ArrW.new 24 w1 O).alloc (.cells (cellsW T) 24))
  have hT2 := hid (show ArrW 24 ((w1.alloc (.cells (cellsW O) 24)).alloc (.cells (cellsW T) 24)) (w1.heap.size + 1) T by
    have := ArrW.new 24 (w1.alloc (.cells (cellsW O) 24)) T
    rw [World.size_alloc] at this; exact this)
  have hb2 := (hb1.alloc hb1.size (.cells (cellsW O) 24)).alloc (by rw [World.size_alloc]; have := hb1.size; omega) (.cells (cellsW T) 24)
  have cO := hO2.out.cell 3 (by omega)
  have lO := hO2.out.lt
  have hlm : lm O 3 = 18446744073709551615 := by
    have := cellsW_at O 3 (by omega)
    rw [c3] at this
    simp at this
    exact this.symm
  rw [hlm] at cO
  clear c3 hlm ZT
  generalize (w1.alloc (.cells (cellsW O) 24)).alloc (.cells (cellsW T) 24) = w2 at hO2 hT2 hb2 cO lO ⊢
  ((try simp only [World.size_alloc]); refine wp_region_ext (by kernel_rfl) (by kernel_rfl) ?_; (try simp only [List.append_eq, List.cons_append, List.nil_append]); (repeat (first | (refine wpQuiet_load_want 24 (.tmp 1) rfl w1.heap.size rfl 24 (cellsW _) _ hO2.out uWd rfl iO.out rfl ?_; simp only [Act.put, List.setIfInBounds_toArray, List.set_cons_zero, List.set_cons_succ]) | (refine wpQuiet_load_want 24 (.tmp 2) rfl (w1.heap.size + 1) rfl 24 (cellsW _) _ hT2.out uWd rfl iT.out rfl ?_; simp only [Act.put, List.setIfInBounds_toArray, List.set_cons_zero, List.set_cons_succ]) | go_big_quiet_step (first | (go_at_call 27; with_reducible refine Calls.ext_of (hNot.out _)) | (go_at_call 72; with_reducible refine Calls.ext_of (hMm.out _)) | (go_at_call 28; with_reducible refine Calls.ext_of (hBy.out _)) | (go_at_call 36; with_reducible refine Calls.ext_of (hSx.out _)) | (go_at_call 34; with_reducible refine Calls.ext_of (hSa.out _))))); refine wpQuiet_nil ?_; rintro _ ⟨xw, rfl⟩)
  go_wp2_with fail
  go_ret
  exact ⟨rfl, World.ext_below_of hb2 hb2.size xw⟩
end Go.Proofs.Ytfidbiabgmioaaa
