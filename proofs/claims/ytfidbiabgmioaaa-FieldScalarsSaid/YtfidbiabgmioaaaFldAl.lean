import Derived.Test.YtfidbiabgmioaaaRFA
import Derived.Test.YtfidbiabgmioaaaAliveW
/-! Layer 4: alive. -/
set_option maxRecDepth 4000
set_option linter.unusedVariables false
set_option linter.unusedSimpArgs false
namespace Go.Proofs.Ytfidbiabgmioaaa
open Go.RowKit

/-- Powers modulo the first prime, by squares. -/
def pmF (a : Nat) : Nat → Nat → Nat
  | 0, _ => 1
  | f + 1, e => if e = 0 then 1 else (fun h => if e % 2 = 1 then h * h % pN * a % pN else h * h % pN) (pmF a f (e / 2))
theorem pmF_eq (a : Nat) : ∀ f e, e < 2 ^ f → pmF a f e = powP a e
  | 0, e, h => by
    have : e = 0 := by simpa using h
    subst this; rw [powP_zero]; rfl
  | f + 1, e, h => by
    rw [pmF]
    by_cases h0 : e = 0
    · rw [if_pos h0, h0, powP_zero]
    · rw [if_neg h0, pmF_eq a f (e / 2) (by rw [Nat.pow_succ] at h; omega)]
      show (if e % 2 = 1 then powP a (e / 2) * powP a (e / 2) % pN * a % pN else powP a (e / 2) * powP a (e / 2) % pN) = powP a e
      rw [powP_double]
      by_cases h1 : e % 2 = 1
      · rw [if_pos h1, powP_succ]; congr 1; omega
      · rw [if_neg h1]; congr 1; omega
theorem pow2 (a e : Nat) (h : e < 2 ^ 256) : powP a e = pmF a 256 e := (pmF_eq a 256 e h).symm
theorem sq0_4 : sq0 4 = 39362322753415011913614158609977084030892133031847780325488042146247659569504 := by
  unfold sq0; rw [pow2 _ _ (show (pN + 3) / 8 < 2 ^ 256 by decide +kernel)]; decide +kernel
theorem sq0_2 : sq0 2 = 19681161376707505956807079304988542015446066515923890162744021073123829784753 := by
  unfold sq0; rw [pow2 _ _ (show (pN + 3) / 8 < 2 ^ 256 by decide +kernel)]; decide +kernel
theorem pow_i : powP 2 (pN / 4) = 19681161376707505956807079304988542015446066515923890162744021073123829784752 := by
  rw [pow2 2 _ (show pN / 4 < 2 ^ 256 by decide +kernel)]; decide +kernel
theorem sq1_4 : sq1 4 = 57896044618658097711785492504343953926634992332820282019728792003956564819947 := by
  unfold sq1; rw [sq0_4, pow_i]; decide +kernel
theorem sq1_2 : sq1 2 = 19681161376707505956807079304988542015446066515923890162744021073123829784751 := by
  unfold sq1; rw [sq0_2, pow_i]; decide +kernel
theorem sq4 : sqX 4 = 2 ∧ sqOk 4 = true := by
  unfold sqX sqOk; rw [sq1_4]; decide +kernel
theorem sq2 : sqX 2 = 0 ∧ sqOk 2 = false := by
  unfold sqX sqOk; rw [sq1_2]; decide +kernel
theorem inv2 : 2 * powP 2 (pN - 2) % pN = 1 := by
  rw [pow2 _ _ (show pN - 2 < 2 ^ 256 by decide +kernel)]
  decide +kernel
theorem four_built : Try.prog.built 24 [(0, .int .u64 4)] = some (cellsW 4) := by kernel_rfl

set_option maxHeartbeats 8000000 in
set_option maxRecDepth 100000 in
theorem f4alive_any (w : World) : Calls Try.prog 19 #[] w fun e w' => e = .returned (.bool true) ∧ Below w.heap.size w w' := by
  have h4 := hid (fun w => fsqrt_any 4 w (by decide))
  rw [sq4.1, sq4.2] at h4
  have h2 := hid (fun w => fsqrt_any 2 w (by decide))
  rw [sq2.1, sq2.2] at h2
  have hA1 := hid (fun w => fadd_any pN 1 w pN_lt (by decide))
  rw [show (pN + 1) % pN = 1 by decide +kernel] at hA1
  have hI2 := hid (fun w => finv_any 2 w (by decide))
  have hM2 := hid (fun w => fmul_any 2 (powP 2 (pN - 2)) w (by decide) (powP_lt _ _))
  rw [inv2] at hM2
  obtain ⟨q, hq⟩ : ∃ q, q = powP 2 (pN - 2) := ⟨_, rfl⟩
  rw [← hq] at hI2 hM2
  have hP := hid fP_any
  have hL := hid fL_any
  have hP2 := hid rP_any
  have hL2 := hid rL_any
  have hWp := hid (fun v w h => wordN_any pN v w h (by have := dg_p; omega))
  rw [Nat.mod_eq_of_lt pN_lt] at hWp
  have hWl := hid (fun v w h => wordN_any lN v w h (by have := dg_l; omega))
  rw [Nat.mod_eq_of_lt lN_lt] at hWl
  have q1 : ∀ w, (Op.equalIn 10000 24 (.agg (cellsW 1)) (.agg #[.int .u64 1, .int .u64 0, .int .u64 0, .int .u64 0])).run Try.prog w = .ok true w := eq_self 1 (by decide)
  have q1' := eq_self 1 (by decide)
  have q2 : ∀ w, (Op.equalIn 10000 24 (.agg (cellsW 2)) (.agg #[.int .u64 2, .int .u64 0, .int .u64 0, .int .u64 0])).run Try.prog w = .ok true w := eq_self 2 (by decide)
  have qp := eq_self pN pN_lt
  have ql := eq_self lN lN_lt
  have b1 := hid one_built
  have b2 := hid two_built
  have b4 := hid four_built
  clear hq
  generalize pN = p at *
  generalize lN = l at *
  unfold wd at *
  have i0 := hid (iW 0)
  have n0 := hid (one_cellsW 0)
  have i2 := hid (iW 2)
  have n2 := hid (one_cellsW 2)
  go_enter Try.func19, Try.ntmps19
  go_wp2_with (refine wpList_build_cells rfl 24 _ rfl (cellsW 4) (by first | exact b4.out | (simp only [List.map_toArray, List.map_cons, List.map_nil]; exact b4.out)) ?_; simp only [Act.put, List.setIfInBounds_toArray, List.set_cons_zero, List.set_cons_succ])
  refine (h4.out _).mono ?_
  rintro e w1 ⟨rfl, hb1⟩
  have hX1 := hid (ArrW.new 24 w1 2)
  have hb2 := hb1.alloc hb1.size (.cells (cellsW 2) 24)
  go_wp2_with (first | (refine wpList_allocStore 24 8 1 (cellsW 2) (cellsW 0) rfl rfl rfl rfl rfl rfl (by decide) (by simp) rfl (by kernel_rfl) rfl i2.out n2.out ?_; simp only [Act.put, List.setIfInBounds_toArray, List.set_cons_zero, List.set_cons_succ]) | (refine wpList_build_cells rfl 24 _ rfl (cellsW 2) (by first | exact b2.out | (simp only [List.map_toArray, List.map_cons, List.map_nil]; exact b2.out)) ?_; simp only [Act.put, List.setIfInBounds_toArray, List.set_cons_zero, List.set_cons_succ]))
  obtain ⟨G, hG⟩ : ∃ G, G = w1.heap.size := ⟨_, rfl⟩
  rw [← hG] at hX1 ⊢
  generalize w1.alloc (.cells (cellsW 2) 24) = w2 at hX1 hb2 ⊢
  clear hb1 hG
  refine (h2.out _).mono ?_
  rintro e w3 ⟨rfl, hb3⟩
  have hX3 := hid ((hX1.out.step hb3).alloc (.cells (cellsW 0) 24))
  have hb4 := hb2.trans (hb3.mono hb2.size)
  have hb5 := hb4.alloc hb4.size (.cells (cellsW 0) 24)
  clear hX1 hb2 hb3
  go_wp2_with (refine wpList_allocStore 24 13 3 (cellsW 0) (cellsW 0) rfl rfl rfl rfl rfl rfl (by decide) (by simp) rfl (by kernel_rfl) rfl i0.out n0.out ?_; simp only [Act.put, List.setIfInBounds_toArray, List.set_cons_zero, List.set_cons_succ])
  generalize w3.alloc (.cells (cellsW 0) 24) = w4 at hX3 hb5 ⊢
  clear hb4
  refine (hP.out _).mono ?_
  rintro e w5 ⟨rfl, hb6⟩
  have hX5 := hid (hX3.out.step hb6)
  have hb7 := hb5.trans (hb6.mono hb5.size)
  clear hX3 hb5 hb6
  go_wp2_with (refine wpList_build_cells rfl 24 _ rfl (cellsW 1) (by first | exact b1.out | (simp only [List.map_toArray, List.map_cons, List.map_nil]; exact b1.out)) ?_; simp only [Act.put, List.setIfInBounds_toArray, List.set_cons_zero, List.set_cons_succ])
  refine (hA1.out _).mono ?_
  rintro e w6 ⟨rfl, hb8⟩
  have hX6 := hid (hX5.out.step hb8)
  have hb9 := hb7.trans (hb8.mono hb7.size)
  clear hX5 hb7 hb8
  go_wp2_with (first | (refine wpList_build_cells rfl 24 _ rfl (cellsW 1) (by first | exact b1.out | (simp only [List.map_toArray, List.map_cons, List.map_nil]; exact b1.out)) ?_; simp only [Act.put, List.setIfInBounds_toArray, List.set_cons_zero, List.set_cons_succ]) | (refine wpList_build_cells rfl 24 _ rfl (cellsW 2) (by first | exact b2.out | (simp only [List.map_toArray, List.map_cons, List.map_nil]; exact b2.out)) ?_; simp only [Act.put, List.setIfInBounds_toArray, List.set_cons_zero, List.set_cons_succ]))
  refine (hI2.out _).mono ?_
  rintro e w7 ⟨rfl, hb10⟩
  have hX7 := hid (hX6.out.step hb10)
  have hb11 := hb9.trans (hb10.mono hb9.size)
  clear hX6 hb9 hb10
  go_wp2_with fail
  refine (hM2.out _).mono ?_
  rintro e w8 ⟨rfl, hb12⟩
  have hX8 := hid (hX7.out.step hb12)
  have hb13 := hb11.trans (hb12.mono hb11.size)
  clear hX7 hb11 hb12
  have c0 : w8.cell? ⟨G, 0, none⟩ = some (.int .u64 2) := hX8.out.cell 0 (by omega)
  have c1 : w8.cell? ⟨G, 1, none⟩ = some (.int .u64 0) := hX8.out.cell 1 (by omega)
  have c2 : w8.cell? ⟨G, 2, none⟩ = some (.int .u64 0) := hX8.out.cell 2 (by omega)
  have c3 : w8.cell? ⟨G, 3, none⟩ = some (.int .u64 0) := hX8.out.cell 3 (by omega)
  have lX := hX8.out.lt
  have q2' : ∀ w, (Op.equalIn 10000 24 (.agg #[.int .u64 2, .int .u64 0, .int .u64 0, .int .u64 0]) (.agg #[.int .u64 2, .int .u64 0, .int .u64 0, .int .u64 0])).run Try.prog w = .ok true w := eq_self 2 (by decide)
  go_wp2_with fail
  clear c0 c1 c2 c3 lX hX8
  refine (hP.out _).mono ?_
  rintro e w9 ⟨rfl, hb14⟩
  have hb15 := hb13.trans (hb14.mono hb13.size)
  clear hb13 hb14
  go_wp2_with fail
  refine (hP2.out _).mono ?_
  rintro e w10 ⟨v10, rfl, hr10, hb16⟩
  have hb17 := hb15.trans (hb16.mono hb15.size)
  clear hb15 hb16
  go_wp2_with fail
  refine (hWp.out _ _ hr10).mono ?_
  rintro e w11 ⟨rfl, hb18⟩
  have hb19 := hb17.trans (hb18.mono hb17.size)
  clear hb17 hb18 hr10
  go_wp2_with fail
  refine (hL.out _).mono ?_
  rintro e w12 ⟨rfl, hb20⟩
  have hb21 := hb19.trans (hb20.mono hb19.size)
  clear hb19 hb20
  go_wp2_with fail
  refine (hL2.out _).mono ?_
  rintro e w13 ⟨v13, rfl, hr13, hb22⟩
  have hb23 := hb21.trans (hb22.mono hb21.size)
  clear hb21 hb22
  go_wp2_with fail
  refine (hWl.out _ _ hr13).mono ?_
  rintro e w14 ⟨rfl, hb24⟩
  have hb25 := hb23.trans (hb24.mono hb23.size)
  clear hb23 hb24 hr13
  go_wp2_with fail
  go_ret
  exact ⟨rfl, hb25⟩
end Go.Proofs.Ytfidbiabgmioaaa
