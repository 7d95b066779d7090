import Derived.Test.YtmlaenfgfgloeaaKecR
import Derived.Test.YtmlaenfgfgloeaaKecB
/-! The reference's constants. -/
set_option maxRecDepth 4000
set_option linter.unusedVariables false
set_option linter.unusedSimpArgs false
namespace Go.Proofs.Ytmlaenfgfgloeaa
open Go.RowKit

theorem conGo_end : (conGo 168).1 = constL := by decide +kernel
theorem uCon : Try.prog.underlying 55 = some (.array 24 22) := by kernel_rfl
theorem iCon : (Try.prog.info? 55).map (·.size) = some 24 := by kernel_rfl

set_option maxRecDepth 100000 in
set_option maxHeartbeats 1000000 in
theorem constants_any (w : World) :
    Calls Try.prog 33 #[] w fun e w' => e = .returned (.agg (cellsB constL)) ∧ Below w.heap.size w w' := by
  go_enter Try.func33, Try.ntmps33
  go_wp2
  go_loopw [3, 2] (fun t f wr => ∃ r : Nat, r ≤ 24 ∧ t = .int .i64 r ∧ f = .int .i64 ((conGo (7 * r)).2 : Nat) ∧ Hid (ArrB 55 wr (w.heap.size + 1) (conGo (7 * r)).1) ∧ Hid (ArrB 55 wr w.heap.size (List.replicate 24 0)) ∧ Below w.heap.size w wr)
    (fun t _ _ => 24 - (intOf t).toNat)
  case atStart =>
    refine ⟨0, by omega, rfl, rfl, hid ?_, hid ?_, (by repeat (first | (with_reducible first | exact Below.refl _ _ | assumption | refine World.ext_below_of ?_ ?_ _ | refine Below.setCell ?_ ?_ _ | refine Below.alloc ?_ ?_ _ | refine Below.drew ?_ | refine World.size_le_ext _ _ _ ?_) | (solve | simp [go_sem] | (simp [go_sem]; omega) | omega)))⟩
    · have := ArrB.new 55 (w.alloc (.cells (cellsB (List.replicate 24 0)) 55)) (List.replicate 24 0)
      rw [show (w.alloc (.cells (cellsB (List.replicate 24 0)) 55)).heap.size = w.heap.size + 1 from by simp] at this
      exact this
    · exact (ArrB.new 55 w (List.replicate 24 0)).alloc _
  case round =>
    obtain ⟨r, hr, rfl, rfl, hA, hZ, hb⟩ := hrel
    by_cases hlt : r < 24
    · go_wp2_with fail
      obtain ⟨wo, hwo⟩ : ∃ wo : World, wo = wr := ⟨_, rfl⟩
      subst hwo
      go_loopw [4, 2] (fun t f wr => ∃ j : Nat, j ≤ 7 ∧ t = .int .i64 j ∧ f = .int .i64 ((conGo (7 * r + j)).2 : Nat) ∧ Hid (ArrB 55 wr (w.heap.size + 1) (conGo (7 * r + j)).1) ∧ Hid (ArrB 55 wr w.heap.size (List.replicate 24 0)) ∧ Below w.heap.size w wr)
        (fun t _ _ => 7 - (intOf t).toNat)
      case atStart => exact ⟨0, by omega, rfl, rfl, hA, hZ, hb⟩
      case round =>
        clear hA hZ hb
        obtain ⟨j, hj, rfl, rfl, hA, hZ, hb⟩ := hrel
        have hl := conGo_len (7 * r + j)
        have hf := conGo_bd (7 * r + j)
        have hnx : conGo (7 * r + j + 1) = (if (conGo (7 * r + j)).2 % 2 = 1 then (conGo (7 * r + j)).1.set ((7 * r + j) / 7) (nb (conGo (7 * r + j)).1 ((7 * r + j) / 7) ||| (1#64 <<< (2 ^ ((7 * r + j) % 7) - 1))) else (conGo (7 * r + j)).1, nextF (conGo (7 * r + j)).2) := rfl
        obtain ⟨l, hL⟩ : ∃ l, l = (conGo (7 * r + j)).1 := ⟨_, rfl⟩
        obtain ⟨f, hF⟩ : ∃ f, f = (conGo (7 * r + j)).2 := ⟨_, rfl⟩
        rw [← hL, ← hF] at hnx
        rw [← hL] at hl hA
        rw [← hF] at hf
        rw [← hF]
        have HL := hid hL
        have HFF := hid hF
        clear hL hF
        by_cases hlt2 : j < 7
        · rw [show (7 * r + j) / 7 = r from by omega, show (7 * r + j) % 7 = j from by omega] at hnx
          have HNX := hid hnx
          clear hnx
          have g1 := lf_and1 f hf
          have g2 := lf_and256 f hf
          have g3 := lf_xor f hf
          have hA1 := hA.out.all hl
          have f1 := hA.out.free
          have hc : j = 0 ∨ j = 1 ∨ j = 2 ∨ j = 3 ∨ j = 4 ∨ j = 5 ∨ j = 6 := by omega
          have ho : f % 2 = 0 ∨ f % 2 = 1 := by omega
          have hsp : 256 ≤ 2 * f ∨ ¬ 256 ≤ 2 * f := by omega
          have hnf : nextF f = if 256 ≤ 2 * f then (2 * f ^^^ 256) ^^^ 113 else 2 * f := rfl
          obtain ⟨nf, hNF⟩ : ∃ nf, nf = nextF f := ⟨_, rfl⟩
          rw [← hNF] at hnf HNX
          clear hNF
          rcases ho with ho | ho
          · rw [ho] at g1
            have g1 : bits BinOp.and IntKind.i64 (f : Int) 1 = 0 := g1
            rcases hsp with hsp | hsp
            · rw [if_pos hsp] at hnf g2
              rw [← hnf] at g3
              have HNF := hid hnf
              clear hnf
              rcases hc with rfl | rfl | rfl | rfl | rfl | rfl | rfl
              · go_wp2
                go_roundw
                case rel =>
                  refine ⟨1, by omega, rfl, ?_, hid ?_, hZ, (by repeat (first | (with_reducible first | exact Below.refl _ _ | assumption | refine World.ext_below_of ?_ ?_ _ | refine Below.setCell ?_ ?_ _ | refine Below.alloc ?_ ?_ _ | refine Below.drew ?_ | refine World.size_le_ext _ _ _ ?_) | (solve | simp [go_sem] | (simp [go_sem]; omega) | omega)))⟩
                  · rw [show 7 * r + 1 = 7 * r + 0 + 1 from rfl, HNX.out]
                  · rw [show 7 * r + 1 = 7 * r + 0 + 1 from rfl, HNX.out]
                    show ArrB _ _ _ (if f % 2 = 1 then _ else _)
                    rw [if_neg (by omega)]
                    exact hA.out
                case measure => simp [intOf]
              · go_wp2
                go_roundw
                case rel =>
                  refine ⟨2, by omega, rfl, ?_, hid ?_, hZ, (by repeat (first | (with_reducible first | exact Below.refl _ _ | assumption | refine World.ext_below_of ?_ ?_ _ | refine Below.setCell ?_ ?_ _ | refine Below.alloc ?_ ?_ _ | refine Below.drew ?_ | refine World.size_le_ext _ _ _ ?_) | (solve | simp [go_sem] | (simp [go_sem]; omega) | omega)))⟩
                  · rw [show 7 * r + 2 = 7 * r + 1 + 1 from rfl, HNX.out]
                  · rw [show 7 * r + 2 = 7 * r + 1 + 1 from rfl, HNX.out]
                    show ArrB _ _ _ (if f % 2 = 1 then _ else _)
                    rw [if_neg (by omega)]
                    exact hA.out
                case measure => simp [intOf]
              · go_wp2
                go_roundw
                case rel =>
                  refine ⟨3, by omega, rfl, ?_, hid ?_, hZ, (by repeat (first | (with_reducible first | exact Below.refl _ _ | assumption | refine World.ext_below_of ?_ ?_ _ | refine Below.setCell ?_ ?_ _ | refine Below.alloc ?_ ?_ _ | refine Below.drew ?_ | refine World.size_le_ext _ _ _ ?_) | (solve | simp [go_sem] | (simp [go_sem]; omega) | omega)))⟩
                  · rw [show 7 * r + 3 = 7 * r + 2 + 1 from rfl, HNX.out]
                  · rw [show 7 * r + 3 = 7 * r + 2 + 1 from rfl, HNX.out]
                    show ArrB _ _ _ (if f % 2 = 1 then _ else _)
                    rw [if_neg (by omega)]
                    exact hA.out
                case measure => simp [intOf]
              · go_wp2
                go_roundw
                case rel =>
                  refine ⟨4, by omega, rfl, ?_, hid ?_, hZ, (by repeat (first | (with_reducible first | exact Below.refl _ _ | assumption | refine World.ext_below_of ?_ ?_ _ | refine Below.setCell ?_ ?_ _ | refine Below.alloc ?_ ?_ _ | refine Below.drew ?_ | refine World.size_le_ext _ _ _ ?_) | (solve | simp [go_sem] | (simp [go_sem]; omega) | omega)))⟩
                  · rw [show 7 * r + 4 = 7 * r + 3 + 1 from rfl, HNX.out]
                  · rw [show 7 * r + 4 = 7 * r + 3 + 1 from rfl, HNX.out]
                    show ArrB _ _ _ (if f % 2 = 1 then _ else _)
                    rw [if_neg (by omega)]
                    exact hA.out
                case measure => simp [intOf]
              · go_wp2
                go_roundw
                case rel =>
                  refine ⟨5, by omega, rfl, ?_, hid ?_, hZ, (by repeat (first | (with_reducible first | exact Below.refl _ _ | assumption | refine World.ext_below_of ?_ ?_ _ | refine Below.setCell ?_ ?_ _ | refine Below.alloc ?_ ?_ _ | refine Below.drew ?_ | refine World.size_le_ext _ _ _ ?_) | (solve | simp [go_sem] | (simp [go_sem]; omega) | omega)))⟩
                  · rw [show 7 * r + 5 = 7 * r + 4 + 1 from rfl, HNX.out]
                  · rw [show 7 * r + 5 = 7 * r + 4 + 1 from rfl, HNX.out]
                    show ArrB _ _ _ (if f % 2 = 1 then _ else _)
                    rw [if_neg (by omega)]
                    exact hA.out
                case measure => simp [intOf]
              · go_wp2
                go_roundw
                case rel =>
                  refine ⟨6, by omega, rfl, ?_, hid ?_, hZ, (by repeat (first | (with_reducible first | exact Below.refl _ _ | assumption | refine World.ext_below_of ?_ ?_ _ | refine Below.setCell ?_ ?_ _ | refine Below.alloc ?_ ?_ _ | refine Below.drew ?_ | refine World.size_le_ext _ _ _ ?_) | (solve | simp [go_sem] | (simp [go_sem]; omega) | omega)))⟩
                  · rw [show 7 * r + 6 = 7 * r + 5 + 1 from rfl, HNX.out]
                  · rw [show 7 * r + 6 = 7 * r + 5 + 1 from rfl, HNX.out]
                    show ArrB _ _ _ (if f % 2 = 1 then _ else _)
                    rw [if_neg (by omega)]
                    exact hA.out
                case measure => simp [intOf]
              · go_wp2
                go_roundw
                case rel =>
                  refine ⟨7, by omega, rfl, ?_, hid ?_, hZ, (by repeat (first | (with_reducible first | exact Below.refl _ _ | assumption | refine World.ext_below_of ?_ ?_ _ | refine Below.setCell ?_ ?_ _ | refine Below.alloc ?_ ?_ _ | refine Below.drew ?_ | refine World.size_le_ext _ _ _ ?_) | (solve | simp [go_sem] | (simp [go_sem]; omega) | omega)))⟩
                  · rw [show 7 * r + 7 = 7 * r + 6 + 1 from rfl, HNX.out]
                  · rw [show 7 * r + 7 = 7 * r + 6 + 1 from rfl, HNX.out]
                    show ArrB _ _ _ (if f % 2 = 1 then _ else _)
                    rw [if_neg (by omega)]
                    exact hA.out
                case measure => simp [intOf]
            · rw [if_neg hsp] at hnf g2
              have HNF := hid hnf
              clear hnf
              rcases hc with rfl | rfl | rfl | rfl | rfl | rfl | rfl
              · go_wp2
                go_roundw
                case rel =>
                  refine ⟨1, by omega, rfl, ?_, hid ?_, hZ, (by repeat (first | (with_reducible first | exact Below.refl _ _ | assumption | refine World.ext_below_of ?_ ?_ _ | refine Below.setCell ?_ ?_ _ | refine Below.alloc ?_ ?_ _ | refine Below.drew ?_ | refine World.size_le_ext _ _ _ ?_) | (solve | simp [go_sem] | (simp [go_sem]; omega) | omega)))⟩
                  · rw [show 7 * r + 1 = 7 * r + 0 + 1 from rfl, HNX.out]; show Value.int .i64 ((f : Int) * 2) = .int .i64 (nf : Int); rw [HNF.out]; congr 1; omega
                  · rw [show 7 * r + 1 = 7 * r + 0 + 1 from rfl, HNX.out]
                    show ArrB _ _ _ (if f % 2 = 1 then _ else _)
                    rw [if_neg (by omega)]
                    exact hA.out
                case measure => simp [intOf]
              · go_wp2
                go_roundw
                case rel =>
                  refine ⟨2, by omega, rfl, ?_, hid ?_, hZ, (by repeat (first | (with_reducible first | exact Below.refl _ _ | assumption | refine World.ext_below_of ?_ ?_ _ | refine Below.setCell ?_ ?_ _ | refine Below.alloc ?_ ?_ _ | refine Below.drew ?_ | refine World.size_le_ext _ _ _ ?_) | (solve | simp [go_sem] | (simp [go_sem]; omega) | omega)))⟩
                  · rw [show 7 * r + 2 = 7 * r + 1 + 1 from rfl, HNX.out]; show Value.int .i64 ((f : Int) * 2) = .int .i64 (nf : Int); rw [HNF.out]; congr 1; omega
                  · rw [show 7 * r + 2 = 7 * r + 1 + 1 from rfl, HNX.out]
                    show ArrB _ _ _ (if f % 2 = 1 then _ else _)
                    rw [if_neg (by omega)]
                    exact hA.out
                case measure => simp [intOf]
              · go_wp2
                go_roundw
                case rel =>
                  refine ⟨3, by omega, rfl, ?_, hid ?_, hZ, (by repeat (first | (with_reducible first | exact Below.refl _ _ | assumption | refine World.ext_below_of ?_ ?_ _ | refine Below.setCell ?_ ?_ _ | refine Below.alloc ?_ ?_ _ | refine Below.drew ?_ | refine World.size_le_ext _ _ _ ?_) | (solve | simp [go_sem] | (simp [go_sem]; omega) | omega)))⟩
                  · rw [show 7 * r + 3 = 7 * r + 2 + 1 from rfl, HNX.out]; show Value.int .i64 ((f : Int) * 2) = .int .i64 (nf : Int); rw [HNF.out]; congr 1; omega
                  · rw [show 7 * r + 3 = 7 * r + 2 + 1 from rfl, HNX.out]
                    show ArrB _ _ _ (if f % 2 = 1 then _ else _)
                    rw [if_neg (by omega)]
                    exact hA.out
                case measure => simp [intOf]
              · go_wp2
                go_roundw
                case rel =>
                  refine ⟨4, by omega, rfl, ?_, hid ?_, hZ, (by repeat (first | (with_reducible first | exact Below.refl _ _ | assumption | refine World.ext_below_of ?_ ?_ _ | refine Below.setCell ?_ ?_ _ | refine Below.alloc ?_ ?_ _ | refine Below.drew ?_ | refine World.size_le_ext _ _ _ ?_) | (solve | simp [go_sem] | (simp [go_sem]; omega) | omega)))⟩
                  · rw [show 7 * r + 4 = 7 * r + 3 + 1 from rfl, HNX.out]; show Value.int .i64 ((f : Int) * 2) = .int .i64 (nf : Int); rw [HNF.out]; congr 1; omega
                  · rw [show 7 * r + 4 = 7 * r + 3 + 1 from rfl, HNX.out]
                    show ArrB _ _ _ (if f % 2 = 1 then _ else _)
                    rw [if_neg (by omega)]
                    exact hA.out
                case measure => simp [intOf]
              · go_wp2
                go_roundw
                case rel =>
                  refine ⟨5, by omega, rfl, ?_, hid ?_, hZ, (by repeat (first | (with_reducible first | exact Below.refl _ _ | assumption | refine World.ext_below_of ?_ ?_ _ | refine Below.setCell ?_ ?_ _ | refine Below.alloc ?_ ?_ _ | refine Below.drew ?_ | refine World.size_le_ext _ _ _ ?_) | (solve | simp [go_sem] | (simp [go_sem]; omega) | omega)))⟩
                  · rw [show 7 * r + 5 = 7 * r + 4 + 1 from rfl, HNX.out]; show Value.int .i64 ((f : Int) * 2) = .int .i64 (nf : Int); rw [HNF.out]; congr 1; omega
                  · rw [show 7 * r + 5 = 7 * r + 4 + 1 from rfl, HNX.out]
                    show ArrB _ _ _ (if f % 2 = 1 then _ else _)
                    rw [if_neg (by omega)]
                    exact hA.out
                case measure => simp [intOf]
              · go_wp2
                go_roundw
                case rel =>
                  refine ⟨6, by omega, rfl, ?_, hid ?_, hZ, (by repeat (first | (with_reducible first | exact Below.refl _ _ | assumption | refine World.ext_below_of ?_ ?_ _ | refine Below.setCell ?_ ?_ _ | refine Below.alloc ?_ ?_ _ | refine Below.drew ?_ | refine World.size_le_ext _ _ _ ?_) | (solve | simp [go_sem] | (simp [go_sem]; omega) | omega)))⟩
                  · rw [show 7 * r + 6 = 7 * r + 5 + 1 from rfl, HNX.out]; show Value.int .i64 ((f : Int) * 2) = .int .i64 (nf : Int); rw [HNF.out]; congr 1; omega
                  · rw [show 7 * r + 6 = 7 * r + 5 + 1 from rfl, HNX.out]
                    show ArrB _ _ _ (if f % 2 = 1 then _ else _)
                    rw [if_neg (by omega)]
                    exact hA.out
                case measure => simp [intOf]
              · go_wp2
                go_roundw
                case rel =>
                  refine ⟨7, by omega, rfl, ?_, hid ?_, hZ, (by repeat (first | (with_reducible first | exact Below.refl _ _ | assumption | refine World.ext_below_of ?_ ?_ _ | refine Below.setCell ?_ ?_ _ | refine Below.alloc ?_ ?_ _ | refine Below.drew ?_ | refine World.size_le_ext _ _ _ ?_) | (solve | simp [go_sem] | (simp [go_sem]; omega) | omega)))⟩
                  · rw [show 7 * r + 7 = 7 * r + 6 + 1 from rfl, HNX.out]; show Value.int .i64 ((f : Int) * 2) = .int .i64 (nf : Int); rw [HNF.out]; congr 1; omega
                  · rw [show 7 * r + 7 = 7 * r + 6 + 1 from rfl, HNX.out]
                    show ArrB _ _ _ (if f % 2 = 1 then _ else _)
                    rw [if_neg (by omega)]
                    exact hA.out
                case measure => simp [intOf]
          · rw [ho] at g1
            have g1 : bits BinOp.and IntKind.i64 (f : Int) 1 = 1 := g1
            rcases hsp with hsp | hsp
            · rw [if_pos hsp] at hnf g2
              rw [← hnf] at g3
              have HNF := hid hnf
              clear hnf
              rcases hc with rfl | rfl | rfl | rfl | rfl | rfl | rfl
              · go_wp2
                go_roundw
                case rel =>
                  have E := iv_or (nb l r) (1#64 <<< (2 ^ 0 - 1))
                  rw [show iv (1#64 <<< (2 ^ 0 - 1)) = 1 from by decide +kernel] at E
                  rw [E]
                  refine ⟨1, by omega, rfl, ?_, hid ?_, hid (hZ.out.other (by show w.heap.size ≠ w.heap.size + 1; omega) _), (by repeat (first | (with_reducible first | exact Below.refl _ _ | assumption | refine World.ext_below_of ?_ ?_ _ | refine Below.setCell ?_ ?_ _ | refine Below.alloc ?_ ?_ _ | refine Below.drew ?_ | refine World.size_le_ext _ _ _ ?_) | (solve | simp [go_sem] | (simp [go_sem]; omega) | omega)))⟩
                  · rw [show 7 * r + 1 = 7 * r + 0 + 1 from rfl, HNX.out]
                  · rw [show 7 * r + 1 = 7 * r + 0 + 1 from rfl, HNX.out]
                    show ArrB _ _ _ (if f % 2 = 1 then _ else _)
                    rw [if_pos ho]
                    exact hA.out.set r _
                case measure => simp [intOf]
              · go_wp2
                go_roundw
                case rel =>
                  have E := iv_or (nb l r) (1#64 <<< (2 ^ 1 - 1))
                  rw [show iv (1#64 <<< (2 ^ 1 - 1)) = 2 from by decide +kernel] at E
                  rw [E]
                  refine ⟨2, by omega, rfl, ?_, hid ?_, hid (hZ.out.other (by show w.heap.size ≠ w.heap.size + 1; omega) _), (by repeat (first | (with_reducible first | exact Below.refl _ _ | assumption | refine World.ext_below_of ?_ ?_ _ | refine Below.setCell ?_ ?_ _ | refine Below.alloc ?_ ?_ _ | refine Below.drew ?_ | refine World.size_le_ext _ _ _ ?_) | (solve | simp [go_sem] | (simp [go_sem]; omega) | omega)))⟩
                  · rw [show 7 * r + 2 = 7 * r + 1 + 1 from rfl, HNX.out]
                  · rw [show 7 * r + 2 = 7 * r + 1 + 1 from rfl, HNX.out]
                    show ArrB _ _ _ (if f % 2 = 1 then _ else _)
                    rw [if_pos ho]
                    exact hA.out.set r _
                case measure => simp [intOf]
              · go_wp2
                go_roundw
                case rel =>
                  have E := iv_or (nb l r) (1#64 <<< (2 ^ 2 - 1))
                  rw [show iv (1#64 <<< (2 ^ 2 - 1)) = 8 from by decide +kernel] at E
                  rw [E]
                  refine ⟨3, by omega, rfl, ?_, hid ?_, hid (hZ.out.other (by show w.heap.size ≠ w.heap.size + 1; omega) _), (by repeat (first | (with_reducible first | exact Below.refl _ _ | assumption | refine World.ext_below_of ?_ ?_ _ | refine Below.setCell ?_ ?_ _ | refine Below.alloc ?_ ?_ _ | refine Below.drew ?_ | refine World.size_le_ext _ _ _ ?_) | (solve | simp [go_sem] | (simp [go_sem]; omega) | omega)))⟩
                  · rw [show 7 * r + 3 = 7 * r + 2 + 1 from rfl, HNX.out]
                  · rw [show 7 * r + 3 = 7 * r + 2 + 1 from rfl, HNX.out]
                    show ArrB _ _ _ (if f % 2 = 1 then _ else _)
                    rw [if_pos ho]
                    exact hA.out.set r _
                case measure => simp [intOf]
              · go_wp2
                go_roundw
                case rel =>
                  have E := iv_or (nb l r) (1#64 <<< (2 ^ 3 - 1))
                  rw [show iv (1#64 <<< (2 ^ 3 - 1)) = 128 from by decide +kernel] at E
                  rw [E]
                  refine ⟨4, by omega, rfl, ?_, hid ?_, hid (hZ.out.other (by show w.heap.size ≠ w.heap.size + 1; omega) _), (by repeat (first | (with_reducible first | exact Below.refl _ _ | assumption | refine World.ext_below_of ?_ ?_ _ | refine Below.setCell ?_ ?_ _ | refine Below.alloc ?_ ?_ _ | refine Below.drew ?_ | refine World.size_le_ext _ _ _ ?_) | (solve | simp [go_sem] | (simp [go_sem]; omega) | omega)))⟩
                  · rw [show 7 * r + 4 = 7 * r + 3 + 1 from rfl, HNX.out]
                  · rw [show 7 * r + 4 = 7 * r + 3 + 1 from rfl, HNX.out]
                    show ArrB _ _ _ (if f % 2 = 1 then _ else _)
                    rw [if_pos ho]
                    exact hA.out.set r _
                case measure => simp [intOf]
              · go_wp2
                go_roundw
                case rel =>
                  have E := iv_or (nb l r) (1#64 <<< (2 ^ 4 - 1))
                  rw [show iv (1#64 <<< (2 ^ 4 - 1)) = 32768 from by decide +kernel] at E
                  rw [E]
                  refine ⟨5, by omega, rfl, ?_, hid ?_, hid (hZ.out.other (by show w.heap.size ≠ w.heap.size + 1; omega) _), (by repeat (first | (with_reducible first | exact Below.refl _ _ | assumption | refine World.ext_below_of ?_ ?_ _ | refine Below.setCell ?_ ?_ _ | refine Below.alloc ?_ ?_ _ | refine Below.drew ?_ | refine World.size_le_ext _ _ _ ?_) | (solve | simp [go_sem] | (simp [go_sem]; omega) | omega)))⟩
                  · rw [show 7 * r + 5 = 7 * r + 4 + 1 from rfl, HNX.out]
                  · rw [show 7 * r + 5 = 7 * r + 4 + 1 from rfl, HNX.out]
                    show ArrB _ _ _ (if f % 2 = 1 then _ else _)
                    rw [if_pos ho]
                    exact hA.out.set r _
                case measure => simp [intOf]
              · go_wp2
                go_roundw
                case rel =>
                  have E := iv_or (nb l r) (1#64 <<< (2 ^ 5 - 1))
                  rw [show iv (1#64 <<< (2 ^ 5 - 1)) = 2147483648 from by decide +kernel] at E
                  rw [E]
                  refine ⟨6, by omega, rfl, ?_, hid ?_, hid (hZ.out.other (by show w.heap.size ≠ w.heap.size + 1; omega) _), (by repeat (first | (with_reducible first | exact Below.refl _ _ | assumption | refine World.ext_below_of ?_ ?_ _ | refine Below.setCell ?_ ?_ _ | refine Below.alloc ?_ ?_ _ | refine Below.drew ?_ | refine World.size_le_ext _ _ _ ?_) | (solve | simp [go_sem] | (simp [go_sem]; omega) | omega)))⟩
                  · rw [show 7 * r + 6 = 7 * r + 5 + 1 from rfl, HNX.out]
                  · rw [show 7 * r + 6 = 7 * r + 5 + 1 from rfl, HNX.out]
                    show ArrB _ _ _ (if f % 2 = 1 then _ else _)
                    rw [if_pos ho]
                    exact hA.out.set r _
                case measure => simp [intOf]
              · go_wp2
                go_roundw
                case rel =>
                  have E := iv_or (nb l r) (1#64 <<< (2 ^ 6 - 1))
                  rw [show iv (1#64 <<< (2 ^ 6 - 1)) = 9223372036854775808 from by decide +kernel] at E
                  rw [E]
                  refine ⟨7, by omega, rfl, ?_, hid ?_, hid (hZ.out.other (by show w.heap.size ≠ w.heap.size + 1; omega) _), (by repeat (first | (with_reducible first | exact Below.refl _ _ | assumption | refine World.ext_below_of ?_ ?_ _ | refine Below.setCell ?_ ?_ _ | refine Below.alloc ?_ ?_ _ | refine Below.drew ?_ | refine World.size_le_ext _ _ _ ?_) | (solve | simp [go_sem] | (simp [go_sem]; omega) | omega)))⟩
                  · rw [show 7 * r + 7 = 7 * r + 6 + 1 from rfl, HNX.out]
                  · rw [show 7 * r + 7 = 7 * r + 6 + 1 from rfl, HNX.out]
                    show ArrB _ _ _ (if f % 2 = 1 then _ else _)
                    rw [if_pos ho]
                    exact hA.out.set r _
                case measure => simp [intOf]
            · rw [if_neg hsp] at hnf g2
              have HNF := hid hnf
              clear hnf
              rcases hc with rfl | rfl | rfl | rfl | rfl | rfl | rfl
              · go_wp2
                go_roundw
                case rel =>
                  have E := iv_or (nb l r) (1#64 <<< (2 ^ 0 - 1))
                  rw [show iv (1#64 <<< (2 ^ 0 - 1)) = 1 from by decide +kernel] at E
                  rw [E]
                  refine ⟨1, by omega, rfl, ?_, hid ?_, hid (hZ.out.other (by show w.heap.size ≠ w.heap.size + 1; omega) _), (by repeat (first | (with_reducible first | exact Below.refl _ _ | assumption | refine World.ext_below_of ?_ ?_ _ | refine Below.setCell ?_ ?_ _ | refine Below.alloc ?_ ?_ _ | refine Below.drew ?_ | refine World.size_le_ext _ _ _ ?_) | (solve | simp [go_sem] | (simp [go_sem]; omega) | omega)))⟩
                  · rw [show 7 * r + 1 = 7 * r + 0 + 1 from rfl, HNX.out]; show Value.int .i64 ((f : Int) * 2) = .int .i64 (nf : Int); rw [HNF.out]; congr 1; omega
                  · rw [show 7 * r + 1 = 7 * r + 0 + 1 from rfl, HNX.out]
                    show ArrB _ _ _ (if f % 2 = 1 then _ else _)
                    rw [if_pos ho]
                    exact hA.out.set r _
                case measure => simp [intOf]
              · go_wp2
                go_roundw
                case rel =>
                  have E := iv_or (nb l r) (1#64 <<< (2 ^ 1 - 1))
                  rw [show iv (1#64 <<< (2 ^ 1 - 1)) = 2 from by decide +kernel] at E
                  rw [E]
                  refine ⟨2, by omega, rfl, ?_, hid ?_, hid (hZ.out.other (by show w.heap.size ≠ w.heap.size + 1; omega) _), (by repeat (first | (with_reducible first | exact Below.refl _ _ | assumption | refine World.ext_below_of ?_ ?_ _ | refine Below.setCell ?_ ?_ _ | refine Below.alloc ?_ ?_ _ | refine Below.drew ?_ | refine World.size_le_ext _ _ _ ?_) | (solve | simp [go_sem] | (simp [go_sem]; omega) | omega)))⟩
                  · rw [show 7 * r + 2 = 7 * r + 1 + 1 from rfl, HNX.out]; show Value.int .i64 ((f : Int) * 2) = .int .i64 (nf : Int); rw [HNF.out]; congr 1; omega
                  · rw [show 7 * r + 2 = 7 * r + 1 + 1 from rfl, HNX.out]
                    show ArrB _ _ _ (if f % 2 = 1 then _ else _)
                    rw [if_pos ho]
                    exact hA.out.set r _
                case measure => simp [intOf]
              · go_wp2
                go_roundw
                case rel =>
                  have E := iv_or (nb l r) (1#64 <<< (2 ^ 2 - 1))
                  rw [show iv (1#64 <<< (2 ^ 2 - 1)) = 8 from by decide +kernel] at E
                  rw [E]
                  refine ⟨3, by omega, rfl, ?_, hid ?_, hid (hZ.out.other (by show w.heap.size ≠ w.heap.size + 1; omega) _), (by repeat (first | (with_reducible first | exact Below.refl _ _ | assumption | refine World.ext_below_of ?_ ?_ _ | refine Below.setCell ?_ ?_ _ | refine Below.alloc ?_ ?_ _ | refine Below.drew ?_ | refine World.size_le_ext _ _ _ ?_) | (solve | simp [go_sem] | (simp [go_sem]; omega) | omega)))⟩
                  · rw [show 7 * r + 3 = 7 * r + 2 + 1 from rfl, HNX.out]; show Value.int .i64 ((f : Int) * 2) = .int .i64 (nf : Int); rw [HNF.out]; congr 1; omega
                  · rw [show 7 * r + 3 = 7 * r + 2 + 1 from rfl, HNX.out]
                    show ArrB _ _ _ (if f % 2 = 1 then _ else _)
                    rw [if_pos ho]
                    exact hA.out.set r _
                case measure => simp [intOf]
              · go_wp2
                go_roundw
                case rel =>
                  have E := iv_or (nb l r) (1#64 <<< (2 ^ 3 - 1))
                  rw [show iv (1#64 <<< (2 ^ 3 - 1)) = 128 from by decide +kernel] at E
                  rw [E]
                  refine ⟨4, by omega, rfl, ?_, hid ?_, hid (hZ.out.other (by show w.heap.size ≠ w.heap.size + 1; omega) _), (by repeat (first | (with_reducible first | exact Below.refl _ _ | assumption | refine World.ext_below_of ?_ ?_ _ | refine Below.setCell ?_ ?_ _ | refine Below.alloc ?_ ?_ _ | refine Below.drew ?_ | refine World.size_le_ext _ _ _ ?_) | (solve | simp [go_sem] | (simp [go_sem]; omega) | omega)))⟩
                  · rw [show 7 * r + 4 = 7 * r + 3 + 1 from rfl, HNX.out]; show Value.int .i64 ((f : Int) * 2) = .int .i64 (nf : Int); rw [HNF.out]; congr 1; omega
                  · rw [show 7 * r + 4 = 7 * r + 3 + 1 from rfl, HNX.out]
                    show ArrB _ _ _ (if f % 2 = 1 then _ else _)
                    rw [if_pos ho]
                    exact hA.out.set r _
                case measure => simp [intOf]
              · go_wp2
                go_roundw
                case rel =>
                  have E := iv_or (nb l r) (1#64 <<< (2 ^ 4 - 1))
                  rw [show iv (1#64 <<< (2 ^ 4 - 1)) = 32768 from by decide +kernel] at E
                  rw [E]
                  refine ⟨5, by omega, rfl, ?_, hid ?_, hid (hZ.out.other (by show w.heap.size ≠ w.heap.size + 1; omega) _), (by repeat (first | (with_reducible first | exact Below.refl _ _ | assumption | refine World.ext_below_of ?_ ?_ _ | refine Below.setCell ?_ ?_ _ | refine Below.alloc ?_ ?_ _ | refine Below.drew ?_ | refine World.size_le_ext _ _ _ ?_) | (solve | simp [go_sem] | (simp [go_sem]; omega) | omega)))⟩
                  · rw [show 7 * r + 5 = 7 * r + 4 + 1 from rfl, HNX.out]; show Value.int .i64 ((f : Int) * 2) = .int .i64 (nf : Int); rw [HNF.out]; congr 1; omega
                  · rw [show 7 * r + 5 = 7 * r + 4 + 1 from rfl, HNX.out]
                    show ArrB _ _ _ (if f % 2 = 1 then _ else _)
                    rw [if_pos ho]
                    exact hA.out.set r _
                case measure => simp [intOf]
              · go_wp2
                go_roundw
                case rel =>
                  have E := iv_or (nb l r) (1#64 <<< (2 ^ 5 - 1))
                  rw [show iv (1#64 <<< (2 ^ 5 - 1)) = 2147483648 from by decide +kernel] at E
                  rw [E]
                  refine ⟨6, by omega, rfl, ?_, hid ?_, hid (hZ.out.other (by show w.heap.size ≠ w.heap.size + 1; omega) _), (by repeat (first | (with_reducible first | exact Below.refl _ _ | assumption | refine World.ext_below_of ?_ ?_ _ | refine Below.setCell ?_ ?_ _ | refine Below.alloc ?_ ?_ _ | refine Below.drew ?_ | refine World.size_le_ext _ _ _ ?_) | (solve | simp [go_sem] | (simp [go_sem]; omega) | omega)))⟩
                  · rw [show 7 * r + 6 = 7 * r + 5 + 1 from rfl, HNX.out]; show Value.int .i64 ((f : Int) * 2) = .int .i64 (nf : Int); rw [HNF.out]; congr 1; omega
                  · rw [show 7 * r + 6 = 7 * r + 5 + 1 from rfl, HNX.out]
                    show ArrB _ _ _ (if f % 2 = 1 then _ else _)
                    rw [if_pos ho]
                    exact hA.out.set r _
                case measure => simp [intOf]
              · go_wp2
                go_roundw
                case rel =>
                  have E := iv_or (nb l r) (1#64 <<< (2 ^ 6 - 1))
                  rw [show iv (1#64 <<< (2 ^ 6 - 1)) = 9223372036854775808 from by decide +kernel] at E
                  rw [E]
                  refine ⟨7, by omega, rfl, ?_, hid ?_, hid (hZ.out.other (by show w.heap.size ≠ w.heap.size + 1; omega) _), (by repeat (first | (with_reducible first | exact Below.refl _ _ | assumption | refine World.ext_below_of ?_ ?_ _ | refine Below.setCell ?_ ?_ _ | refine Below.alloc ?_ ?_ _ | refine Below.drew ?_ | refine World.size_le_ext _ _ _ ?_) | (solve | simp [go_sem] | (simp [go_sem]; omega) | omega)))⟩
                  · rw [show 7 * r + 7 = 7 * r + 6 + 1 from rfl, HNX.out]; show Value.int .i64 ((f : Int) * 2) = .int .i64 (nf : Int); rw [HNF.out]; congr 1; omega
                  · rw [show 7 * r + 7 = 7 * r + 6 + 1 from rfl, HNX.out]
                    show ArrB _ _ _ (if f % 2 = 1 then _ else _)
                    rw [if_pos ho]
                    exact hA.out.set r _
                case measure => simp [intOf]
        · obtain rfl : j = 7 := by omega
          clear hnx
          go_wp2
          go_roundw
          case rel => exact ⟨r + 1, by omega, by go_num, by rw [show 7 * (r + 1) = 7 * r + 7 from by omega, ← HFF.out], hid (by rw [show 7 * (r + 1) = 7 * r + 7 from by omega, ← HL.out]; exact hA.out), hZ, hb⟩
          case measure => simp [intOf]; omega
    · obtain rfl : r = 24 := by omega
      rw [show 7 * 24 = 168 from rfl, conGo_end] at hA
      have iS := hid (show (Try.prog.info? 55).map (·.size) = some (cellsB constL).size from iCon)
      have oS := hid (show (cellsB (List.replicate 24 0)).size = (cellsB constL).size from rfl)
      have nS := hid (one_cellsB constL)
      obtain ⟨z, hz⟩ : ∃ z : List (BitVec 64), z = List.replicate 24 0 := ⟨_, rfl⟩
      rw [← hz] at hZ oS
      clear hz hlt hr
      go_wp2_with (first | (refine wpList_load_row rfl 55 (.tmp 1) rfl (w.heap.size + 1) rfl 55 _ (0, 0) _ hA.out uCon rfl iS.out ?_; simp only [Act.put, List.setIfInBounds_toArray, List.set_cons_zero, List.set_cons_succ]) | (refine wpList_store_row rfl 55 (.tmp 0) (.tmp 35) rfl w.heap.size _ rfl rfl 55 _ hZ.out iS.out oS.out nS.out ?_; simp only [Act.put]))
      refine bodyPost_ret (results_cell_row rfl _ _ w.heap.size 55 (cellsB constL) (0, 0) _ rfl (heap_setRow _ _ _ _ _ hZ.out) uCon rfl iS.out) rfl ⟨rfl, below_setRow hb _ (Nat.le_refl _) _⟩
end Go.Proofs.Ytmlaenfgfgloeaa
