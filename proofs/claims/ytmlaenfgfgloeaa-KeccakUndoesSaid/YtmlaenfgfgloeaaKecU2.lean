import Derived.Test.YtmlaenfgfgloeaaKecU
/-! keccak.Undo: the walk. -/
set_option linter.unusedVariables false
set_option linter.unusedSimpArgs false
namespace Go.Proofs.Ytmlaenfgfgloeaa
open Go.RowKit

theorem turn_pos (i : Nat) (h : i < 24) : 0 < turnN i := by
  unfold turnN turnsL
  exact of_decide_eq_true ((by decide +kernel : ∀ i, i < 24 → decide (0 < ([1, 3, 6, 10, 15, 21, 28, 36, 45, 55, 2, 14, 27, 41, 56, 8, 25, 43, 62, 18, 39, 61, 20, 44] : List Nat).getD i 0) = true) i h)
theorem slice5e (b j : Nat) (hj : j < 5) (w : World) : (Instr.sliceAt 23 (.pointer (some ⟨b, 0, none⟩)) (some (.int .i64 (5 * (j : Int)))) none none).run Try.prog w = .ok (.slice (some ⟨b, 5 * j, none⟩) (25 - 5 * j) (25 - 5 * j)) w := by
  have hc : j = 0 ∨ j = 1 ∨ j = 2 ∨ j = 3 ∨ j = 4 := by omega
  rcases hc with rfl | rfl | rfl | rfl | rfl
  · show Sem.run _ _ _ = _; kernel_rfl
  · show Sem.run _ _ _ = _; kernel_rfl
  · show Sem.run _ _ _ = _; kernel_rfl
  · show Sem.run _ _ _ = _; kernel_rfl
  · show Sem.run _ _ _ = _; kernel_rfl
theorem slice5a (b : Nat) (w : World) : (Instr.sliceAt 51 (.pointer (some ⟨b, 0, none⟩)) none none none).run Try.prog w = .ok (.slice (some ⟨b, 0, none⟩) 5 5) w := by
  show Sem.run _ _ _ = _; kernel_rfl
theorem lenv5 (s : List (BitVec 64)) (hs : s.length = 5) : ∃ a b c d e, s = [a, b, c, d, e] := by
  match s, hs with
  | [a, b, c, d, e], _ => exact ⟨a, b, c, d, e, rfl⟩
theorem put_part (s o : List (BitVec 64)) (hs : s.length = 25) (ho : o.length = 5) (j : Nat) (hj : j < 5) : setPart (cellsB s) (5 * j) (o.map fun x => Value.int .u64 (iv x)).toArray = cellsB (putRow s o (5 * j)) := by
  rw [lenv25 s hs]
  obtain ⟨a, b, c, d, e, rfl⟩ := lenv5 o ho
  have hc : j = 0 ∨ j = 1 ∨ j = 2 ∨ j = 3 ∨ j = 4 := by omega
  rcases hc with rfl | rfl | rfl | rfl | rfl <;> rfl
theorem uSUv : Try.prog.underlying 52 = some (.slice 22) := by kernel_rfl
theorem sUv1 : (Try.prog.info? 22).map (·.size) = some 1 := by kernel_rfl
theorem setRowv_other (w : World) (g k : Nat) (cs : Array Value) (h : k ≠ g) : (w.setRow g cs).heap[k]? = w.heap[k]? := by
  simp only [World.setRow, Array.getElem?_modify]
  rw [if_neg (by omega)]

set_option maxRecDepth 100000 in
set_option maxHeartbeats 4000000 in
theorem undo_any (s : List (BitVec 64)) (w : World) (hs : s.length = 25) :
    Calls Try.prog 27 #[.agg (cellsB s)] w fun e w' => e = .returned (.agg (cellsB (undoL s))) ∧ Below w.heap.size w w' := by
  go_enter Try.func27, Try.ntmps27
  go_wp2
  go_loopw [3] (fun i wr => ∃ k : Nat, k ≤ 24 ∧ i = .int .i64 (23 - (k : Int)) ∧ Hid (ArrB 23 wr w.heap.size (undoGo s k)) ∧ Hid (ArrB 23 wr (w.heap.size + 1) (List.replicate 25 0)) ∧ Below w.heap.size w wr)
    (fun i _ => (intOf i + 1).toNat)
  case atStart =>
    refine ⟨0, by omega, rfl, hid ((ArrB.new _ _ s).alloc _), hid ?_, (by repeat (first | (with_reducible first | exact Below.refl _ _ | assumption | refine World.ext_below_of ?_ ?_ _ | refine Below.setCell ?_ ?_ _ | refine Below.alloc ?_ ?_ _ | refine Below.drew ?_ | refine World.size_le_ext _ _ _ ?_) | (solve | simp [go_sem] | (simp [go_sem]; omega) | omega)))⟩
    have := ArrB.new 23 (w.alloc (.cells (cellsB s) 23)) (List.replicate 25 0)
    rw [show (w.alloc (.cells (cellsB s) 23)).heap.size = w.heap.size + 1 from by simp] at this
    exact this
  case round =>
    obtain ⟨k, hk, rfl, hS, hR, hb⟩ := hrel
    have hlen : (undoGo s k).length = 25 := undoGo_len s hs k
    obtain ⟨s0, hs0⟩ : ∃ s0, s0 = undoGo s k := ⟨_, rfl⟩
    rw [← hs0] at hS hlen
    have HS0 := hid hs0
    clear hs0
    by_cases hlt : k < 24
    · have hge : (k : Int) ≤ 23 := by omega
      have c0 := hS.out.cell 0 (by omega)
      have f0 := hS.out.free 0
      have l1 := hS.out.lt
      have hcn : Hid (∀ w, Calls Try.prog 31 #[.int .i64 (23 - (k : Int))] w fun e w' => e = .returned (.int .u64 (iv (nb constL (23 - k)))) ∧ Below w.heap.size w w') := hid fun w => by
        have := constant_any (23 - k) w (by omega)
        rw [show ((23 - k : Nat) : Int) = 23 - (k : Int) by omega] at this
        exact this
      go_wp2_with (refine wp_region_ext_tail 6 (by kernel_rfl) (by kernel_rfl) ?_; simp only [List.take_succ_cons, List.take_zero, List.drop_succ_cons, List.drop_zero]; (repeat (go_big_quiet_step (first | (go_at_call 31; with_reducible refine Calls.ext_of (hcn.out _))))); refine wpQuiet_nil ?_; rintro _ ⟨xw, rfl⟩)
      have hS1 := hid ((hS.out.ext xw).set 0 (nb s0 0 ^^^ nb constL (23 - k)))
      rw [← iv_xor] at hS1
      have hR1 := hid ((hR.out.ext xw).other (show w.heap.size + 1 ≠ (⟨w.heap.size, 0, none⟩ : Addr).block by show w.heap.size + 1 ≠ w.heap.size; omega) (.int .u64 (bits .xor .u64 (iv (nb s0 0)) (iv (nb constL (23 - k))))))
      have hb1 : Below w.heap.size w ((wr.ext xw).setCell ⟨w.heap.size, 0, none⟩ (.int .u64 (bits .xor .u64 (iv (nb s0 0)) (iv (nb constL (23 - k)))))) := (by repeat (first | (with_reducible first | exact Below.refl _ _ | assumption | refine World.ext_below_of ?_ ?_ _ | refine Below.setCell ?_ ?_ _ | refine Below.alloc ?_ ?_ _ | refine Below.drew ?_ | refine World.size_le_ext _ _ _ ?_) | (solve | simp [go_sem] | (simp [go_sem]; omega) | omega)))
      generalize (wr.ext xw).setCell ⟨w.heap.size, 0, none⟩ (.int .u64 (bits .xor .u64 (iv (nb s0 0)) (iv (nb constL (23 - k))))) = w1 at hS1 hR1 hb1 ⊢
      clear hS hR hb c0 f0 l1 hcn
      obtain ⟨s1, hs1⟩ : ∃ s1, s1 = iotaL s0 (23 - k) := ⟨_, rfl⟩
      rw [show s0.set 0 (nb s0 0 ^^^ nb constL (23 - k)) = s1 from hs1.symm] at hS1
      have hl1 : s1.length = 25 := by rw [hs1, iotaL_len]; exact hlen
      have HS1 := hid hs1
      clear hs1 hlen
      go_wp2_with fail
      go_loopw [4] (fun y wr => ∃ j : Nat, j ≤ 5 ∧ y = .int .i64 (5 * j : Nat) ∧ Hid (ArrB 23 wr w.heap.size (unchiGo s1 j)) ∧ Hid (ArrB 23 wr (w.heap.size + 1) (List.replicate 25 0)) ∧ Below w.heap.size w wr)
        (fun y _ => 25 - (intOf y).toNat)
      case atStart => exact ⟨0, by omega, rfl, hS1, hR1, hb1⟩
      case round =>
        clear hS1 hR1 hb1
        obtain ⟨j, hj, rfl, hS, hR, hb⟩ := hrel
        have hlj : (unchiGo s1 j).length = 25 := unchiGo_len s1 hl1 j hj
        obtain ⟨sj, hsj⟩ : ∃ sj, sj = unchiGo s1 j := ⟨_, rfl⟩
        rw [← hsj] at hS hlj
        have HSJ := hid hsj
        clear hsj
        by_cases hlt3 : j < 5
        · have c0 := hS.out.cell (5 * j) (by omega)
          have c1 := hS.out.cell (5 * j + 1) (by omega)
          have c2 := hS.out.cell (5 * j + 2) (by omega)
          have c3 := hS.out.cell (5 * j + 3) (by omega)
          have c4 := hS.out.cell (5 * j + 4) (by omega)
          have l1 := hS.out.lt
          have hy : ((5 * j : Nat) : Int) < 25 := by omega
          have hsl := slice5 w.heap.size j hlt3
          have har := array5
          have hU : Hid (∀ w, Calls Try.prog 48 #[.agg #[.int .u64 (iv (nb sj (5 * j))), .int .u64 (iv (nb sj (5 * j + 1))), .int .u64 (iv (nb sj (5 * j + 2))), .int .u64 (iv (nb sj (5 * j + 3))), .int .u64 (iv (nb sj (5 * j + 4)))]] w fun e w' => e = .returned (.agg (cellsB (unchiL (rowAt sj (5 * j))))) ∧ Below w.heap.size w w') := hid fun w => unchi_any (rowAt sj (5 * j)) w rfl
          obtain ⟨o, ho⟩ : ∃ o, o = unchiL (rowAt sj (5 * j)) := ⟨_, rfl⟩
          rw [← ho] at hU
          have hlo : o.length = 5 := by rw [ho]; exact unchiL_len _
          have HO := hid ho
          have iO := hid (show (Try.prog.info? 51).map (·.size) = some (cellsB o).size by rw [size_cellsB, hlo]; exact iA5)
          have zO := hid (show (cellsB [0, 0, 0, 0, 0]).size = (cellsB o).size by rw [size_cellsB, size_cellsB, hlo]; rfl)
          have nO := hid (one_cellsB o)
          clear ho
          go_wp2_with fail
          refine (hU.out _).mono ?_
          rintro e w2 ⟨rfl, hb2⟩
          have hS2 := hid ((hS.out.below hb2 hS.out.lt).alloc (.cells (cellsB o) 51))
          have hR2 := hid ((hR.out.below hb2 hR.out.lt).alloc (.cells (cellsB o) 51))
          have hO2 := hid (ArrB.new 51 w2 o)
          have hb3 := hb.trans (hb2.mono hb.size)
          have hb4 := hb3.alloc hb3.size (.cells (cellsB o) 51)
          have hsz : w.heap.size + 2 ≤ w2.heap.size := by have := (hR.out.below hb2 hR.out.lt).lt; omega
          clear hS hR hb hb2 hb3 c0 c1 c2 c3 c4 l1 hsl har hU
          have hsl := slice5e w.heap.size j hlt3
          have hsa := slice5a
          go_wp2_with (refine wpList_allocStore 51 31 5 (cellsB o) (cellsB [0, 0, 0, 0, 0]) rfl rfl rfl rfl rfl rfl (by decide) (by simp) rfl (by kernel_rfl) zO.out iO.out nO.out ?_; simp only [Act.put, List.setIfInBounds_toArray, List.set_cons_zero, List.set_cons_succ])
          obtain ⟨G, hG⟩ : ∃ G, G = w2.heap.size := ⟨_, rfl⟩
          rw [← hG] at hO2 hsz ⊢
          generalize w2.alloc (.cells (cellsB o) 51) = w3 at hS2 hR2 hO2 hb4 ⊢
          clear hG
          (refine wp_region_ext_tail 3 (by kernel_rfl) (by kernel_rfl) ?_; simp only [List.take_succ_cons, List.take_zero, List.drop_succ_cons, List.drop_zero]; (repeat (go_big_quiet_step (first | fail))); refine wpQuiet_nil ?_; rintro _ ⟨xw, rfl⟩)
          have hS5 := hS2.out.ext xw
          have hO5 := hO2.out.ext xw
          refine wpList_copy_row rfl (.tmp 33) (.tmp 34) 52 52 rfl 22 w.heap.size (5 * j) (25 - 5 * j) (25 - 5 * j) rfl ⟨G, 0, none⟩ 5 5 rfl _ _ (o.map fun x => Value.int .u64 (iv x)) uSUv sUv1 hS5 (by rw [List.length_map, hlo]; exact (Nat.min_eq_left (by omega)).symm) ?_ (by simp [hlo, size_cellsB, hlj]; omega) ?_ ?_
          · intro i u hu
            have hi : i < 5 := by
              rcases Nat.lt_or_ge i 5 with h | h
              · exact h
              · rw [List.getElem?_eq_none (by simp [hlo]; omega)] at hu; cases hu
            have := hO5.cell i (by omega)
            rw [show (⟨G, 0, none⟩ : Addr).add i = ⟨G, i, none⟩ from by unfold Addr.add; split <;> simp_all, this, ← hu]
            simp [nb, show i < o.length by omega]
          · intro u hu
            obtain ⟨x, _, rfl⟩ := List.mem_map.1 hu
            rfl
          rw [put_part sj o hlj hlo j hlt3]
          have hS6 := hid (show ArrB 23 ((w3.ext xw).setRow w.heap.size (cellsB (putRow sj o (5 * j)))) w.heap.size (putRow sj o (5 * j)) from heap_setRow _ _ _ _ _ hS5)
          have hR6 := hid (show ArrB 23 ((w3.ext xw).setRow w.heap.size (cellsB (putRow sj o (5 * j)))) (w.heap.size + 1) (List.replicate 25 0) from (setRowv_other _ _ _ _ (by omega)).trans (hR2.out.ext xw))
          have hb6 : Below w.heap.size w ((w3.ext xw).setRow w.heap.size (cellsB (putRow sj o (5 * j)))) := below_setRow (World.ext_below_of hb4 hb4.size xw) _ (Nat.le_refl _) _
          generalize (w3.ext xw).setRow w.heap.size (cellsB (putRow sj o (5 * j))) = w6 at hS6 hR6 hb6 ⊢
          have e1 : putRow sj o (5 * j) = unchiGo s1 (j + 1) := by rw [HO.out, HSJ.out]; rfl
          rw [e1] at hS6
          clear hS2 hR2 hO2 hb4 hS5 hO5 hsl hsa e1
          go_wp2
          go_roundw
          case rel =>
            exact ⟨j + 1, by omega, by go_num, hS6, hR6, hb6⟩
          case measure => simp [intOf]; omega
        · have hY : (25 : Int) ≤ ((5 * j : Nat) : Int) := by omega
          generalize ((5 * j : Nat) : Int) = Y at hY ⊢
          obtain ⟨s2, hs2⟩ : ∃ s2, s2 = unchiGo s1 5 := ⟨_, rfl⟩
          have hss : sj = s2 := by rw [HSJ.out, hs2, show j = 5 by omega]
          rw [hss] at hS hlj
          have HS2 := hid hs2
          have iS := hid (show (Try.prog.info? 23).map (·.size) = some (cellsB s2).size by rw [size_cellsB, hlj]; exact iArr25)
          have zS := hid (show (cellsB (List.replicate 25 0)).size = (cellsB s2).size by rw [size_cellsB, size_cellsB, hlj]; rfl)
          have nS := hid (one_cellsB s2)
          clear hs2 hss hlt3 hj HSJ
          go_wp2_with (first | (refine wpList_load_row rfl 23 (.tmp 1) rfl w.heap.size rfl 23 _ (0, 0) _ hS.out uArr25 rfl iS.out ?_; simp only [Act.put, List.setIfInBounds_toArray, List.set_cons_zero, List.set_cons_succ]) | (refine wpList_allocStore 23 36 6 (cellsB s2) (cellsB (List.replicate 25 0)) rfl rfl rfl rfl rfl rfl (by decide) (by simp) rfl (by kernel_rfl) zS.out iS.out nS.out ?_; simp only [Act.put, List.setIfInBounds_toArray, List.set_cons_zero, List.set_cons_succ]))
          have hT3 := hid (ArrB.new 23 wr s2)
          have hS3 := hid (hS.out.alloc (.cells (cellsB s2) 23))
          have hR3 := hid (hR.out.alloc (.cells (cellsB s2) 23))
          have hb3 := hb.alloc hb.size (.cells (cellsB s2) 23)
          have lR := hR.out.lt
          obtain ⟨G, hG⟩ : ∃ G, G = wr.heap.size := ⟨_, rfl⟩
          rw [← hG] at hT3 lR ⊢
          generalize wr.alloc (.cells (cellsB s2) 23) = w3 at hS3 hR3 hT3 hb3 ⊢
          clear hG hS hR hb
          go_loopw [37, 7] (fun i tv wr => ∃ m : Nat, m ≤ 24 ∧ i = .int .i64 m ∧ tv = .int .i64 ((prGo s2 m).2 : Nat) ∧ Hid (ArrB 23 wr w.heap.size (prGo s2 m).1) ∧ Hid (ArrB 23 wr (w.heap.size + 1) (List.replicate 25 0)) ∧ Hid (ArrB 23 wr G s2) ∧ Below w.heap.size w wr)
            (fun i _ _ => 24 - (intOf i).toNat)
          case atStart => exact ⟨0, by omega, rfl, rfl, hS3, hR3, hT3, hb3⟩
          case round =>
            clear hS3 hR3 hT3 hb3
            obtain ⟨m, hm, rfl, rfl, hS, hR, hT, hb⟩ := hrel
            have hlm : (prGo s2 m).1.length = 25 := by rw [prGo_len]; exact hlj
            have hto : (prGo s2 m).2 < 25 := by
              cases m with
              | zero => show 1 < 25; omega
              | succ m => exact lane_bd m
            obtain ⟨sm, hsm⟩ : ∃ sm, sm = (prGo s2 m).1 := ⟨_, rfl⟩
            obtain ⟨tm, htm⟩ : ∃ tm, tm = (prGo s2 m).2 := ⟨_, rfl⟩
            rw [← hsm] at hS hlm
            rw [← htm] at hto ⊢
            have HSM := hid hsm
            have HTM := hid htm
            clear hsm htm
            by_cases hlt2 : m < 24
            · have wh := hid fun w => where_any m w hlt2
              have hlb := lane_bd m
              have htb := turn_bd m
              have htp := turn_pos m hlt2
              obtain ⟨ln, hln⟩ : ∃ ln, ln = laneN m := ⟨_, rfl⟩
              obtain ⟨tn, htn⟩ : ∃ tn, tn = turnN m := ⟨_, rfl⟩
              rw [← hln, ← htn] at wh
              rw [← hln] at hlb
              rw [← htn] at htb htp
              have HLN := hid hln
              have HTN := hid htn
              clear hln htn
              have c1 := hT.out.cell ln (by omega)
              have c2 := hS.out.cell tm (by omega)
              have f2 := hS.out.free tm
              have l1 := hS.out.lt
              have l2 := hT.out.lt
              have hrot : Hid (∀ w, Calls Try.prog 30 #[.int .u64 (iv (nb s2 ln)), .int .i64 (-(tn : Int))] w fun e w' => e = .returned (.int .u64 (iv ((nb s2 ln).rotateLeft (64 - tn)))) ∧ Below w.heap.size w w') := hid fun w => by
                have := rot_any (nb s2 ln) (-(tn : Int)) w
                rw [show ((-(tn : Int)) % 64).toNat = 64 - tn from by omega] at this
                exact this
              go_wp2_with (first | (go_at_call 29; (with_reducible refine (Calls.asExt (wh.out _)).mono ?_); rintro _ _ ⟨rfl, _, rfl⟩) | (go_at_call 30; (with_reducible refine (Calls.asExt (hrot.out _)).mono ?_); rintro _ _ ⟨rfl, _, rfl⟩) | (refine wp_region_ext_tail 7 (by kernel_rfl) (by kernel_rfl) ?_; simp only [List.take_succ_cons, List.take_zero, List.drop_succ_cons, List.drop_zero]; (repeat (go_big_quiet_step (first | (go_at_call 30; with_reducible refine Calls.ext_of (hrot.out _))))); refine wpQuiet_nil ?_; rintro _ ⟨xw, rfl⟩))
              go_roundw
              case rel =>
                refine ⟨m + 1, by omega, by go_num, ?_, hid ?_, hid (((hR.out.ext _).ext _).other (by show w.heap.size + 1 ≠ w.heap.size; omega) _), hid (((hT.out.ext _).ext _).other (by show G ≠ w.heap.size; omega) _), (by repeat (first | (with_reducible first | exact Below.refl _ _ | assumption | refine World.ext_below_of ?_ ?_ _ | refine Below.setCell ?_ ?_ _ | refine Below.alloc ?_ ?_ _ | refine Below.drew ?_ | refine World.size_le_ext _ _ _ ?_) | (solve | simp [go_sem] | (simp [go_sem]; omega) | omega)))⟩
                · show Value.int IntKind.i64 (ln : Int) = .int .i64 ((laneN m : Nat) : Int)
                  rw [HLN.out]
                · show ArrB _ _ _ ((prGo s2 m).1.set (prGo s2 m).2 ((nb s2 (laneN m)).rotateLeft (64 - turnN m)))
                  rw [← HSM.out, ← HTM.out, ← HLN.out, ← HTN.out]
                  exact ((hS.out.ext _).ext _).set tm _
              case measure => simp [intOf]; omega
            · have e1 : sm = pirho s2 := by rw [HSM.out, show m = 24 by omega]; rfl
              rw [e1] at hS hlm
              clear e1 HSM
              have hm2 : (24 : Int) ≤ (m : Int) := by omega
              generalize (m : Int) = M at hm2 ⊢
              obtain ⟨s3, hs3⟩ : ∃ s3, s3 = pirho s2 := ⟨_, rfl⟩
              rw [← hs3] at hS hlm
              have HS3 := hid hs3
              clear hs3 hlt2 hT HTM hto
              go_wp2
              go_loopw [55] (fun i wr => ∃ n : Nat, n ≤ 191 ∧ i = .int .i64 n ∧ Hid (ArrB 23 wr w.heap.size (iter thetaL n s3)) ∧ Hid (ArrB 23 wr (w.heap.size + 1) (List.replicate 25 0)) ∧ Below w.heap.size w wr)
                (fun i _ => 191 - (intOf i).toNat)
              case atStart => exact ⟨0, by omega, rfl, hS, hR, hb⟩
              case round =>
                clear hS hR hb
                obtain ⟨n, hn, rfl, hS, hR, hb⟩ := hrel
                have hln : (iter thetaL n s3).length = 25 := by rw [iterT_len]; exact hlm
                obtain ⟨sn, hsn⟩ : ∃ sn, sn = iter thetaL n s3 := ⟨_, rfl⟩
                rw [← hsn] at hS hln
                have HSN := hid hsn
                clear hsn
                by_cases hlt4 : n < 191
                · go_wp2_with fail
                  refine (theta_any _ sn _ _ hln hS.out).mono ?_
                  rintro e w7 ⟨rfl, hS7, hg7⟩
                  have hR7 := hid (hR.out.grown hg7 (by simp))
                  have hb7 : Below w.heap.size w w7 := hb.grown hg7 hb.size (by simp)
                  have hS8 := hid hS7
                  have e2 : thetaL sn = iter thetaL (n + 1) s3 := by rw [HSN.out]; rfl
                  rw [e2] at hS8
                  clear hS7 hS hR hb hg7 e2
                  go_wp2
                  go_roundw
                  case rel => exact ⟨n + 1, by omega, by go_num, hS8, hR7, hb7⟩
                  case measure => simp [intOf]; omega
                · obtain rfl : n = 191 := by omega
                  have e2 : sn = undoGo s (k + 1) := by rw [HSN.out, HS3.out, HS2.out, HS1.out, HS0.out, undoGo, unround]
                  rw [e2] at hS
                  clear e2 HSN hln
                  go_wp2
                  go_roundw
                  case rel => exact ⟨k + 1, by omega, by go_num, hS, hR, hb⟩
                  case measure => simp [intOf]; omega
    · obtain rfl : k = 24 := by omega
      have HU := hid (show s0 = undoL s from HS0.out)
      have iS := hid (show (Try.prog.info? 23).map (·.size) = some (cellsB s0).size by rw [size_cellsB, hlen]; exact iArr25)
      have oS := hid (show (cellsB (List.replicate 25 0)).size = (cellsB s0).size by rw [size_cellsB, size_cellsB, hlen]; rfl)
      have nS := hid (one_cellsB s0)
      obtain ⟨z, hz⟩ : ∃ z : List (BitVec 64), z = List.replicate 25 0 := ⟨_, rfl⟩
      rw [← hz] at hR oS
      clear hz HS0 hlt hlen
      go_wp2_with (first | (refine wpList_load_row rfl 23 (.tmp 1) rfl w.heap.size rfl 23 _ (0, 0) _ hS.out uArr25 rfl iS.out ?_; simp only [Act.put, List.setIfInBounds_toArray, List.set_cons_zero, List.set_cons_succ]) | (refine wpList_store_row rfl 23 (.tmp 2) (.tmp 59) rfl (w.heap.size + 1) _ rfl rfl 23 _ hR.out iS.out oS.out nS.out ?_; simp only [Act.put]))
      refine bodyPost_ret (results_cell_row rfl _ _ (w.heap.size + 1) 23 (cellsB s0) (0, 0) _ rfl (heap_setRow _ _ _ _ _ hR.out) uArr25 rfl iS.out) rfl ⟨by rw [HU.out], below_setRow hb _ (by omega) _⟩
end Go.Proofs.Ytmlaenfgfgloeaa
