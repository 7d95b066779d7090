import Derived.Test.YtmlaenfgfgloeaaKecB
/-! keccak.Permute. -/
set_option maxRecDepth 4000
set_option linter.unusedVariables false
set_option linter.unusedSimpArgs false
namespace Go.Proofs.Ytmlaenfgfgloeaa
open Go.RowKit

def rpGo (s : List (BitVec 64)) : Nat → List (BitVec 64) × BitVec 64
  | 0 => (s, nb s 1)
  | i + 1 => ((rpGo s i).1.set (laneN i) ((rpGo s i).2.rotateLeft (turnN i)), nb (rpGo s i).1 (laneN i))
theorem rpGo_len (s : List (BitVec 64)) (i : Nat) : (rpGo s i).1.length = s.length := by induction i <;> simp [rpGo, *]
def rhopi (s : List (BitVec 64)) : List (BitVec 64) := (rpGo s 24).1
def rowAt (s : List (BitVec 64)) (y : Nat) : List (BitVec 64) := [nb s y, nb s (y + 1), nb s (y + 2), nb s (y + 3), nb s (y + 4)]
def chiRow (row s : List (BitVec 64)) (y : Nat) : Nat → List (BitVec 64)
  | 0 => s
  | x + 1 => (chiRow row s y x).set (y + x) (nb (chiRow row s y x) (y + x) ^^^ (~~~ nb row ((x + 1) % 5) &&& nb row ((x + 2) % 5)))
theorem chiRow_len (row s : List (BitVec 64)) (y x : Nat) : (chiRow row s y x).length = s.length := by induction x <;> simp [chiRow, *]
def chiGo (s : List (BitVec 64)) : Nat → List (BitVec 64)
  | 0 => s
  | j + 1 => chiRow (rowAt (chiGo s j) (5 * j)) (chiGo s j) (5 * j) 5
theorem chiGo_len (s : List (BitVec 64)) (j : Nat) : (chiGo s j).length = s.length := by induction j <;> simp [chiGo, chiRow_len, *]
def chiL (s : List (BitVec 64)) : List (BitVec 64) := chiGo s 5
def iotaL (s : List (BitVec 64)) (r : Nat) : List (BitVec 64) := s.set 0 (nb s 0 ^^^ nb constL r)
def roundL (s : List (BitVec 64)) (r : Nat) : List (BitVec 64) := iotaL (chiL (rhopi (thetaL s))) r
theorem roundL_len (s : List (BitVec 64)) (r : Nat) : (roundL s r).length = s.length := by simp [roundL, iotaL, chiL, chiGo_len, rhopi, rpGo_len, thetaL_len]
def permGo (s : List (BitVec 64)) : Nat → List (BitVec 64)
  | 0 => s
  | r + 1 => roundL (permGo s r) r
theorem permGo_len (s : List (BitVec 64)) (r : Nat) : (permGo s r).length = s.length := by induction r <;> simp [permGo, roundL_len, *]
def permL (s : List (BitVec 64)) : List (BitVec 64) := permGo s 24
theorem permL_len (s : List (BitVec 64)) : (permL s).length = s.length := permGo_len _ _

theorem uArr25 : Try.prog.underlying 23 = some (.array 25 22) := by kernel_rfl
theorem iArr25 : (Try.prog.info? 23).map (·.size) = some 25 := by kernel_rfl

theorem slice5 (b j : Nat) (hj : j < 5) (w : World) : (Instr.sliceAt 23 (.pointer (some ⟨b, 0, none⟩)) (some (.int .i64 (5 * (j : Int)))) (some (.int .i64 (5 * (j : Int) + 5))) none).run Try.prog w = .ok (.slice (some ⟨b, 5 * j, none⟩) 5 (25 - 5 * j)) w := by
  have hc : j = 0 ∨ j = 1 ∨ j = 2 ∨ j = 3 ∨ j = 4 := by omega
  rcases hc with rfl | rfl | rfl | rfl | rfl
  · show Sem.run _ _ _ = _; kernel_rfl
  · show Sem.run _ _ _ = _; kernel_rfl
  · show Sem.run _ _ _ = _; kernel_rfl
  · show Sem.run _ _ _ = _; kernel_rfl
  · show Sem.run _ _ _ = _; kernel_rfl

theorem array5 (a : Addr) (c : Nat) (w : World) : (Instr.arrayAt 51 (.slice (some a) 5 c)).run Try.prog w = .ok (.pointer (some a)) w := by kernel_rfl

set_option maxHeartbeats 2000000 in
theorem permute_any (s : List (BitVec 64)) (w : World) (hs : s.length = 25) :
    Calls Try.prog 10 #[.agg (cellsB s)] w fun e w' => e = .returned (.agg (cellsB (permL s))) ∧ Below w.heap.size w w' := by
  go_enter Try.func10, Try.ntmps10
  go_wp2
  go_loopw [11] (fun i wr => ∃ r : Nat, r ≤ 24 ∧ i = .int .i64 r ∧ Hid (ArrB 23 wr w.heap.size (permGo s r)) ∧ Hid (ArrB 23 wr (w.heap.size + 1) (List.replicate 25 0)) ∧ Below w.heap.size w wr)
    (fun i _ => 24 - (intOf i).toNat)
  case atStart =>
    refine ⟨0, by omega, rfl, hid ((ArrB.new _ _ s).alloc _), hid ?_, (by repeat (first | (with_reducible first | exact Below.refl _ _ | assumption | refine World.ext_below_of ?_ ?_ _ | refine Below.setCell ?_ ?_ _ | refine Below.alloc ?_ ?_ _ | refine Below.drew ?_ | refine World.size_le_ext _ _ _ ?_) | (solve | simp [go_sem] | (simp [go_sem]; omega) | omega)))⟩
    have := ArrB.new 23 (w.alloc (.cells (cellsB s) 23)) (List.replicate 25 0)
    rw [show (w.alloc (.cells (cellsB s) 23)).heap.size = w.heap.size + 1 from by simp] at this
    exact this
  case round =>
    obtain ⟨r, hr, rfl, hS, hR, hb⟩ := hrel
    have hlen : (permGo s r).length = 25 := by rw [permGo_len]; exact hs
    obtain ⟨s0, hs0⟩ : ∃ s0, s0 = permGo s r := ⟨_, rfl⟩
    rw [← hs0] at hS hlen
    have HS0 := hid hs0
    clear hs0
    by_cases hlt : r < 24
    · go_wp2_with fail
      refine (theta_any _ s0 _ _ hlen hS.out).mono ?_
      rintro e w1 ⟨rfl, hS1', hg1⟩
      have hS1 := hid hS1'
      have hR1 := hid (hR.out.grown hg1 (by simp))
      have hb1 : Below w.heap.size w w1 := hb.grown hg1 hb.size (by simp)
      clear hS1' hS hR hb hg1
      obtain ⟨s1, hs1⟩ : ∃ s1, s1 = thetaL s0 := ⟨_, rfl⟩
      rw [← hs1] at hS1
      have hl1 : s1.length = 25 := by rw [hs1, thetaL_len]; exact hlen
      have HS1 := hid hs1
      clear hs1 hlen
      have c1 := hS1.out.cell 1 (by omega)
      go_wp2_with fail
      obtain ⟨wo, hwo⟩ : ∃ wo : World, wo = w1 := ⟨_, rfl⟩
      subst hwo
      go_loopw [17, 4] (fun i la wr => ∃ k : Nat, k ≤ 24 ∧ i = .int .i64 k ∧ la = .int .u64 (iv (rpGo s1 k).2) ∧ Hid (ArrB 23 wr w.heap.size (rpGo s1 k).1) ∧ Hid (ArrB 23 wr (w.heap.size + 1) (List.replicate 25 0)) ∧ Below w.heap.size w wr)
        (fun i _ _ => 24 - (intOf i).toNat)
      case atStart => exact ⟨0, by omega, rfl, rfl, hS1, hR1, hb1⟩
      case round =>
        obtain ⟨k, hk, rfl, rfl, hS, hR, hb⟩ := hrel
        have hlk : (rpGo s1 k).1.length = 25 := by rw [rpGo_len]; exact hl1
        obtain ⟨sk, hsk⟩ : ∃ sk, sk = (rpGo s1 k).1 := ⟨_, rfl⟩
        obtain ⟨la, hla⟩ : ∃ la, la = (rpGo s1 k).2 := ⟨_, rfl⟩
        rw [← hsk] at hS hlk
        rw [← hla]
        have HSK := hid hsk
        have HLA := hid hla
        clear hsk hla
        by_cases hlt2 : k < 24
        · have wh := hid fun w => where_any k w hlt2
          have hlb := lane_bd k
          have htb := turn_bd k
          obtain ⟨ln, hln⟩ : ∃ ln, ln = laneN k := ⟨_, rfl⟩
          obtain ⟨tn, htn⟩ : ∃ tn, tn = turnN k := ⟨_, rfl⟩
          rw [← hln, ← htn] at wh
          rw [← hln] at hlb
          rw [← htn] at htb
          have HLN := hid hln
          have HTN := hid htn
          clear hln htn
          have c1 := hS.out.cell ln (by omega)
          have f1 := hS.out.free ln
          have l1 := hS.out.lt
          have hrot : Hid (∀ w, Calls Try.prog 30 #[.int .u64 (iv la), .int .i64 tn] w fun e w' => e = .returned (.int .u64 (iv (la.rotateLeft tn))) ∧ Below w.heap.size w w') := hid fun w => by
            have := rot_any la tn w
            rw [show ((tn : Int) % 64).toNat = tn from by omega] at this
            exact this
          go_wp2_with (first | (go_at_call 29; (with_reducible refine (Calls.asExt (wh.out _)).mono ?_); rintro _ _ ⟨rfl, _, rfl⟩) | (refine wp_region_ext_tail 8 (by kernel_rfl) (by kernel_rfl) ?_; simp only [List.take_succ_cons, List.take_zero, List.drop_succ_cons, List.drop_zero]; (repeat (go_big_quiet_step (first | (go_at_call 30; with_reducible refine Calls.ext_of (hrot.out _))))); refine wpQuiet_nil ?_; rintro _ ⟨xw, rfl⟩))
          go_roundw
          case rel =>
            refine ⟨k + 1, by omega, by go_num, ?_, hid ?_, hid (((hR.out.ext _).ext _).other (by show w.heap.size + 1 ≠ w.heap.size; omega) _), (by repeat (first | (with_reducible first | exact Below.refl _ _ | assumption | refine World.ext_below_of ?_ ?_ _ | refine Below.setCell ?_ ?_ _ | refine Below.alloc ?_ ?_ _ | refine Below.drew ?_ | refine World.size_le_ext _ _ _ ?_) | (solve | simp [go_sem] | (simp [go_sem]; omega) | omega)))⟩
            · show Value.int IntKind.u64 (iv (nb sk ln)) = .int .u64 (iv (nb (rpGo s1 k).1 (laneN k)))
              rw [← HSK.out, ← HLN.out]
            · show ArrB _ _ _ ((rpGo s1 k).1.set (laneN k) ((rpGo s1 k).2.rotateLeft (turnN k)))
              rw [← HSK.out, ← HLN.out, ← HLA.out, ← HTN.out]
              exact ((hS.out.ext _).ext _).set ln _
          case measure => simp [intOf]; omega
        · obtain rfl : k = 24 := by omega
          obtain ⟨s2, hs2⟩ : ∃ s2, s2 = rhopi s1 := ⟨_, rfl⟩
          have hsk2 : sk = s2 := by rw [HSK.out, hs2]; rfl
          rw [hsk2] at hS hlk
          have HS2 := hid hs2
          clear hs2 hsk2 hlt2 hk HLA HSK
          go_wp2_with fail
          obtain ⟨w2, hw2⟩ : ∃ w2 : World, w2 = wr := ⟨_, rfl⟩
          subst hw2
          go_loopw [8] (fun y wr => ∃ j : Nat, j ≤ 5 ∧ y = .int .i64 (5 * j : Nat) ∧ Hid (ArrB 23 wr w.heap.size (chiGo s2 j)) ∧ Hid (ArrB 23 wr (w.heap.size + 1) (List.replicate 25 0)) ∧ Below w.heap.size w wr)
            (fun y _ => 25 - (intOf y).toNat)
          case atStart => exact ⟨0, by omega, rfl, hS, hR, hb⟩
          case round =>
            obtain ⟨j, hj, rfl, hS, hR, hb⟩ := hrel
            have hlj : (chiGo s2 j).length = 25 := by rw [chiGo_len]; exact hlk
            obtain ⟨sj, hsj⟩ : ∃ sj, sj = chiGo s2 j := ⟨_, rfl⟩
            rw [← hsj] at hS hlj
            have HSJ := hid hsj
            clear hsj
            by_cases hlt3 : j < 5
            · have c0 := hS.out.cell (5 * j) (by omega)
              have c1 := hS.out.cell (5 * j + 1) (by omega)
              have c2 := hS.out.cell (5 * j + 2) (by omega)
              have c3 := hS.out.cell (5 * j + 3) (by omega)
              have c4 := hS.out.cell (5 * j + 4) (by omega)
              have l1 := hS.out.lt
              have hy : ((5 * j : Nat) : Int) < 25 := by omega
              have hsl := slice5 w.heap.size j hlt3
              have har := array5
              go_wp2_with fail
              obtain ⟨wq, hwq⟩ : ∃ wq : World, wq = wr := ⟨_, rfl⟩
              subst hwq
              obtain ⟨row, hro⟩ : ∃ row, row = rowAt sj (5 * j) := ⟨_, rfl⟩
              have hrl : row.length = 5 := by rw [hro]; rfl
              have hrow : ArrB 51 (wq.alloc (.cells (cellsB (rowAt sj (5 * j))) 51)) wq.heap.size row := by rw [hro]; exact ArrB.new _ _ _
              have hS3 : ArrB 23 (wq.alloc (.cells (cellsB (rowAt sj (5 * j))) 51)) w.heap.size sj := hS.out.alloc _
              have hR3 : ArrB 23 (wq.alloc (.cells (cellsB (rowAt sj (5 * j))) 51)) (w.heap.size + 1) (List.replicate 25 0) := hR.out.alloc _
              have hb3 : Below w.heap.size w (wq.alloc (.cells (cellsB (rowAt sj (5 * j))) 51)) := hb.alloc hb.size _
              have hlr := hR.out.lt
              have HRO := hid hro
              go_loopw [44] (fun x w4 => ∃ x' : Nat, x' ≤ 5 ∧ x = .int .i64 x' ∧ Hid (ArrB 23 w4 w.heap.size (chiRow row sj (5 * j) x')) ∧ Hid (ArrB 51 w4 wq.heap.size row) ∧ Hid (ArrB 23 w4 (w.heap.size + 1) (List.replicate 25 0)) ∧ Below w.heap.size w w4)
                (fun x _ => 5 - (intOf x).toNat)
              case atStart => exact ⟨0, by omega, rfl, hid hS3, hid hrow, hid hR3, hb3⟩
              case round =>
                clear hro hrow hS3 hR3 hb3 hS hR hb c0 c1 c2 c3 c4 hsl har
                obtain ⟨x', hx, rfl, hS, hW, hR, hb⟩ := hrel
                have hlx : (chiRow row sj (5 * j) x').length = 25 := by rw [chiRow_len]; exact hlj
                obtain ⟨sx, hsx⟩ : ∃ sx, sx = chiRow row sj (5 * j) x' := ⟨_, rfl⟩
                rw [← hsx] at hS hlx
                have HSX := hid hsx
                clear hsx
                by_cases hlt4 : x' < 5
                · have h1 : (x' + 1) % 5 < 5 := Nat.mod_lt _ (by omega)
                  have h2 : (x' + 2) % 5 < 5 := Nat.mod_lt _ (by omega)
                  have c0 := hS.out.cell (5 * j + x') (by omega)
                  have f0 := hS.out.free (5 * j + x')
                  have c1 := hW.out.cell ((x' + 1) % 5) (by omega)
                  have c2 := hW.out.cell ((x' + 2) % 5) (by omega)
                  have l1 := hS.out.lt
                  have l2 := hW.out.lt
                  have hbx := iv_nonneg (nb row ((x' + 1) % 5))
                  have hby := iv_lt (nb row ((x' + 1) % 5))
                  have hy0 : (0 : Int) ≤ 5 * (j : Int) + (x' : Int) := by omega
                  have hy1 : 5 * (j : Int) + (x' : Int) < 25 := by omega
                  have hy2 : (5 * (j : Int) + (x' : Int)).toNat = 5 * j + x' := by omega
                  go_wp2_with (refine wp_region_ext_tail 19 (by kernel_rfl) (by kernel_rfl) ?_; simp only [List.take_succ_cons, List.take_zero, List.drop_succ_cons, List.drop_zero]; (repeat (go_big_quiet_step (first | fail))); refine wpQuiet_nil ?_; rintro _ ⟨xw, rfl⟩)
                  go_roundw
                  case rel =>
                    rw [iv_compl, iv_and, iv_xor]
                    refine ⟨x' + 1, by omega, by go_num, hid ?_, hid ((hW.out.ext _).other (by show wq.heap.size ≠ w.heap.size; omega) _), hid ((hR.out.ext _).other (by show w.heap.size + 1 ≠ w.heap.size; omega) _), (by repeat (first | (with_reducible first | exact Below.refl _ _ | assumption | refine World.ext_below_of ?_ ?_ _ | refine Below.setCell ?_ ?_ _ | refine Below.alloc ?_ ?_ _ | refine Below.drew ?_ | refine World.size_le_ext _ _ _ ?_) | (solve | simp [go_sem] | (simp [go_sem]; omega) | omega)))⟩
                    show ArrB _ _ _ ((chiRow row sj (5 * j) x').set (5 * j + x') (nb (chiRow row sj (5 * j) x') (5 * j + x') ^^^ (~~~ nb row ((x' + 1) % 5) &&& nb row ((x' + 2) % 5))))
                    rw [← HSX.out]
                    exact (hS.out.ext _).set _ _
                  case measure => simp [intOf]; omega
                · obtain rfl : x' = 5 := by omega
                  have e1 : sx = chiGo s2 (j + 1) := by rw [HSX.out, HRO.out, HSJ.out]; rfl
                  rw [e1] at hS
                  clear e1 hlt4 hx HSX hlx
                  have hy1 : 5 * (j : Int) + 5 ≤ 25 := by omega
                  go_wp2
                  go_roundw
                  case rel => exact ⟨j + 1, by omega, by go_num, hS, hR, hb⟩
                  case measure => simp [intOf]; omega
            · obtain rfl : j = 5 := by omega
              clear hlt3 hj
              have e1 : sj = chiL s2 := by rw [HSJ.out]; rfl
              rw [e1] at hS hlj
              clear e1 HSJ
              obtain ⟨s3, hs3⟩ : ∃ s3, s3 = chiL s2 := ⟨_, rfl⟩
              rw [← hs3] at hS hlj
              have HS3 := hid hs3
              clear hs3
              have c0 := hS.out.cell 0 (by omega)
              have f0 := hS.out.free 0
              have l1 := hS.out.lt
              have hcn := hid fun w => constant_any r w hlt
              go_wp2_with (refine wp_region_ext_tail 6 (by kernel_rfl) (by kernel_rfl) ?_; simp only [List.take_succ_cons, List.take_zero, List.drop_succ_cons, List.drop_zero]; (repeat (go_big_quiet_step (first | (go_at_call 31; with_reducible refine Calls.ext_of (hcn.out _))))); refine wpQuiet_nil ?_; rintro _ ⟨xw, rfl⟩)
              go_roundw
              case rel =>
                rw [iv_xor]
                refine ⟨r + 1, by omega, by go_num, hid ?_, hid ((hR.out.ext _).other (by show w.heap.size + 1 ≠ w.heap.size; omega) _), (by repeat (first | (with_reducible first | exact Below.refl _ _ | assumption | refine World.ext_below_of ?_ ?_ _ | refine Below.setCell ?_ ?_ _ | refine Below.alloc ?_ ?_ _ | refine Below.drew ?_ | refine World.size_le_ext _ _ _ ?_) | (solve | simp [go_sem] | (simp [go_sem]; omega) | omega)))⟩
                have e2 : permGo s (r + 1) = s3.set 0 (nb s3 0 ^^^ nb constL r) := by
                  show iotaL (chiL (rhopi (thetaL (permGo s r)))) r = _
                  rw [← HS0.out, ← HS1.out, ← HS2.out, ← HS3.out]; rfl
                rw [e2]
                exact (hS.out.ext _).set 0 _
              case measure => simp [intOf]; omega
    · obtain rfl : r = 24 := by omega
      have e1 : s0 = permL s := by rw [HS0.out]; rfl
      rw [e1] at hS hlen
      clear e1 HS0 hlt hr
      have hp : (permL s).length = 25 := by rw [permL_len]; exact hs
      have iS : (Try.prog.info? 23).map (·.size) = some (cellsB (permL s)).size := by rw [size_cellsB, hp]; exact iArr25
      have oS : (cellsB (List.replicate 25 0)).size = (cellsB (permL s)).size := by rw [size_cellsB, size_cellsB, hp]; rfl
      have nS := one_cellsB (permL s)
      have HI := hid iS
      have HO := hid oS
      have HN := hid nS
      clear iS oS nS
      obtain ⟨z, hz⟩ : ∃ z : List (BitVec 64), z = List.replicate 25 0 := ⟨_, rfl⟩
      rw [← hz] at hR HO
      clear hz
      go_wp2_with (first | (refine wpList_load_row rfl 23 (.tmp 1) rfl w.heap.size rfl 23 _ (0, 0) _ hS.out uArr25 rfl HI.out ?_; simp only [Act.put, List.setIfInBounds_toArray, List.set_cons_zero, List.set_cons_succ]) | (refine wpList_store_row rfl 23 (.tmp 2) (.tmp 74) rfl (w.heap.size + 1) _ rfl rfl 23 _ hR.out HI.out HO.out HN.out ?_; simp only [Act.put]))
      refine bodyPost_ret (results_cell_row rfl _ _ (w.heap.size + 1) 23 (cellsB (permL s)) (0, 0) _ rfl ?_ uArr25 rfl HI.out) rfl ⟨rfl, ?_⟩
      · have hR2 := hR.out
        unfold ArrB at hR2
        simp [World.setRow, Array.getElem?_modify, hR2]
      · refine hb.trans ⟨rfl, rfl, rfl, by simp [World.setRow], fun k hk => ?_⟩
        simp only [World.setRow, Array.getElem?_modify]
        rw [if_neg (by omega)]
end Go.Proofs.Ytmlaenfgfgloeaa
