import Derived.Test.YtmlaenfgfgloeaaShaE
/-! conclaveref03.block. -/
set_option maxRecDepth 4000
set_option linter.unusedVariables false
set_option linter.unusedSimpArgs false
namespace Go.Proofs.Ytmlaenfgfgloeaa
open Go.RowKit

theorem rsched_raw (x y a b : BitVec 64) : IntKind.u64.wrap (IntKind.u64.wrap (IntKind.u64.wrap (bits .xor .u64 (bits .xor .u64 (iv (rr y 19)) (iv (rr y 61))) (iv y / 64) + iv a) + bits .xor .u64 (bits .xor .u64 (iv (rr x 1)) (iv (rr x 8))) (iv x / 128)) + iv b) = iv (sg1 y + a + sg0 x + b) := by
  rw [show iv x / 128 = iv x / 2 ^ 7 from rfl, show iv y / 64 = iv y / 2 ^ 6 from rfl, iv_shr, iv_shr]
  simp only [iv_xor, iv_add]
  rfl
theorem iv_max (x : BitVec 64) : bits .xor .u64 IntKind.u64.max (iv x) = iv (~~~ x) := by
  rw [show IntKind.u64.max = iv (BitVec.allOnes 64) from by decide +kernel, iv_xor, BitVec.allOnes_xor]
theorem rone_raw (v : List (BitVec 64)) (k x : BitVec 64) : IntKind.u64.wrap (IntKind.u64.wrap (IntKind.u64.wrap (IntKind.u64.wrap (iv (nb v 7) + bits .xor .u64 (bits .xor .u64 (iv (rr (nb v 4) 14)) (iv (rr (nb v 4) 18))) (iv (rr (nb v 4) 41))) +
    bits .xor .u64 (bits .and .u64 (iv (nb v 4)) (iv (nb v 5))) (bits .and .u64 (bits .xor .u64 IntKind.u64.max (iv (nb v 4))) (iv (nb v 6)))) + iv k) + iv x) = iv (oneV v k x) := by
  simp only [iv_max, iv_xor, iv_and, iv_add, chs_ref]
  rfl
theorem rtwo_raw (v : List (BitVec 64)) : IntKind.u64.wrap (bits .xor .u64 (bits .xor .u64 (iv (rr (nb v 0) 28)) (iv (rr (nb v 0) 34))) (iv (rr (nb v 0) 39)) +
    bits .xor .u64 (bits .xor .u64 (bits .and .u64 (iv (nb v 0)) (iv (nb v 1))) (bits .and .u64 (iv (nb v 0)) (iv (nb v 2)))) (bits .and .u64 (iv (nb v 1)) (iv (nb v 2)))) = iv (twoV v) := by
  simp only [iv_xor, iv_and, iv_add, mjs_ref]
  rfl
theorem built8 (a b c d e f g h : Int) : Try.prog.built 66 [(0, .int .u64 a), (1, .int .u64 b), (2, .int .u64 c), (3, .int .u64 d), (4, .int .u64 e), (5, .int .u64 f), (6, .int .u64 g), (7, .int .u64 h)] = some #[.int .u64 a, .int .u64 b, .int .u64 c, .int .u64 d, .int .u64 e, .int .u64 f, .int .u64 g, .int .u64 h] := by kernel_rfl
theorem built_step (v : List (BitVec 64)) (k x : BitVec 64) : Try.prog.built 66 [(0, .int .u64 (IntKind.u64.wrap (iv (oneV v k x) + iv (twoV v)))), (1, .int .u64 (iv (nb v 0))), (2, .int .u64 (iv (nb v 1))), (3, .int .u64 (iv (nb v 2))), (4, .int .u64 (IntKind.u64.wrap (iv (nb v 3) + iv (oneV v k x)))), (5, .int .u64 (iv (nb v 4))), (6, .int .u64 (iv (nb v 5))), (7, .int .u64 (iv (nb v 6)))] = some (cellsB (stepV v k x)) := by
  rw [built8, iv_add, iv_add]
  rfl
theorem iA66 : (Try.prog.info? 66).map (·.size) = some 8 := by kernel_rfl

set_option maxRecDepth 20000 in
set_option maxHeartbeats 2000000 in
theorem rblock_any (s : List (BitVec 64)) (ys : List (BitVec 8)) (v : Value) (w : World) (hs : s.length = 8) (hr : RdY w v ys) (hy : ys.length = 128) :
    Calls Try.prog 38 #[.agg (cellsB s), v] w fun e w' => e = .returned (.agg (cellsB (blockL s ys))) ∧ Below w.heap.size w w' := by
  obtain ⟨a, cap, rfl, hc, hr⟩ := hr
  obtain ⟨b, off, rfl, hbl, hcell⟩ := hr (by intro e; subst e; simp at hy)
  rw [hy] at hcell hc ⊢
  have HC := hid hcell
  clear hcell hr
  have HY := hid hy
  have HS := hid hs
  have iS := hid (show (Try.prog.info? 66).map (·.size) = some (cellsB s).size by rw [size_cellsB, hs]; exact i8w)
  have zS := hid (show (cellsB (zeroB 8)).size = (cellsB s).size by rw [size_cellsB, size_cellsB, hs]; rfl)
  have iK := hid (show (Try.prog.info? 69).map (·.size) = some (cellsB shaK).size from by rw [size_cellsB]; exact i80)
  have zK := hid (show (cellsB (zeroB 80)).size = (cellsB shaK).size by rw [size_cellsB, size_cellsB]; rfl)
  have HR := hid (fun w => rtable_any w)
  have nK := hid (one_cellsB shaK)
  have HK : Hid (∃ l, l = shaK) := hid ⟨_, rfl⟩
  obtain ⟨kk, hkk⟩ := HK.out
  rw [← hkk] at iK zK HR nK
  have HKK := hid hkk
  clear hkk HK hy hs
  go_enter Try.func38, Try.ntmps38
  go_wp2_with (first | (refine wpList_alloc_new rfl 66 rfl (cellsB (zeroB 8)) zero8 ?_; simp only [Act.put, List.setIfInBounds_toArray, List.set_cons_zero, List.set_cons_succ]) | (refine wpList_alloc_new rfl 69 rfl (cellsB (zeroB 80)) zero80 ?_; simp only [Act.put, List.setIfInBounds_toArray, List.set_cons_zero, List.set_cons_succ]))
  refine (HR.out _).mono ?_
  rintro e w1 ⟨rfl, hb1⟩
  have hS1 : ArrB 66 w1 w.heap.size s := (((ArrB.new _ w s).alloc _).alloc _).below hb1 (by simp; omega)
  have hR1 : ArrB 66 w1 (w.heap.size + 1) (zeroB 8) := by
    have := ArrB.new 66 (w.alloc (.cells (cellsB s) 66)) (zeroB 8)
    rw [World.size_alloc] at this
    exact (this.alloc _).below hb1 (by simp)
  have hW1 : ArrB 69 w1 (w.heap.size + 2) (zeroB 80) := by
    have := ArrB.new 69 ((w.alloc (.cells (cellsB s) 66)).alloc (.cells (cellsB (zeroB 8)) 66)) (zeroB 80)
    rw [World.size_alloc, World.size_alloc] at this
    exact this.below hb1 (by simp)
  have hB1 : Below w.heap.size w w1 := ((((Below.refl _ _).alloc (Nat.le_refl _) _).alloc (by simp) _).alloc (by simp; omega) _).trans (hb1.mono (by simp; omega))
  clear hb1
  go_wp2_with (refine wpList_allocStore 69 18 6 (cellsB kk) (cellsB (zeroB 80)) rfl rfl rfl rfl rfl rfl (by decide) (by simp) rfl (by kernel_rfl) zK.out iK.out nK.out ?_; simp only [Act.put, List.setIfInBounds_toArray, List.set_cons_zero, List.set_cons_succ])
  obtain ⟨T, hT⟩ : ∃ T, T = w1.heap.size := ⟨_, rfl⟩
  have lW := hW1.lt
  have hK2 := hid (show ArrB 69 (w1.alloc (.cells (cellsB kk) 69)) T kk by rw [hT]; exact ArrB.new _ _ _)
  have hS2 := hid (hS1.alloc (.cells (cellsB kk) 69))
  have hR2 := hid (hR1.alloc (.cells (cellsB kk) 69))
  have hW2 := hid (hW1.alloc (.cells (cellsB kk) 69))
  have hB2 := hB1.alloc hB1.size (.cells (cellsB kk) 69)
  rw [← hT] at lW ⊢
  generalize w1.alloc (.cells (cellsB kk) 69) = w2 at hK2 hS2 hR2 hW2 hB2 ⊢
  clear hS1 hR1 hW1 hB1 hT iK zK nK HR w1
  go_loopw [7] (fun i wr => ∃ k : Nat, k ≤ 128 ∧ i = .int .i64 k ∧ Hid (ArrB 69 wr T kk) ∧ Hid (ArrB 66 wr w.heap.size s) ∧ Hid (ArrB 66 wr (w.heap.size + 1) (zeroB 8)) ∧ Hid (ArrB 69 wr (w.heap.size + 2) (w16 80 ys k)) ∧ Below w.heap.size w wr)
    (fun i _ => 128 - (intOf i).toNat)
  case atStart => exact ⟨0, by omega, rfl, hK2, hS2, hR2, hW2, hB2⟩
  case round =>
    clear hK2 hS2 hR2 hW2 hB2
    obtain ⟨k, hk, rfl, hK, hS, hR, hW, hB⟩ := hrel
    by_cases hlt : k < 128
    · have c0 := (hB.cell (p := ⟨b, off + k, none⟩) hbl).trans (HC.out k hlt)
      have c1 := hW.out.cell (k / 8) (by rw [w16_len]; omega)
      have h8 : k / 8 < 80 := by omega
      have f1 := hW.out.free (k / 8)
      have l1 := hW.out.lt
      have hbl2 : b < wr.heap.size := Nat.lt_of_lt_of_le hbl hB.size
      go_wp2_with (refine wp_region_ext_tail 14 (by kernel_rfl) (by kernel_rfl) ?_; simp only [List.take_succ_cons, List.take_zero, List.drop_succ_cons, List.drop_zero]; (repeat (go_big_quiet_step (first | fail))); refine wpQuiet_nil ?_; rintro _ ⟨xw, rfl⟩)
      go_roundw
      case rel =>
        refine ⟨k + 1, by omega, by go_num, hid ((hK.out.ext _).other (by show T ≠ w.heap.size + 2; omega) _), hid ((hS.out.ext _).other (by show w.heap.size ≠ w.heap.size + 2; omega) _), hid ((hR.out.ext _).other (by show w.heap.size + 1 ≠ w.heap.size + 2; omega) _), hid ?_, (World.ext_below_of hB hB.size _).setCell (p := ⟨w.heap.size + 2, k / 8, none⟩) (by show w.heap.size ≤ w.heap.size + 2; omega) _⟩
        rw [show (iv (nb (w16 80 ys k) (k / 8)) * 256) = iv (nb (w16 80 ys k) (k / 8)) * 2 ^ 8 from rfl, iv_shl, yv_wrap, iv_or]
        exact (hW.out.ext _).set _ _
      case measure => simp [intOf]; omega
    · obtain rfl : k = 128 := by omega
      clear hlt hk
      obtain ⟨bl, hbl2⟩ : ∃ bl, bl = w16 80 ys 128 := ⟨_, rfl⟩
      have hbll := hid (show bl.length = 80 by rw [hbl2, w16_len])
      rw [← hbl2] at hW
      have HBL := hid hbl2
      clear hbl2
      go_wp2_with fail
      obtain ⟨w3, hw3⟩ : ∃ wo : World, wo = wr := ⟨_, rfl⟩
      subst hw3
      go_loopw [8] (fun i wr => ∃ t : Nat, t ≤ 64 ∧ i = .int .i64 (16 + t : Nat) ∧ Hid (ArrB 69 wr T kk) ∧ Hid (ArrB 66 wr w.heap.size s) ∧ Hid (ArrB 66 wr (w.heap.size + 1) (zeroB 8)) ∧ Hid (ArrB 69 wr (w.heap.size + 2) (w80 bl t)) ∧ Below w.heap.size w wr)
        (fun i _ => 80 - (intOf i).toNat)
      case atStart => exact ⟨0, by omega, rfl, hK, hS, hR, hW, hB⟩
      case round =>
        clear hK hS hR hW hB
        obtain ⟨t, ht, rfl, hK, hS, hR, hW, hB⟩ := hrel
        by_cases hlt : t < 64
        · have hwl := hid ((w80_len bl t).trans hbll.out)
          obtain ⟨ww, hww⟩ : ∃ ww, ww = w80 bl t := ⟨_, rfl⟩
          rw [← hww] at hW hwl
          have HWW := hid hww
          clear hww
          obtain ⟨p, hp⟩ : ∃ p, p = 16 + t := ⟨_, rfl⟩
          have hp1 : 16 ≤ p := by omega
          have hp2 : p < 80 := by omega
          have e1 : ((p : Int) - 15).toNat = p - 15 := by omega
          have e2 : ((p : Int) - 2).toNat = p - 2 := by omega
          have e3 : ((p : Int) - 7).toNat = p - 7 := by omega
          have e4 : ((p : Int) - 16).toNat = p - 16 := by omega
          have g1 : (0 : Int) ≤ (p : Int) - 15 ∧ (p : Int) - 15 < 80 := by omega
          have g2 : (0 : Int) ≤ (p : Int) - 2 ∧ (p : Int) - 2 < 80 := by omega
          have g3 : (0 : Int) ≤ (p : Int) - 7 ∧ (p : Int) - 7 < 80 := by omega
          have g4 : (0 : Int) ≤ (p : Int) - 16 ∧ (p : Int) - 16 < 80 := by omega
          obtain ⟨g1, g1'⟩ := g1
          obtain ⟨g2, g2'⟩ := g2
          obtain ⟨g3, g3'⟩ := g3
          obtain ⟨g4, g4'⟩ := g4
          have c1 := hW.out.cell (p - 15) (by rw [hwl.out]; omega)
          have c2 := hW.out.cell (p - 2) (by rw [hwl.out]; omega)
          have c3 := hW.out.cell (p - 7) (by rw [hwl.out]; omega)
          have c4 := hW.out.cell (p - 16) (by rw [hwl.out]; omega)
          have n1 := iv_nonneg (nb ww (p - 15))
          have n2 := iv_nonneg (nb ww (p - 2))
          have l1 := hW.out.lt
          have HP := hid hp
          rw [← hp]
          clear hp
          go_wp2_with fail
          (refine wp_region_ext (by kernel_rfl) (by kernel_rfl) ?_; (repeat (go_big_quiet_step (first | fail))); refine wpQuiet_nil ?_; rintro _ ⟨xw, rfl⟩)
          have hK1 := hid (hK.out.ext xw)
          have hS1 := hid (hS.out.ext xw)
          have hR1 := hid (hR.out.ext xw)
          have hW1 := hid (hW.out.ext xw)
          have hB1 := World.ext_below_of hB hB.size xw
          clear c1 c2 c3 c4 l1
          go_wp2_with fail
          generalize wr.ext xw = w4 at hK1 hS1 hR1 hW1 hB1 ⊢
          clear hK hS hR hW hB xw wr
          have c3 := hW1.out.cell (p - 7) (by rw [hwl.out]; omega)
          have c4 := hW1.out.cell (p - 16) (by rw [hwl.out]; omega)
          have c5 := hW1.out.cell p (by rw [hwl.out]; omega)
          have f5 := hW1.out.free p
          have l1 := hW1.out.lt
          (refine wp_region_ext_tail 29 (by kernel_rfl) (by kernel_rfl) ?_; simp only [List.take_succ_cons, List.take_zero, List.drop_succ_cons, List.drop_zero]; (repeat (go_big_quiet_step (first | (go_at_call 51; with_reducible refine Calls.ext_of (right_any _ _ (by decide) (by decide) _))))); refine wpQuiet_nil ?_; rintro _ ⟨xw, rfl⟩)
          go_wp2
          go_roundw
          case rel =>
            refine ⟨t + 1, by omega, by rw [HP.out]; go_num, hid ((hK1.out.ext _).other (by show T ≠ w.heap.size + 2; omega) _), hid ((hS1.out.ext _).other (by show w.heap.size ≠ w.heap.size + 2; omega) _), hid ((hR1.out.ext _).other (by show w.heap.size + 1 ≠ w.heap.size + 2; omega) _), hid ?_, (World.ext_below_of hB1 hB1.size _).setCell (p := ⟨w.heap.size + 2, p, none⟩) (by show w.heap.size ≤ w.heap.size + 2; omega) _⟩
            rw [rsched_raw]
            have h7 := (hW1.out.ext xw).set p (sg1 (nb ww (p - 2)) + nb ww (p - 7) + sg0 (nb ww (p - 15)) + nb ww (p - 16))
            have h8 : w80 bl (t + 1) = ww.set p (sg1 (nb ww (p - 2)) + nb ww (p - 7) + sg0 (nb ww (p - 15)) + nb ww (p - 16)) := by
              rw [HWW.out, HP.out]; rfl
            rw [h8]; exact h7
          case measure => simp [intOf]; omega
        · obtain rfl : t = 64 := by omega
          clear hlt ht
          obtain ⟨W8, hW8⟩ : ∃ W8, W8 = w80 bl 64 := ⟨_, rfl⟩
          rw [← hW8] at hW
          have HW8 := hid (show ∀ t, t < 80 → nb W8 t = wf (w16 16 ys 128) t from fun t ht => by rw [hW8, HBL.out]; exact w80_word ys t ht)
          have HWL := hid (show W8.length = 80 by rw [hW8, w80_len]; exact hbll.out)
          clear hW8 HBL hbll
          have hS0 := hS.out
          go_wp2_with (first | (refine wpList_load_row rfl 66 (.tmp 2) rfl w.heap.size rfl 66 _ (0, 0) _ hS0 u8w rfl iS.out ?_; simp only [Act.put, List.setIfInBounds_toArray, List.set_cons_zero, List.set_cons_succ]) | (refine wpList_allocStore 66 78 11 (cellsB s) (cellsB (zeroB 8)) rfl rfl rfl rfl rfl rfl (by decide) (by simp) rfl (by kernel_rfl) zS.out iS.out (one_cellsB s) ?_; simp only [Act.put, List.setIfInBounds_toArray, List.set_cons_zero, List.set_cons_succ]))
          obtain ⟨V, hV⟩ : ∃ V, V = wr.heap.size := ⟨_, rfl⟩
          have lK := hK.out.lt
          have hV3 := hid (show ArrB 66 (wr.alloc (.cells (cellsB s) 66)) V s by rw [hV]; exact ArrB.new _ _ _)
          have hK3 := hid (hK.out.alloc (.cells (cellsB s) 66))
          have hS3 := hid (hS0.alloc (.cells (cellsB s) 66))
          have hR3 := hid (hR.out.alloc (.cells (cellsB s) 66))
          have hW3 := hid (hW.out.alloc (.cells (cellsB s) 66))
          have hB3 := hB.alloc hB.size (.cells (cellsB s) 66)
          have hTV : T < V := by omega
          rw [← hV]
          generalize wr.alloc (.cells (cellsB s) 66) = w5 at hV3 hK3 hS3 hR3 hW3 hB3 ⊢
          clear hK hS hS0 hR hW hB lK hV wr
          go_loopw [12] (fun i wr => ∃ t : Nat, t ≤ 80 ∧ i = .int .i64 (t : Nat) ∧ Hid (ArrB 69 wr T kk) ∧ Hid (ArrB 66 wr w.heap.size s) ∧ Hid (ArrB 66 wr (w.heap.size + 1) (zeroB 8)) ∧ Hid (ArrB 69 wr (w.heap.size + 2) W8) ∧ Hid (ArrB 66 wr V (vGo (w16 16 ys 128) s t)) ∧ Below w.heap.size w wr)
            (fun i _ => 80 - (intOf i).toNat)
          case atStart => exact ⟨0, by omega, rfl, hK3, hS3, hR3, hW3, hV3, hB3⟩
          case round =>
            clear hV3 hK3 hS3 hR3 hW3 hB3
            obtain ⟨t, ht, rfl, hK, hS, hR, hW, hV, hB⟩ := hrel
            by_cases hlt : t < 80
            · have hlv := hid (vGo_len (w16 16 ys 128) s HS.out t)
              obtain ⟨v, hv⟩ : ∃ v, v = vGo (w16 16 ys 128) s t := ⟨_, rfl⟩
              rw [← hv] at hV hlv
              have HV := hid hv
              clear hv
              have cV := hV.out.all hlv.out
              have cK := hK.out.cell t (by rw [HKK.out]; exact hlt)
              have cW := hW.out.cell t (by rw [HWL.out]; exact hlt)
              rw [HW8.out t hlt] at cW
              have l1 := hV.out.lt
              have l2 := hK.out.lt
              have hv4 := iv_nonneg (nb v 4)
              have hv4' := iv_lt (nb v 4)
              go_wp2_with fail
              (refine wp_region_ext (by kernel_rfl) (by kernel_rfl) ?_; (repeat (go_big_quiet_step (first | fail))); refine wpQuiet_nil ?_; rintro _ ⟨xw, rfl⟩)
              have hK1 := hid (hK.out.ext xw)
              have hS1 := hid (hS.out.ext xw)
              have hR1 := hid (hR.out.ext xw)
              have hW1 := hid (hW.out.ext xw)
              have hV1 := hid (hV.out.ext xw)
              have hB1 := World.ext_below_of hB hB.size xw
              clear cV cK cW l1 l2
              go_wp2_with fail
              generalize wr.ext xw = w6 at hK1 hS1 hR1 hW1 hV1 hB1 ⊢
              clear hK hS hR hW hV hB xw wr
              have cV := hV1.out.all hlv.out
              have cK := hK1.out.cell t (by rw [HKK.out]; exact hlt)
              have cW := hW1.out.cell t (by rw [HWL.out]; exact hlt)
              rw [HW8.out t hlt] at cW
              have l1 := hV1.out.lt
              have l2 := hK1.out.lt
              have l3 := hW1.out.lt
              (refine wp_region_ext (by kernel_rfl) (by kernel_rfl) ?_; (repeat (go_big_quiet_step (first | (go_at_call 51; with_reducible refine Calls.ext_of (right_any _ _ (by decide) (by decide) _))))); refine wpQuiet_nil ?_; rintro _ ⟨xw, rfl⟩)
              go_wp2_with fail
              rw [rone_raw]
              have hK2 := hid (hK1.out.ext xw)
              have hS2 := hid (hS1.out.ext xw)
              have hR2 := hid (hR1.out.ext xw)
              have hW2 := hid (hW1.out.ext xw)
              have hV2 := hid (hV1.out.ext xw)
              have hB2 := World.ext_below_of hB1 hB1.size xw
              generalize w6.ext xw = w7 at hK2 hS2 hR2 hW2 hV2 hB2 ⊢
              clear hK1 hS1 hR1 hW1 hV1 hB1 cV cK cW l1 l2 l3 xw w6
              have hbs := built_step v (nb kk t) (wf (w16 16 ys 128) t)
              rw [← rtwo_raw] at hbs
              have hbs := hid hbs
              have ho : Hid (∃ o, o = oneV v (nb kk t) (wf (w16 16 ys 128) t)) := hid ⟨_, rfl⟩
              obtain ⟨one, hone⟩ := ho.out
              rw [← hone] at hbs ⊢
              have cV := hV2.out.all hlv.out
              have l1 := hV2.out.lt
              clear ho hone
              have iT := hid (show (Try.prog.info? 66).map (·.size) = some (cellsB (stepV v (nb kk t) (wf (w16 16 ys 128) t))).size by rw [size_cellsB]; exact i8w)
              have oT := hid (show (cellsB v).size = (cellsB (stepV v (nb kk t) (wf (w16 16 ys 128) t))).size by rw [size_cellsB, size_cellsB, hlv.out]; rfl)
              have nT := hid (one_cellsB (stepV v (nb kk t) (wf (w16 16 ys 128) t)))
              have HN := hid (show vGo (w16 16 ys 128) s (t + 1) = stepV v (nb kk t) (wf (w16 16 ys 128) t) by rw [HV.out, HKK.out]; rfl)
              obtain ⟨v2, hv2⟩ : ∃ v2, v2 = stepV v (nb kk t) (wf (w16 16 ys 128) t) := ⟨_, rfl⟩
              rw [← hv2] at iT oT nT hbs HN
              clear hv2
              (refine wp_region_ext (by kernel_rfl) (by kernel_rfl) ?_; (repeat (go_big_quiet_step (first | (go_at_call 51; with_reducible refine Calls.ext_of (right_any _ _ (by decide) (by decide) _))))); refine wpQuiet_nil ?_; rintro _ ⟨xw, rfl⟩)
              go_wp2_with (refine wpList_buildStore 66 _ (.tmp 11) 160 (cellsB v2) V rfl rfl rfl rfl rfl rfl (by simp) ?hb1 rfl 66 _ (hV2.out.ext xw) iT.out oT.out nT.out ?_; simp only [Act.put, List.setIfInBounds_toArray, List.set_cons_zero, List.set_cons_succ])
              case hb1 =>
                go_simp
                exact hbs.out
              go_roundw
              case rel =>
                (repeat apply Exists.intro)
                refine ⟨⟨t + 1, by omega, by go_num, hid ((setRow_other _ _ _ _ (by omega)).trans (hK2.out.ext xw)), hid ((setRow_other _ _ _ _ (by omega)).trans (hS2.out.ext xw)), hid ((setRow_other _ _ _ _ (by omega)).trans (hR2.out.ext xw)), hid ((setRow_other _ _ _ _ (by omega)).trans (hW2.out.ext xw)), hid ?_, below_setRow (World.ext_below_of hB2 hB2.size xw) _ (by omega) _⟩, rfl⟩
                rw [HN.out]; exact heap_setRow _ _ _ _ _ (hV2.out.ext xw)
              case measure => simp [intOf]; omega
            · obtain rfl : t = 80 := by omega
              clear hlt ht hW hK HW8 HWL
              have hlv := hid (vGo_len (w16 16 ys 128) s HS.out 80)
              obtain ⟨v, hv⟩ : ∃ v, v = vGo (w16 16 ys 128) s 80 := ⟨_, rfl⟩
              rw [← hv] at hV hlv
              have HV := hid hv
              clear hv
              go_wp2_with fail
              obtain ⟨wq, hwq⟩ : ∃ wq : World, wq = wr := ⟨_, rfl⟩
              subst hwq
              go_loopw [17] (fun i wr => ∃ k : Nat, k ≤ 8 ∧ i = .int .i64 k ∧ Hid (ArrB 66 wr V v) ∧ Hid (ArrB 66 wr w.heap.size (addGo v s k)) ∧ Hid (ArrB 66 wr (w.heap.size + 1) (zeroB 8)) ∧ Below w.heap.size w wr)
                (fun i _ => 8 - (intOf i).toNat)
              case atStart => exact ⟨0, by omega, rfl, hV, hS, hR, hB⟩
              case round =>
                clear hV hS hR hB
                obtain ⟨k, hk, rfl, hV, hS, hR, hB⟩ := hrel
                by_cases hlt : k < 8
                · have c1 := hV.out.cell k (by rw [hlv.out]; exact hlt)
                  have c2 := hS.out.cell k (by rw [addGo_len, HS.out]; exact hlt)
                  have f2 := hS.out.free k
                  have l1 := hV.out.lt
                  have l2 := hS.out.lt
                  go_wp2_with (refine wp_region_ext_tail 9 (by kernel_rfl) (by kernel_rfl) ?_; simp only [List.take_succ_cons, List.take_zero, List.drop_succ_cons, List.drop_zero]; (repeat (go_big_quiet_step (first | fail))); refine wpQuiet_nil ?_; rintro _ ⟨xw, rfl⟩)
                  go_roundw
                  case rel =>
                    rw [iv_add]
                    refine ⟨k + 1, by omega, by go_num, hid ((hV.out.ext _).other (by show V ≠ w.heap.size; omega) _), hid ((hS.out.ext _).set _ _), hid ((hR.out.ext _).other (by show w.heap.size + 1 ≠ w.heap.size; omega) _), (World.ext_below_of hB hB.size _).setCell (p := ⟨w.heap.size, k, none⟩) (Nat.le_refl _) _⟩
                  case measure => simp [intOf]; omega
                · obtain rfl : k = 8 := by omega
                  have hlr : (blockL s ys).length = 8 := (blockL_len s ys).trans HS.out
                  have iR := hid (show (Try.prog.info? 66).map (·.size) = some (cellsB (blockL s ys)).size by rw [size_cellsB, hlr]; exact i8w)
                  have oR := hid (show (cellsB (zeroB 8)).size = (cellsB (blockL s ys)).size by rw [size_cellsB, size_cellsB, hlr]; rfl)
                  have nR := hid (one_cellsB (blockL s ys))
                  have hS4 : ArrB 66 wr w.heap.size (blockL s ys) := by have := hS.out; rw [HV.out] at this; exact this
                  obtain ⟨r, hr⟩ : ∃ r, r = blockL s ys := ⟨_, rfl⟩
                  rw [← hr] at iR oR nR hS4
                  have HR := hid hr
                  have HS4 := hid hS4
                  clear hr hS hS4 hlr hlt hk
                  go_wp2_with (first | (refine wpList_load_row rfl 66 (.tmp 2) rfl w.heap.size rfl 66 _ (0, 0) _ HS4.out u8w rfl iR.out ?_; simp only [Act.put, List.setIfInBounds_toArray, List.set_cons_zero, List.set_cons_succ]) | (refine wpList_store_row rfl 66 (.tmp 4) (.tmp 174) rfl (w.heap.size + 1) _ rfl rfl 66 _ hR.out iR.out oR.out nR.out ?_; simp only [Act.put]))
                  refine bodyPost_ret (results_cell_row rfl _ _ (w.heap.size + 1) 66 (cellsB r) (0, 0) _ rfl (heap_setRow _ _ _ _ _ hR.out) u8w rfl iR.out) rfl ⟨by rw [HR.out], below_setRow hB _ (by omega) _⟩
end Go.Proofs.Ytmlaenfgfgloeaa
