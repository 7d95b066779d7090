import Derived.Test.YtfidbiabgmioaaaGfM
/-! conclaveref04.Pow. -/
set_option maxRecDepth 4000
set_option linter.unusedVariables false
set_option linter.unusedSimpArgs false
namespace Go.Proofs.Ytfidbiabgmioaaa
open Go.RowKit

theorem pI_nat : pI = (pN : Int) := by decide +kernel
def oneI : List Int := [1, 0, 0, 0, 0, 0, 0, 0, 0, 0, 0, 0, 0, 0, 0, 0]
theorem oneI_val : val oneI = 1 := by decide
theorem oneI_gd : Gd 1048576 oneI := by
  refine ⟨rfl, fun j => ?_⟩
  rcases Nat.lt_or_ge j 16 with h | h
  · have := (by decide : ∀ j, j < 16 → -1048576 ≤ ni oneI j ∧ ni oneI j ≤ 1048576) j h
    exact this
  · rw [ni_out _ _ h]; omega
theorem dgL_gd (V : Int) : Gd 1048576 (dgL V) := by
  refine ⟨dgL_len V, fun j => ?_⟩
  rcases Nat.lt_or_ge j 16 with h | h
  · rw [dgL_ni _ _ h]; have := dgI_bd V j; omega
  · rw [ni_out _ _ (by rw [dgL_len]; exact h)]; omega
theorem val_word (x : Nat) (h : x < 2 ^ 256) : val (dgL (x : Int)) = (x : Int) := by
  rw [val_dgL, T16n]
  have h2 : x < 65536 ^ 16 := by rw [show (65536 : Nat) ^ 16 = 2 ^ 256 by decide +kernel]; exact h
  omega
theorem pow_square (a n : Nat) (v u : Int) (h : v % pI = ((powP a n : Nat) : Int)) (hu : u % pI = v * v % pI) : u % pI = ((powP a (2 * n) : Nat) : Int) := by
  rw [hu, Int.mul_emod, h, pI_nat, ← powP_double, Int.natCast_emod, Int.natCast_mul]
theorem pow_times (a n x : Nat) (v y u : Int) (h : v % pI = ((powP a n : Nat) : Int)) (hx : x = a % pN) (hy : y = (x : Int)) (hu : u % pI = v * y % pI) : u % pI = ((powP a (n + 1) : Nat) : Int) := by
  have e : powP a (n + 1) = powP a n * x % pN := by rw [← powP_succ, hx, Nat.mul_mod_mod]
  rw [hu, Int.mul_emod, h, hy, pI_nat, e, Int.natCast_emod, Int.natCast_mul, Int.mul_emod, Int.emod_emod_of_dvd _ (Int.dvd_refl _), ← Int.mul_emod]

set_option maxHeartbeats 8000000 in
set_option maxRecDepth 100000 in
theorem rfpow_any (a e : Nat) (w : World) (ha : a < 2 ^ 256) (he : e < 2 ^ 256) : Calls Try.prog 92 #[wd a, wd e] w fun en w' => en = .returned (wd (powP a e)) ∧ Below w.heap.size w w' := by
  have hAd := hid (fun w => rfadd_any a 0 w ha (by decide))
  rw [Nat.add_zero] at hAd
  have hxl := p_mod_lt a
  have hDg := hid (fun w => digits_any (a % pN) w hxl)
  obtain ⟨x, hx⟩ : ∃ x, x = a % pN := ⟨_, rfl⟩
  rw [← hx] at hAd hDg hxl
  have HX := hid hx
  have HVX := hid (val_word x hxl)
  have HGX := hid (dgL_gd (x : Int))
  obtain ⟨X, hX⟩ : ∃ X, X = dgL (x : Int) := ⟨_, rfl⟩
  rw [← hX] at hDg HVX HGX
  have HE := hid he
  have hT := hid (fun o1 o2 w h1 h2 => times16_any o1 o2 w h1 h2)
  have hSm := hid (fun o w h => small16_any o w h)
  have hBn := hid nil_built
  have i1 := hid (iGFx oneI rfl)
  have iX := hid (iGFx X HGX.out.1)
  have nX := hid (one_cellsI X)
  have zX := hid (show (cellsI (List.replicate 16 0)).size = (cellsI X).size by rw [size_cellsI, size_cellsI, HGX.out.1]; rfl)
  clear ha he hx hX hxl
  unfold wd at *
  have iA := hid (iW a)
  obtain ⟨W0, hW0⟩ : ∃ W0, W0 = (((w.alloc (.cells (cellsW a) 24)).alloc (.cells (cellsW e) 24)).alloc (.cells (cellsW 0) 24)).alloc (.cells (cellsI oneI) 87) := ⟨_, rfl⟩
  have hA0 := hid (show ArrW 24 W0 w.heap.size a by rw [hW0]; exact (((ArrW.new _ w a).alloc _).alloc _).alloc _)
  have hE0 := hid (show ArrW 24 W0 (w.heap.size + 1) e by
    have := ArrW.new 24 (w.alloc (.cells (cellsW a) 24)) e
    rw [World.size_alloc] at this; rw [hW0]; exact (this.alloc _).alloc _)
  have hR0 := hid (show ArrW 24 W0 (w.heap.size + 2) 0 by
    have := ArrW.new 24 ((w.alloc (.cells (cellsW a) 24)).alloc (.cells (cellsW e) 24)) 0
    rw [World.size_alloc, World.size_alloc] at this; rw [hW0]; exact this.alloc _)
  have hO0 := hid (show ArrI 87 W0 (w.heap.size + 3) oneI by
    have := ArrI.new 87 (((w.alloc (.cells (cellsW a) 24)).alloc (.cells (cellsW e) 24)).alloc (.cells (cellsW 0) 24)) oneI
    rw [World.size_alloc, World.size_alloc, World.size_alloc] at this; rw [hW0]; exact this)
  have hb0 : Below w.heap.size w W0 := by rw [hW0]; exact ((((Below.refl _ _).alloc (Nat.le_refl _) _).alloc (by simp) _).alloc (by simp; omega) _).alloc (by simp; omega) _
  have EW := hid hW0
  have hA1 := hid (show ArrW 24 ((((w.alloc (.cells (cellsW a) 24)).alloc (.cells (cellsW e) 24)).alloc (.cells (cellsW 0) 24)).alloc (.cells (cellsI oneI) 87)) w.heap.size a by have := hA0.out; rw [hW0] at this; exact this)
  clear hW0
  go_enter Try.func92, Try.ntmps92
  go_wp2_with (first | (refine wpList_alloc_new rfl 24 rfl (cellsW 0) zWd ?_; simp only [Act.put, List.setIfInBounds_toArray, List.set_cons_zero, List.set_cons_succ, World.size_alloc]) | (refine wpList_newArr 87 _ 8 5 (cellsI oneI) (cellsI (List.replicate 16 0)) rfl rfl rfl rfl rfl rfl rfl rfl rfl (by decide) (by simp) (by simp) (by kernel_rfl) (by kernel_rfl) (by kernel_rfl) (by kernel_rfl) (by kernel_rfl) ?_; simp only [Act.put, List.setIfInBounds_toArray, List.set_cons_zero, List.set_cons_succ]) | (refine wpList_load_row rfl 24 (.tmp 2) rfl w.heap.size rfl 24 _ (0, 0) _ hA1.out uWd rfl iA.out ?_; simp only [Act.put, List.setIfInBounds_toArray, List.set_cons_zero, List.set_cons_succ]) | (refine wpList_build_cells rfl 24 _ rfl (cellsW 0) (by first | exact hBn.out | (simp only [List.map_toArray, List.map_cons, List.map_nil]; exact hBn.out)) ?_; simp only [Act.put, List.setIfInBounds_toArray, List.set_cons_zero, List.set_cons_succ]))
  (try simp only [World.size_alloc])
  rw [← EW.out]
  clear EW hA1 iA
  refine (hAd.out _).mono ?_
  rintro en w2 ⟨rfl, hb2⟩
  have hE2 := hid (hE0.out.below hb2 hE0.out.lt)
  have hR2 := hid (hR0.out.below hb2 hR0.out.lt)
  have hO2 := hid (hO0.out.below hb2 hO0.out.lt)
  have hb3 := hb0.trans (hb2.mono hb0.size)
  clear hA0 hE0 hR0 hO0 hb0 hb2 hAd
  go_wp2_with fail
  refine (hDg.out _).mono ?_
  rintro en w3 ⟨rfl, hb4⟩
  have hE3 := hid ((hE2.out.below hb4 hE2.out.lt).alloc (.cells (cellsI X) 87))
  have hR3 := hid ((hR2.out.below hb4 hR2.out.lt).alloc (.cells (cellsI X) 87))
  have hO3 := hid ((hO2.out.below hb4 hO2.out.lt).alloc (.cells (cellsI X) 87))
  have hX3 := hid (ArrI.new 87 w3 X)
  have hb5 := hb3.trans (hb4.mono hb3.size)
  have hb6 := hb5.alloc hb5.size (.cells (cellsI X) 87)
  have hsz : w.heap.size + 4 ≤ w3.heap.size := by have := (hO2.out.below hb4 hO2.out.lt).lt; omega
  obtain ⟨G, hG⟩ : ∃ G, G = w3.heap.size := ⟨_, rfl⟩
  clear hE2 hR2 hO2 hb3 hb4 hb5 hDg
  go_wp2_with (refine wpList_allocStore 87 12 6 (cellsI X) (cellsI (List.replicate 16 0)) rfl rfl rfl rfl rfl rfl (by decide) (by simp) rfl (by kernel_rfl) zX.out iX.out nX.out ?_; simp only [Act.put, List.setIfInBounds_toArray, List.set_cons_zero, List.set_cons_succ])
  rw [← hG] at hX3 hsz ⊢
  generalize w3.alloc (.cells (cellsI X) 87) = w4 at hE3 hR3 hO3 hX3 hb6 ⊢
  clear hG
  go_loopw [7] (fun iv wr => ∃ (k : Nat) (o : List Int), k ≤ 256 ∧ iv = .int .i64 (255 - (k : Int)) ∧ Hid (Gd 1048576 o ∧ val o % pI = ((powP a (e / 2 ^ (256 - k)) : Nat) : Int)) ∧ Hid (ArrW 24 wr (w.heap.size + 1) e) ∧ Hid (ArrW 24 wr (w.heap.size + 2) 0) ∧ Hid (ArrI 87 wr (w.heap.size + 3) o) ∧ Hid (ArrI 87 wr G X) ∧ Below w.heap.size w wr)
    (fun iv _ => (intOf iv + 1).toNat)
  case atStart =>
    refine ⟨0, oneI, by omega, rfl, hid ⟨oneI_gd, ?_⟩, hE3, hR3, hO3, hX3, hb6⟩
    rw [show e / 2 ^ (256 - 0) = 0 from Nat.div_eq_of_lt HE.out, powP_zero, oneI_val]
    decide +kernel
  case round =>
    clear hE3 hR3 hO3 hX3 hb6
    obtain ⟨k, o, hk, rfl, hI, hE, hR, hO, hX, hb⟩ := hrel
    have iO := hid (iGFx o hI.out.1.1)
    by_cases hlt : k < 256
    · obtain ⟨j, hj⟩ : ∃ j, k + j = 255 := ⟨255 - k, by omega⟩
      have hji : (255 : Int) - (k : Int) = (j : Int) := by omega
      rw [hji]
      rw [show 256 - k = j + 1 by omega] at hI
      have hbit := lm_bit e j
      have HD := hid (bit_down e j)
      have hT1 := hid (fun w => hT.out o o w hI.out.1 hI.out.1)
      have hol := hI.out.1.1
      have HJ := hid hj
      have HK := hid hji
      have cE := hE.out.cell (j / 64) (by omega)
      clear hj hji
      go_wp2_with (refine wpList_load_row rfl 87 (.tmp 5) rfl (w.heap.size + 3) rfl 87 _ (0, 0) _ hO.out uGF rfl iO.out ?_; simp only [Act.put, List.setIfInBounds_toArray, List.set_cons_zero, List.set_cons_succ])
      refine (hT1.out _).mono ?_
      rintro en w5 ⟨o1, rfl, hg1, hv1, hb5⟩
      have HV1 := hid (pow_square a (e / 2 ^ (j + 1)) (val o) (val o1) hI.out.2 hv1)
      have HG1 := hid hg1
      have hE5 := hid (hE.out.below hb5 hE.out.lt)
      have hR5 := hid (hR.out.below hb5 hR.out.lt)
      have hO5 := hid (hO.out.below hb5 hO.out.lt)
      have hX5 := hid (hX.out.below hb5 hX.out.lt)
      have hb6 := hb.trans (hb5.mono hb.size)
      have i1 := hid (iGFx o1 hg1.1)
      have z1 := hid (show (cellsI o).size = (cellsI o1).size by rw [size_cellsI, size_cellsI, hol, hg1.1])
      have n1 := hid (one_cellsI o1)
      clear hE hR hO hX hb hb5 hv1 hg1 hT1 hI cE
      have hE6 := hid (hE5.out.otherRow (show w.heap.size + 1 ≠ w.heap.size + 3 by omega) (cellsI o1))
      have hR6 := hid (hR5.out.otherRow (show w.heap.size + 2 ≠ w.heap.size + 3 by omega) (cellsI o1))
      have hX6 := hid (hX5.out.otherRow (show G ≠ w.heap.size + 3 by omega) (cellsI o1))
      have hO6 := hid (hO5.out.row o1)
      have hb7 := below_setRow' hb6 (w.heap.size + 3) (by omega) (cellsI o1)
      have cE := hE6.out.cell (j / 64) (by have := HJ.out; omega)
      have lE := hE6.out.lt
      have hj256 : j < 256 := by have := HJ.out; omega
      have hji := HK.out
      rcases (show e / 2 ^ j % 2 = 0 ∨ e / 2 ^ j % 2 = 1 by omega) with hb0 | hb1
      · rw [hb0] at hbit HD
        have H3 := hid (show val o1 % pI = ((powP a (e / 2 ^ j) : Nat) : Int) by rw [HV1.out, HD.out]; rfl)
        have hj0 : (255 : Int) - ((k + 1 : Nat) : Int) = (j : Int) - 1 := by omega
        have HJ0 := hid hj0
        clear hb0 hj0 hji
        go_wp2_with (refine wpList_store_row rfl 87 (.tmp 5) (.tmp 19) rfl (w.heap.size + 3) _ rfl rfl 87 _ hO5.out i1.out z1.out n1.out ?_; simp only [Act.put])
        go_roundw
        case rel =>
          refine ⟨k + 1, o1, by omega, by rw [HJ0.out], hid ⟨HG1.out, ?_⟩, hE6, hR6, hO6, hX6, hb7⟩
          rw [show 256 - (k + 1) = j by have := HJ.out; omega]; exact H3.out
        case measure => have := HJ.out; simp [intOf] <;> omega
      · rw [hb1] at hbit HD
        have hT2 := hid (fun w => hT.out o1 X w HG1.out HGX.out)
        have hj0 : (255 : Int) - ((k + 1 : Nat) : Int) = (j : Int) - 1 := by omega
        have HJ0 := hid hj0
        have hol1 := HG1.out.1
        clear hb1 hj0 hji
        go_wp2_with (first | (refine wpList_store_row rfl 87 (.tmp 5) (.tmp 19) rfl (w.heap.size + 3) _ rfl rfl 87 _ hO5.out i1.out z1.out n1.out ?_; simp only [Act.put]) | (refine wpList_load_row rfl 87 (.tmp 5) rfl (w.heap.size + 3) rfl 87 _ (0, 0) _ hO6.out uGF rfl i1.out ?_; simp only [Act.put, List.setIfInBounds_toArray, List.set_cons_zero, List.set_cons_succ]) | (refine wpList_load_row rfl 87 (.tmp 6) rfl G rfl 87 _ (0, 0) _ hX6.out uGF rfl iX.out ?_; simp only [Act.put, List.setIfInBounds_toArray, List.set_cons_zero, List.set_cons_succ]))
        refine (hT2.out _).mono ?_
        rintro en w8 ⟨o2, rfl, hg2, hv2, hb8⟩
        have HV2 := hid (show val o2 % pI = ((powP a (e / 2 ^ j) : Nat) : Int) by
          rw [HD.out]
          exact pow_times a (2 * (e / 2 ^ (j + 1))) x (val o1) (val X) (val o2) HV1.out HX.out HVX.out hv2)
        have HG2 := hid hg2
        have hE8 := hid (hE6.out.below hb8 hE6.out.lt)
        have hR8 := hid (hR6.out.below hb8 hR6.out.lt)
        have hO8 := hid (hO6.out.below hb8 hO6.out.lt)
        have hX8 := hid (hX6.out.below hb8 hX6.out.lt)
        have hb9 := hb7.trans (hb8.mono hb7.size)
        have i2 := hid (iGFx o2 hg2.1)
        have z2 := hid (show (cellsI o1).size = (cellsI o2).size by rw [size_cellsI, size_cellsI, hol1, hg2.1])
        have n2 := hid (one_cellsI o2)
        clear hE5 hR5 hO5 hX5 hb6 hE6 hR6 hO6 hX6 hb7 hb8 hv2 hg2 cE lE hT2
        have hE9 := hid (hE8.out.otherRow (show w.heap.size + 1 ≠ w.heap.size + 3 by omega) (cellsI o2))
        have hR9 := hid (hR8.out.otherRow (show w.heap.size + 2 ≠ w.heap.size + 3 by omega) (cellsI o2))
        have hX9 := hid (hX8.out.otherRow (show G ≠ w.heap.size + 3 by omega) (cellsI o2))
        have hO9 := hid (hO8.out.row o2)
        have hb10 := below_setRow' hb9 (w.heap.size + 3) (by omega) (cellsI o2)
        go_wp2_with (refine wpList_store_row rfl 87 (.tmp 5) (.tmp 32) rfl (w.heap.size + 3) _ rfl rfl 87 _ hO8.out i2.out z2.out n2.out ?_; simp only [Act.put])
        go_roundw
        case rel =>
          refine ⟨k + 1, o2, by omega, by rw [HJ0.out], hid ⟨HG2.out, ?_⟩, hE9, hR9, hO9, hX9, hb10⟩
          rw [show 256 - (k + 1) = j by have := HJ.out; omega]; exact HV2.out
        case measure => have := HJ.out; simp [intOf] <;> omega
    · obtain rfl : k = 256 := by omega
      have hS1 := hid (fun w => hSm.out o w hI.out.1)
      have hval : (val o % pI).toNat = powP a e := by
        rw [hI.out.2, show e / 2 ^ (256 - 256) = e from Nat.div_one e, Int.toNat_natCast]
      rw [hval] at hS1
      obtain ⟨r, hr⟩ : ∃ r, r = powP a e := ⟨_, rfl⟩
      rw [← hr] at hS1
      have HR := hid hr
      have iR := hid (iW r)
      have nR := hid (one_cellsW r)
      clear hr hval hI hlt hk hE hX
      go_wp2_with (refine wpList_load_row rfl 87 (.tmp 5) rfl (w.heap.size + 3) rfl 87 _ (0, 0) _ hO.out uGF rfl iO.out ?_; simp only [Act.put, List.setIfInBounds_toArray, List.set_cons_zero, List.set_cons_succ])
      refine (hS1.out _).mono ?_
      rintro en w2 ⟨rfl, hb2⟩
      have hR2 := hid (hR.out.below hb2 hR.out.lt)
      have hb3 := hb.trans (hb2.mono hb.size)
      clear hR hO hb hb2
      go_wp2_with (refine wpList_store_row rfl 24 (.tmp 4) (.tmp 34) rfl (w.heap.size + 2) _ rfl rfl 24 _ hR2.out iR.out rfl nR.out ?_; simp only [Act.put])
      refine bodyPost_ret (results_cell_row rfl _ _ (w.heap.size + 2) 24 (cellsW r) (0, 0) _ rfl (heap_setRow' _ _ _ _ _ hR2.out) uWd rfl iR.out) rfl ⟨by rw [HR.out], below_setRow' hb3 _ (by omega) _⟩
end Go.Proofs.Ytfidbiabgmioaaa

/-! conclaveref04: differences, inverses. -/
namespace Go.Proofs.Ytfidbiabgmioaaa
open Go.RowKit

def rsubP (a b : Nat) : Nat := (a + pN * 4 - b) % pN
set_option maxHeartbeats 4000000 in
theorem rfsub_any (a b : Nat) (w : World) (ha : a < 2 ^ 256) (hb : b < 2 ^ 256) : Calls Try.prog 96 #[wd a, wd b] w fun e w' => e = .returned (wd (rsubP a b)) ∧ Below w.heap.size w w' := by
  have hOA := hid (fun w => of_any a w ha)
  have hOB := hid (fun w => of_any b w hb)
  have hP := hid rP_any
  have la := dg_word_len a ha
  have lb := dg_word_len b hb
  have h4p : (dg (pN * 4)).length ≤ 33 := dg_len _ _ (by decide +kernel)
  have hbl : b ≤ a + pN * 4 := by have := pN_two; omega
  have h4 := hid (fun w => RdN.litd 4 (by omega) (by omega) w)
  have hTm := hid (fun va vb w h1 h2 => times_any pN 4 va vb w h1 h2 (by have := dg_p; omega) (dgs 4 1 _ (by decide) (by omega)))
  have hPl := hid (fun va vb w h1 h2 => plus_any a (pN * 4) va vb w h1 h2 (by omega) (by omega))
  have hsl : (dg (a + pN * 4)).length ≤ 65536 := dgs _ 34 _ (by
    rw [show (256 : Nat) ^ 34 = 2 ^ 256 * 65536 by rw [show 34 = 32 + 2 from rfl, Nat.pow_add, pow256_32]]
    have := pN_lt
    generalize 2 ^ 256 = T at *
    omega) (by omega)
  have hLs := hid (fun va vb w h1 h2 => less_any (a + pN * 4) b va vb w h1 h2 hsl hbl)
  have hM := hid (fun va vb w h1 h2 => rfmod_any (a + pN * 4 - b) pN va vb w h1 h2 (Nat.le_trans (dg_len_mono _ _ (Nat.sub_le _ _)) hsl) (by have := dg_p; omega) pN_pos pN_lt)
  rw [show (a + pN * 4 - b) % pN = rsubP a b from rfl] at hM
  obtain ⟨r, hr⟩ : ∃ r, r = rsubP a b := ⟨_, rfl⟩
  rw [← hr] at hM ⊢
  obtain ⟨d, hd⟩ : ∃ d, d = a + pN * 4 - b := ⟨_, rfl⟩
  rw [← hd] at hLs hM
  obtain ⟨s, hs⟩ : ∃ s, s = a + pN * 4 := ⟨_, rfl⟩
  rw [← hs] at hPl hLs
  obtain ⟨q, hq⟩ : ∃ q, q = pN * 4 := ⟨_, rfl⟩
  rw [← hq] at hTm hPl
  generalize pN = p at *
  clear ha hb la lb h4p hbl hsl hr hd hs hq
  unfold wd at *
  have iA := hid (iW a)
  have iB := hid (iW b)
  have iR := hid (iW r)
  have nR := hid (one_cellsW r)
  have hA0 := hid (show ArrW 24 (((w.alloc (.cells (cellsW a) 24)).alloc (.cells (cellsW b) 24)).alloc (.cells (cellsW 0) 24)) w.heap.size a from ((ArrW.new _ w a).alloc _).alloc _)
  have hB0 := hid (show ArrW 24 (((w.alloc (.cells (cellsW a) 24)).alloc (.cells (cellsW b) 24)).alloc (.cells (cellsW 0) 24)) (w.heap.size + 1) b by
    have := ArrW.new 24 (w.alloc (.cells (cellsW a) 24)) b
    rw [World.size_alloc] at this; exact this.alloc _)
  have hC0 := hid (show ArrW 24 (((w.alloc (.cells (cellsW a) 24)).alloc (.cells (cellsW b) 24)).alloc (.cells (cellsW 0) 24)) (w.heap.size + 2) 0 by
    have := ArrW.new 24 ((w.alloc (.cells (cellsW a) 24)).alloc (.cells (cellsW b) 24)) 0
    rw [World.size_alloc, World.size_alloc] at this; exact this)
  have hb0 : Below w.heap.size w (((w.alloc (.cells (cellsW a) 24)).alloc (.cells (cellsW b) 24)).alloc (.cells (cellsW 0) 24)) := (((Below.refl _ _).alloc (Nat.le_refl _) _).alloc (by simp) _).alloc (by simp; omega) _
  go_enter Try.func96, Try.ntmps96
  go_wp2_with (first | (refine wpList_alloc_new rfl 24 rfl (cellsW 0) zWd ?_; simp only [Act.put, List.setIfInBounds_toArray, List.set_cons_zero, List.set_cons_succ, World.size_alloc]) | (refine wpList_load_row rfl 24 (.tmp 2) rfl w.heap.size rfl 24 _ (0, 0) _ hA0.out uWd rfl iA.out ?_; simp only [Act.put, List.setIfInBounds_toArray, List.set_cons_zero, List.set_cons_succ]))
  generalize ((w.alloc (.cells (cellsW a) 24)).alloc (.cells (cellsW b) 24)).alloc (.cells (cellsW 0) 24) = w0 at hA0 hB0 hC0 hb0 ⊢
  refine (hOA.out _).mono ?_
  rintro e w1 ⟨v1, rfl, hr1, hs1⟩
  go_wp2_with fail
  refine (hP.out _).mono ?_
  rintro e w2 ⟨v2, rfl, hr2, hs2⟩
  go_wp2_with fail
  have hs3 := below_alloc w2 (.cells #[.int .i64 4] 3)
  have hr3 := h4.out w2
  refine (hTm.out _ _ _ (hr2.below hs3) hr3).mono ?_
  rintro e w4 ⟨v4, rfl, hr4, hs4⟩
  go_wp2_with fail
  refine (hPl.out _ _ _ (((hr1.below hs2).below hs3).below hs4) hr4).mono ?_
  rintro e w5 ⟨v5, rfl, hr5, hs5⟩
  have hB5 := hid (((((hB0.out.below hs1 hB0.out.lt).step hs2).step hs3).step hs4).step hs5)
  have hC5 := hid (((((hC0.out.below hs1 hC0.out.lt).step hs2).step hs3).step hs4).step hs5)
  have hb5 := hb0.trans ((below_next (below_next (below_next (below_next hs1 (Nat.le_refl _) hs2) (Nat.le_refl _) hs3) (Nat.le_refl _) hs4) (Nat.le_refl _) hs5).mono hb0.size)
  have hR5 := hid hr5
  clear hA0 hB0 hC0 hb0 hr1 hr2 hr3 hr4 hr5 hs1 hs2 hs3 hs4 hs5 hOA hTm hPl
  go_wp2_with (refine wpList_load_row rfl 24 (.tmp 3) rfl (w.heap.size + 1) rfl 24 _ (0, 0) _ hB5.out uWd rfl iB.out ?_; simp only [Act.put, List.setIfInBounds_toArray, List.set_cons_zero, List.set_cons_succ])
  refine (hOB.out _).mono ?_
  rintro e w6 ⟨v6, rfl, hr6, hs6⟩
  go_wp2_with fail
  refine (hLs.out _ _ _ (hR5.out.below hs6) hr6).mono ?_
  rintro e w7 ⟨v7, rfl, hr7, hs7⟩
  go_wp2_with fail
  refine (hP.out _).mono ?_
  rintro e w8 ⟨v8, rfl, hr8, hs8⟩
  go_wp2_with fail
  refine (hM.out _ _ _ (hr7.below hs8) hr8).mono ?_
  rintro e w9 ⟨rfl, hs9⟩
  have hC9 := hid ((((hC5.out.step hs6).step hs7).step hs8).step hs9)
  have hb9 := hb5.trans ((below_next (below_next (below_next hs6 (Nat.le_refl _) hs7) (Nat.le_refl _) hs8) (Nat.le_refl _) hs9).mono hb5.size)
  clear hB5 hC5 hb5 hR5 hr6 hr7 hr8 hs6 hs7 hs8 hs9
  go_wp2_with (refine wpList_store_row rfl 24 (.tmp 4) (.tmp 17) rfl (w.heap.size + 2) _ rfl rfl 24 _ hC9.out iR.out rfl nR.out ?_; simp only [Act.put])
  refine bodyPost_ret (results_cell_row rfl _ _ (w.heap.size + 2) 24 (cellsW r) (0, 0) _ rfl (heap_setRow' _ _ _ _ _ hC9.out) uWd rfl iR.out) rfl ⟨rfl, below_setRow' hb9 _ (by omega) _⟩

set_option maxHeartbeats 4000000 in
theorem rfinv_any (a : Nat) (w : World) (ha : a < 2 ^ 256) : Calls Try.prog 18 #[wd a] w fun e w' => e = .returned (wd (powP a (pN - 2))) ∧ Below w.heap.size w w' := by
  have hP := hid rP_any
  have hdl : pN - 2 < 2 ^ 256 := Nat.lt_of_le_of_lt (Nat.sub_le _ _) pN_lt
  have hLs := hid (fun va vb w h1 h2 => less_any pN 2 va vb w h1 h2 (by have := dg_p; omega) (by decide +kernel))
  have hWd := hid (fun v w h => wordN_any (pN - 2) v w h (Nat.le_trans (dg_len_mono _ _ (Nat.sub_le _ _)) (by have := dg_p; omega)))
  rw [Nat.mod_eq_of_lt hdl] at hWd
  have hPw := hid (fun w => rfpow_any a (pN - 2) w ha hdl)
  obtain ⟨d, hd⟩ : ∃ d, d = pN - 2 := ⟨_, rfl⟩
  rw [← hd] at hLs hWd hPw ⊢
  obtain ⟨r, hr⟩ : ∃ r, r = powP a d := ⟨_, rfl⟩
  rw [← hr] at hPw ⊢
  generalize pN = p at *
  clear ha hdl hd hr
  unfold wd at *
  have iA := hid (iW a)
  have iR := hid (iW r)
  have nR := hid (one_cellsW r)
  have hA0 := hid (show ArrW 24 ((w.alloc (.cells (cellsW a) 24)).alloc (.cells (cellsW 0) 24)) w.heap.size a from (ArrW.new _ w a).alloc _)
  have hC0 := hid (show ArrW 24 ((w.alloc (.cells (cellsW a) 24)).alloc (.cells (cellsW 0) 24)) (w.heap.size + 1) 0 by
    have := ArrW.new 24 (w.alloc (.cells (cellsW a) 24)) 0
    rw [World.size_alloc] at this; exact this)
  have hb0 : Below w.heap.size w ((w.alloc (.cells (cellsW a) 24)).alloc (.cells (cellsW 0) 24)) := ((Below.refl _ _).alloc (Nat.le_refl _) _).alloc (by simp) _
  go_enter Try.func18, Try.ntmps18
  go_wp2_with (refine wpList_alloc_new rfl 24 rfl (cellsW 0) zWd ?_; simp only [Act.put, List.setIfInBounds_toArray, List.set_cons_zero, List.set_cons_succ, World.size_alloc])
  generalize (w.alloc (.cells (cellsW a) 24)).alloc (.cells (cellsW 0) 24) = w1 at hA0 hC0 hb0 ⊢
  ((try simp only [World.size_alloc]); refine wp_region_loose_tail 6 [.kn (.agg (cellsW (a))), .lo (fun v w => RdN w v (p)), .lo (fun v w => RdN w v (2)), .lo (fun v w => RdN w v (d)), .kn (.agg (cellsW (d))), .kn (.agg (cellsW (r)))] (by kernel_rfl) (by kernel_rfl) (by kernel_rfl) (by first | exact trivial | ((repeat (first | refine keepsAll_kn ?_ | (refine keepsAll_lo (fun v w w' h hb => ?_) ?_; first | exact RdN.below h hb | exact RdL.below h hb | exact RdY.below h hb | (obtain ⟨b, e, h1⟩ := h; exact ⟨b, e, ArrY.below h1 hb (ArrY.lt h1)⟩) | (obtain ⟨v1, v2, e, h1, h2⟩ := h; exact ⟨v1, v2, e, RdN.below h1 hb, RdN.below h2 hb⟩)))); exact trivial)) ?_; simp only [List.take_succ_cons, List.take_zero, List.drop_succ_cons, List.drop_zero])
  (refine loose_step_on rfl (fun W' hB' hd K hK => wp_load_block 24 (.tmp 1) rfl w.heap.size rfl 24 _ _ (ArrW.below hA0.out hB' (ArrW.lt hA0.out)) uWd rfl iA.out (hK _ _ (Below.refl _ _) rfl)) ?_; rintro _ rfl; simp only [Act.put, List.setIfInBounds_toArray, List.set_cons_zero, List.set_cons_succ])
  (refine loose_step_on rfl (fun W' hB' hd K hK => ?_) ?_; (focus (skip; clear hd; go_simp; refine (hP.out _).mono ?_; rintro _ _ ⟨v', rfl, hr, hb'⟩; exact hK v' _ hb' hr)); intro v4 _; simp only [Act.put, List.setIfInBounds_toArray, List.set_cons_zero, List.set_cons_succ])
  (refine loose_step_on rfl (fun W' hB' hd K hK => ?_) ?_; (focus (clear hd; go_simp; exact hK _ _ (below_alloc _ _) (RdN.litd 2 (by omega) (by omega) _))); intro v5 _; simp only [Act.put, List.setIfInBounds_toArray, List.set_cons_zero, List.set_cons_succ])
  (refine loose_step_on rfl (fun W' hB' hd K hK => ?_) ?_; (focus (have g4 : RdN W' v4 p := hd ⟨1, Ground.data⟩ (by simp) rfl _ 4 rfl rfl (by simp); have g5 : RdN W' v5 2 := hd ⟨2, Ground.data⟩ (by simp) rfl _ 5 rfl rfl (by simp); clear hd; go_simp; refine (hLs.out v4 v5 _ g4 g5).mono ?_; rintro _ _ ⟨v', rfl, hr, hb'⟩; exact hK v' _ hb' hr)); intro v6 _; simp only [Act.put, List.setIfInBounds_toArray, List.set_cons_zero, List.set_cons_succ])
  (refine loose_step_on rfl (fun W' hB' hd K hK => ?_) ?_; (focus (have g6 : RdN W' v6 d := hd ⟨3, Ground.data⟩ (by simp) rfl _ 6 rfl rfl (by simp); clear hd; go_simp; refine (hWd.out v6 _ g6).mono ?_; rintro _ _ ⟨rfl, hb'⟩; exact hK _ _ hb' rfl)); rintro _ rfl; simp only [Act.put, List.setIfInBounds_toArray, List.set_cons_zero, List.set_cons_succ])
  (refine loose_step_on rfl (fun W' hB' hd K hK => ?_) ?_; (focus (skip; clear hd; go_simp; refine (hPw.out _).mono ?_; rintro _ _ ⟨rfl, hb'⟩; exact hK _ _ hb' rfl)); rintro _ rfl; simp only [Act.put, List.setIfInBounds_toArray, List.set_cons_zero, List.set_cons_succ])
  intro w6 hb6 hf
  clear hf
  have hC6 := hid (hC0.out.below hb6 hC0.out.lt)
  have hb7 := hb0.trans (hb6.mono hb0.size)
  clear hA0 hC0 hb0 hb6
  (refine wpList_store_row rfl 24 (.tmp 2) (.tmp 8) rfl (w.heap.size + 1) _ rfl rfl 24 _ hC6.out iR.out rfl nR.out ?_; simp only [Act.put])
  go_wp2
  refine bodyPost_ret (results_cell_row rfl _ _ (w.heap.size + 1) 24 (cellsW r) (0, 0) _ rfl (heap_setRow' _ _ _ _ _ hC6.out) uWd rfl iR.out) rfl ⟨rfl, below_setRow' hb7 _ (by omega) _⟩
end Go.Proofs.Ytfidbiabgmioaaa

/-! conclaveref04.Sqrt. -/
namespace Go.Proofs.Ytfidbiabgmioaaa
open Go.RowKit

theorem sq_powP (a : Nat) : powP a ((pN + 3) / 8) = sq0 a := by
  unfold sq0 powP; rw [← Nat.pow_mod]
theorem rsub_zero (x : Nat) (h0 : 0 < x) (hx : x < pN) : rsubP 0 x = pN - x := by
  unfold rsubP
  rw [show 0 + pN * 4 - x = (pN - x) + pN * 3 by omega, Nat.add_mul_mod_self_left, Nat.mod_eq_of_lt (by omega)]

set_option maxHeartbeats 8000000 in
theorem rfsqrt_any (a : Nat) (w : World) (ha : a < 2 ^ 256) : Calls Try.prog 16 #[wd a] w fun e w' => e = .returned (.tuple #[wd (sqX a), .bool (sqOk a)]) ∧ Below w.heap.size w w' := by
  have hP := hid rP_any
  have hl3 := hid (fun w => RdN.litd 3 (by omega) (by omega) w)
  have hl8 := hid (fun w => RdN.litd 8 (by omega) (by omega) w)
  have hl4 := hid (fun w => RdN.litd 4 (by omega) (by omega) w)
  have d1 : ∀ d, d < 256 → (dg d).length ≤ 65000 := fun d h => dgs d 1 _ (by omega) (by omega)
  have hPl := hid (fun va vb w h1 h2 => plus_any pN 3 va vb w h1 h2 (by have := dg_p; omega) (by have := d1 3 (by omega); omega))
  have hp3 : (dg (pN + 3)).length ≤ 33 := dg_len _ _ (by decide +kernel)
  have hQ8 := hid (fun va vb w h1 h2 => quo_any (pN + 3) 8 va vb w h1 h2 (by omega) (d1 8 (by omega)) (by omega))
  have hQ4 := hid (fun va vb w h1 h2 => quo_any pN 4 va vb w h1 h2 (by have := dg_p; omega) (d1 4 (by omega)) (by omega))
  have e0l : (pN + 3) / 8 < 2 ^ 256 := by decide +kernel
  have e1l : pN / 4 < 2 ^ 256 := by decide +kernel
  have hWd0 := hid (fun v w h => wordN_any ((pN + 3) / 8) v w h (Nat.le_trans (dg_len_mono _ _ (Nat.div_le_self _ _)) (by omega)))
  rw [Nat.mod_eq_of_lt e0l] at hWd0
  have hWd1 := hid (fun v w h => wordN_any (pN / 4) v w h (Nat.le_trans (dg_len_mono _ _ (Nat.div_le_self _ _)) (by have := dg_p; omega)))
  rw [Nat.mod_eq_of_lt e1l] at hWd1
  have hAd := hid (fun w => rfadd_any a 0 w ha (by decide))
  rw [Nat.add_zero] at hAd
  have hal := p_mod_lt a
  have hW0 := hid (fun w => rfpow_any a ((pN + 3) / 8) w ha e0l)
  rw [sq_powP] at hW0
  have h0l : sq0 a < 2 ^ 256 := powP_lt _ _
  have hM0 := hid (fun w => rfmul_any (sq0 a) (sq0 a) w h0l h0l)
  have hW2 := hid (fun w => rfpow_any 2 (pN / 4) w (by decide) e1l)
  have h2l : powP 2 (pN / 4) < 2 ^ 256 := powP_lt _ _
  have hM2 := hid (fun w => rfmul_any (sq0 a) (powP 2 (pN / 4)) w h0l h2l)
  have h1p := sq1_lt a
  have h1l : sq1 a < 2 ^ 256 := Nat.lt_trans h1p pN_lt
  have hM1 := hid (fun w => rfmul_any (sq1 a) (sq1 a) w h1l h1l)
  have hSb := hid (fun (h : 0 < sq1 a) w => (show Calls Try.prog 96 #[wd 0, wd (sq1 a)] w fun e w' => e = .returned (wd (pN - sq1 a)) ∧ Below w.heap.size w w' from by
    have := rfsub_any 0 (sq1 a) w (by decide) h1l
    rw [rsub_zero _ h h1p] at this; exact this))
  have he0 : ∀ w, (Op.equalIn 10000 24 (.agg (cellsW (sq0 a * sq0 a % pN))) (.agg (cellsW (a % pN)))).run Try.prog w = .ok (decide (sq0 a * sq0 a % pN = a % pN)) w := eq_wd _ _ (p_mod_lt _) hal
  have he1 : ∀ w, (Op.equalIn 10000 24 (.agg (cellsW (sq1 a * sq1 a % pN))) (.agg (cellsW (a % pN)))).run Try.prog w = .ok (sqOk a) w := eq_wd _ _ (p_mod_lt _) hal
  have hX0 : sq0 a * sq0 a % pN = a % pN → sq1 a = sq0 a := fun h => by unfold sq1; rw [if_pos h]
  have hX1 : ¬ sq0 a * sq0 a % pN = a % pN → sq1 a = sq0 a * powP 2 (pN / 4) % pN := fun h => by unfold sq1; rw [if_neg h]
  have hbit := lm_bit (sq1 a) 0
  rw [show 0 / 64 = 0 from rfl, show 0 % 64 = 0 from rfl, Nat.pow_zero, Nat.div_one] at hbit
  have hpar : bits .and .u64 (lm (sq1 a) 0) 1 = ((sq1 a % 2 : Nat) : Int) := by
    rw [← hbit]; congr 1; rw [show ((2 : Int) ^ 0) = 1 from rfl, Int.ediv_one]
  have hRX : sqX a = if sqOk a then (if sq1 a % 2 = 1 then pN - sq1 a else sq1 a) else 0 := rfl
  obtain ⟨X, hX⟩ : ∃ X, X = sqX a := ⟨_, rfl⟩
  rw [← hX] at hRX ⊢
  obtain ⟨ok, hok⟩ : ∃ ok, ok = sqOk a := ⟨_, rfl⟩
  rw [← hok] at he1 hRX ⊢
  obtain ⟨x1, hx1⟩ : ∃ x, x = sq1 a := ⟨_, rfl⟩
  rw [← hx1] at hM1 hSb he1 hX0 hX1 hpar hRX
  obtain ⟨m1, hm1⟩ : ∃ m, m = x1 * x1 % pN := ⟨_, rfl⟩
  rw [← hm1] at hM1 he1
  obtain ⟨x0, hx0⟩ : ∃ x, x = sq0 a := ⟨_, rfl⟩
  rw [← hx0] at hW0 hM0 hM2 he0 hX0 hX1
  obtain ⟨t, ht⟩ : ∃ t, t = powP 2 (pN / 4) := ⟨_, rfl⟩
  rw [← ht] at hW2 hM2 hX1
  obtain ⟨y1, hy1⟩ : ∃ y, y = x0 * t % pN := ⟨_, rfl⟩
  rw [← hy1] at hM2 hX1
  obtain ⟨m0, hm0⟩ : ∃ m, m = x0 * x0 % pN := ⟨_, rfl⟩
  rw [← hm0] at hM0 he0 hX0 hX1
  obtain ⟨e0, hE0⟩ : ∃ e, e = (pN + 3) / 8 := ⟨_, rfl⟩
  rw [← hE0] at hQ8 hWd0 hW0
  obtain ⟨e1, hE1⟩ : ∃ e, e = pN / 4 := ⟨_, rfl⟩
  rw [← hE1] at hQ4 hWd1 hW2
  obtain ⟨r8, hr8⟩ : ∃ r, r = (pN + 3) % 8 := ⟨_, rfl⟩
  rw [← hr8] at hQ8
  obtain ⟨r4, hr4⟩ : ∃ r, r = pN % 4 := ⟨_, rfl⟩
  rw [← hr4] at hQ4
  obtain ⟨q3, hq3⟩ : ∃ q, q = pN + 3 := ⟨_, rfl⟩
  rw [← hq3] at hPl hQ8
  obtain ⟨n1, hn1⟩ : ∃ n, n = pN - x1 := ⟨_, rfl⟩
  rw [← hn1] at hSb hRX
  obtain ⟨a', ha'⟩ : ∃ a', a' = a % pN := ⟨_, rfl⟩
  rw [← ha'] at hAd he0 he1 hX0 hX1
  have HX0 := hid hX0
  have HX1 := hid hX1
  have HRX := hid hRX
  have Hpar := hid hpar
  have He1 := hid he1
  have HB2 := hid two_built
  have hBn := hid nil_built
  clear ha hal h0l h2l h1p h1l hbit hpar hX hok hx1 hm1 hx0 ht hy1 hm0 hE0 hE1 hq3 hn1 ha' hX0 hX1 hRX he1 hp3 d1 e0l e1l hr8 hr4
  generalize pN = p at *
  unfold wd at *
  have iA := hid (iW a)
  have iX0 := hid (iW x0)
  have nX0 := hid (one_cellsW x0)
  have iX1 := hid (iW x1)
  have nX1 := hid (one_cellsW x1)
  have iN1 := hid (iW n1)
  have nN1 := hid (one_cellsW n1)
  have iZ := hid (iW 0)
  have nZ := hid (one_cellsW 0)
  have hA0 := hid (show ArrW 24 ((w.alloc (.cells (cellsW a) 24)).alloc (.cells (cellsW 0) 24)) w.heap.size a from (ArrW.new _ w a).alloc _)
  have hC0 := hid (show ArrW 24 ((w.alloc (.cells (cellsW a) 24)).alloc (.cells (cellsW 0) 24)) (w.heap.size + 1) 0 by
    have := ArrW.new 24 (w.alloc (.cells (cellsW a) 24)) 0
    rw [World.size_alloc] at this; exact this)
  have hb0 : Below w.heap.size w ((w.alloc (.cells (cellsW a) 24)).alloc (.cells (cellsW 0) 24)) := ((Below.refl _ _).alloc (Nat.le_refl _) _).alloc (by simp) _
  go_enter Try.func16, Try.ntmps16
  go_wp2_with (refine wpList_alloc_new rfl 24 rfl (cellsW 0) zWd ?_; simp only [Act.put, List.setIfInBounds_toArray, List.set_cons_zero, List.set_cons_succ, World.size_alloc])
  generalize (w.alloc (.cells (cellsW a) 24)).alloc (.cells (cellsW 0) 24) = w0 at hA0 hC0 hb0 ⊢
  refine (hP.out _).mono ?_
  rintro e w1 ⟨v1, rfl, hr1, hs1⟩
  go_wp2_with fail
  have hs2 := below_alloc w1 (.cells #[.int .i64 3] 3)
  have hr2 := hl3.out w1
  refine (hPl.out _ _ _ (hr1.below hs2) hr2).mono ?_
  rintro e w3 ⟨v3, rfl, hr3, hs3⟩
  go_wp2_with fail
  have hs4 := below_alloc w3 (.cells #[.int .i64 8] 3)
  have hr4 := hl8.out w3
  refine (hQ8.out _ _ _ (hr3.below hs4) hr4).mono ?_
  rintro e w5 ⟨v5, v5', rfl, hr5, hr5', hs5⟩
  have hA5 := hid (((((hA0.out.below hs1 hA0.out.lt).step hs2).step hs3).step hs4).step hs5)
  have hC5 := hid (((((hC0.out.below hs1 hC0.out.lt).step hs2).step hs3).step hs4).step hs5)
  have hb5 := hb0.trans ((below_next (below_next (below_next (below_next hs1 (Nat.le_refl _) hs2) (Nat.le_refl _) hs3) (Nat.le_refl _) hs4) (Nat.le_refl _) hs5).mono hb0.size)
  have hR5 := hid hr5
  clear hA0 hC0 hb0 hr1 hr2 hr3 hr4 hr5 hr5' hs1 hs2 hs3 hs4 hs5 hPl hQ8
  go_wp2_with fail
  have hs2 : w.heap.size + 2 ≤ w5.heap.size := by have := hC5.out.lt; omega
  refine wp_region_loose_tail 5 [.kn (.agg (cellsW (a))), .lo (fun v w => RdN w v (e0)), .kn (.agg (cellsW (e0))), .kn (.agg (cellsW (x0))), .lo (fun v w => ∃ b, v = .pointer (some ⟨b, 0, none⟩) ∧ ArrW 24 w b 0 ∧ w5.heap.size ≤ b)] (by kernel_rfl) (by kernel_rfl) (by kernel_rfl) ?_ ?_
  · refine keepsAll_kn (keepsAll_lo (fun v w w' h hb => RdN.below h hb) (keepsAll_kn (keepsAll_kn (keepsAll_lo ?_ trivial))))
    rintro v w w' ⟨b, h1, h2, h3⟩ hb
    exact ⟨b, h1, h2.below hb h2.lt, h3⟩
  simp only [List.take_succ_cons, List.take_zero, List.drop_succ_cons, List.drop_zero]
  (refine loose_step_on rfl (fun W' hB' hd K hK => wp_load_block 24 (.tmp 1) rfl w.heap.size rfl 24 _ _ (ArrW.below hA5.out hB' (ArrW.lt hA5.out)) uWd rfl iA.out (hK _ _ (Below.refl _ _) rfl)) ?_; rintro _ rfl; simp only [Act.put, List.setIfInBounds_toArray, List.set_cons_zero, List.set_cons_succ])
  (refine loose_step_on rfl (fun W' hB' hd K hK => ?_) ?_; (focus (skip; clear hd; go_simp; exact hK _ _ (Below.refl _ _) (hR5.out.below hB'))); intro v18 _; simp only [Act.put, List.setIfInBounds_toArray, List.set_cons_zero, List.set_cons_succ])
  (refine loose_step_on rfl (fun W' hB' hd K hK => ?_) ?_; (focus (have g18 : RdN W' v18 e0 := hd ⟨1, Ground.data⟩ (by simp) rfl _ 18 rfl rfl (by simp); clear hd; go_simp; refine (hWd0.out v18 _ g18).mono ?_; rintro _ _ ⟨rfl, hb'⟩; exact hK _ _ hb' rfl)); rintro _ rfl; simp only [Act.put, List.setIfInBounds_toArray, List.set_cons_zero, List.set_cons_succ])
  (refine loose_step_on rfl (fun W' hB' hd K hK => ?_) ?_; (focus (skip; clear hd; go_simp; refine (hW0.out _).mono ?_; rintro _ _ ⟨rfl, hb'⟩; exact hK _ _ hb' rfl)); rintro _ rfl; simp only [Act.put, List.setIfInBounds_toArray, List.set_cons_zero, List.set_cons_succ])
  (refine loose_step rfl (fun W' hB' hd K hK => wp_alloc_new 24 rfl (cellsW 0) zWd (hK _ _ ((Below.refl _ _).alloc (Nat.le_refl _) _) ⟨_, rfl, ArrW.new _ _ _, hB'.size⟩)) ?_; intro v6 _; simp only [Act.put, List.setIfInBounds_toArray, List.set_cons_zero, List.set_cons_succ])
  intro w6 hb6 hf
  have g6 : ∃ b, v6 = .pointer (some ⟨b, 0, none⟩) ∧ ArrW 24 w6 b 0 ∧ w5.heap.size ≤ b := hf 4 _ 6 (by first | omega | simp) rfl rfl (by simp)
  clear hf
  obtain ⟨G, rfl, hG6, hle⟩ := g6
  have hsG : w.heap.size + 2 ≤ G := by omega
  have HG6 := hid hG6
  have hX7 := hid (hG6.row x0)
  have hA7 := hid ((hA5.out.below hb6 hA5.out.lt).otherRow (show w.heap.size ≠ G by omega) (cellsW x0))
  have hC7 := hid ((hC5.out.below hb6 hC5.out.lt).otherRow (show w.heap.size + 1 ≠ G by omega) (cellsW x0))
  have hb7 := below_setRow' (hb5.trans (hb6.mono hb5.size)) G (by omega) (cellsW x0)
  clear hG6 hle hA5 hC5 hb5 hb6 hs2 hR5 hW0 hWd0
  go_wp2_with (refine wpList_store_row rfl 24 (.tmp 6) (.tmp 20) rfl G _ rfl rfl 24 _ HG6.out iX0.out rfl nX0.out ?_; simp only [Act.put])
  generalize w6.setRow G (cellsW x0) = w7 at hX7 hA7 hC7 hb7 ⊢
  clear HG6
  by_cases h0 : m0 = a'
  · have hxe := HX0.out h0
    rw [decide_eq_true h0] at he0
    subst hxe
    clear h0 HX0 HX1 hM2 hW2
    go_wp2_with fail
    ((try simp only [World.size_alloc]); refine wp_region_ext (by kernel_rfl) (by kernel_rfl) ?_; (try simp only [List.append_eq, List.cons_append, List.nil_append]); (repeat (first | (refine wpQuiet_load_want 24 (.tmp 6) rfl G rfl 24 (cellsW _) _ hX7.out uWd rfl iX1.out rfl ?_; simp only [Act.put, List.setIfInBounds_toArray, List.set_cons_zero, List.set_cons_succ]) | (refine wpQuiet_load_want 24 (.tmp 1) rfl w.heap.size rfl 24 (cellsW _) _ hA7.out uWd rfl iA.out rfl ?_; simp only [Act.put, List.setIfInBounds_toArray, List.set_cons_zero, List.set_cons_succ]) | (refine wpQuiet_build_want 24 _ rfl (cellsW 0) (by first | exact hBn.out | (simp only [List.map_toArray, List.map_cons, List.map_nil]; exact hBn.out)) rfl ?_; simp only [Act.put, List.setIfInBounds_toArray, List.set_cons_zero, List.set_cons_succ]) | go_big_quiet_step (first | (go_at_call 94; with_reducible refine Calls.ext_of (hM0.out _)) | (go_at_call 95; with_reducible refine Calls.ext_of (hAd.out _))))); refine wpQuiet_nil ?_; rintro _ ⟨xw, rfl⟩)
    have hX8 := hid (hX7.out.ext xw)
    have hA8 := hid (hA7.out.ext xw)
    have hC8 := hid (hC7.out.ext xw)
    have hb8 := World.ext_below_of hb7 hb7.size xw
    generalize w7.ext xw = w8 at hX8 hA8 hC8 hb8 ⊢
    clear hX7 hA7 hC7 hb7 hM0 he0
    have he1 := He1.out
    go_wp2_with fail
    ((try simp only [World.size_alloc]); refine wp_region_ext (by kernel_rfl) (by kernel_rfl) ?_; (try simp only [List.append_eq, List.cons_append, List.nil_append]); (repeat (first | (refine wpQuiet_load_want 24 (.tmp 6) rfl G rfl 24 (cellsW _) _ hX8.out uWd rfl iX1.out rfl ?_; simp only [Act.put, List.setIfInBounds_toArray, List.set_cons_zero, List.set_cons_succ]) | (refine wpQuiet_load_want 24 (.tmp 1) rfl w.heap.size rfl 24 (cellsW _) _ hA8.out uWd rfl iA.out rfl ?_; simp only [Act.put, List.setIfInBounds_toArray, List.set_cons_zero, List.set_cons_succ]) | (refine wpQuiet_build_want 24 _ rfl (cellsW 0) (by first | exact hBn.out | (simp only [List.map_toArray, List.map_cons, List.map_nil]; exact hBn.out)) rfl ?_; simp only [Act.put, List.setIfInBounds_toArray, List.set_cons_zero, List.set_cons_succ]) | go_big_quiet_step (first | (go_at_call 94; with_reducible refine Calls.ext_of (hM1.out _)) | (go_at_call 95; with_reducible refine Calls.ext_of (hAd.out _))))); refine wpQuiet_nil ?_; rintro _ ⟨xw, rfl⟩)
    have hXa := hid (hX8.out.ext xw)
    have hCa := hid (hC8.out.ext xw)
    have hba := World.ext_below_of hb8 hb8.size xw
    generalize w8.ext xw = wa at hXa hCa hba ⊢
    clear hX8 hA8 hC8 hb8 hM1 he1
    cases ok
    · have HR0 := hid (show X = 0 from HRX.out)
      go_wp2_with (refine wpList_buildStore 24 _ (.tmp 2) 47 (cellsW 0) _ rfl rfl rfl rfl rfl rfl (by simp) (by first | exact hBn.out | (simp only [List.map_toArray, List.map_cons, List.map_nil]; exact hBn.out)) rfl 24 _ hCa.out iZ.out rfl nZ.out ?_; simp only [Act.put, List.setIfInBounds_toArray, List.set_cons_zero, List.set_cons_succ])
      refine bodyPost_ret (results_row_tmp rfl _ _ (w.heap.size + 1) 24 (cellsW 0) (0, 0) _ rfl (heap_setRow' _ _ _ _ _ hCa.out) uWd rfl iZ.out) rfl ⟨by rw [HR0.out]; rfl, below_setRow' hba _ (by omega) _⟩
    · have cX := hXa.out.cell 0 (by omega)
      have lX := hXa.out.lt
      have hpar := Hpar.out
      rcases (show x1 % 2 = 0 ∨ x1 % 2 = 1 by omega) with hp0 | hp1
      · have HR0 := hid (show X = x1 by have := HRX.out; rw [if_pos rfl, if_neg (by omega)] at this; exact this)
        rw [hp0] at hpar
        clear hp0
        go_wp2_with (first | (refine wpList_load_row rfl 24 (.tmp 6) rfl G rfl 24 _ (0, 0) _ hXa.out uWd rfl iX1.out ?_; simp only [Act.put, List.setIfInBounds_toArray, List.set_cons_zero, List.set_cons_succ]) | (refine wpList_store_row rfl 24 (.tmp 2) (.tmp 55) rfl (w.heap.size + 1) _ rfl rfl 24 _ hCa.out iX1.out rfl nX1.out ?_; simp only [Act.put]))
        refine bodyPost_ret (results_row_tmp rfl _ _ (w.heap.size + 1) 24 (cellsW x1) (0, 0) _ rfl (heap_setRow' _ _ _ _ _ hCa.out) uWd rfl iX1.out) rfl ⟨by rw [HR0.out]; rfl, below_setRow' hba _ (by omega) _⟩
      · have HR0 := hid (show X = n1 by have := HRX.out; rw [if_pos rfl, if_pos hp1] at this; exact this)
        have hSb1 := hid (hSb.out (by omega))
        rw [hp1] at hpar
        clear hp1
        go_wp2_with (first | (refine wpList_build_cells rfl 24 _ rfl (cellsW 0) (by first | exact hBn.out | (simp only [List.map_toArray, List.map_cons, List.map_nil]; exact hBn.out)) ?_; simp only [Act.put, List.setIfInBounds_toArray, List.set_cons_zero, List.set_cons_succ]) | (refine wpList_load_row rfl 24 (.tmp 6) rfl G rfl 24 _ (0, 0) _ hXa.out uWd rfl iX1.out ?_; simp only [Act.put, List.setIfInBounds_toArray, List.set_cons_zero, List.set_cons_succ]))
        refine (hSb1.out _).mono ?_
        rintro e wb ⟨rfl, hsb⟩
        have hXb := hid (hXa.out.step hsb)
        have hCb := hid ((hCa.out.step hsb).otherRow (show w.heap.size + 1 ≠ G by omega) (cellsW n1))
        have hbb := hba.trans (hsb.mono hba.size)
        have hXd := hid (hXb.out.row n1)
        have hbd := below_setRow' hbb G (by omega) (cellsW n1)
        clear hXa hCa hba hsb
        go_wp2_with (first | (refine wpList_store_row rfl 24 (.tmp 6) (.tmp 54) rfl G _ rfl rfl 24 _ hXb.out iN1.out rfl nN1.out ?_; simp only [Act.put]) | (refine wpList_load_row rfl 24 (.tmp 6) rfl G rfl 24 _ (0, 0) _ hXd.out uWd rfl iN1.out ?_; simp only [Act.put, List.setIfInBounds_toArray, List.set_cons_zero, List.set_cons_succ]) | (refine wpList_store_row rfl 24 (.tmp 2) (.tmp 55) rfl (w.heap.size + 1) _ rfl rfl 24 _ hCb.out iN1.out rfl nN1.out ?_; simp only [Act.put]))
        refine bodyPost_ret (results_row_tmp rfl _ _ (w.heap.size + 1) 24 (cellsW n1) (0, 0) _ rfl (heap_setRow' _ _ _ _ _ hCb.out) uWd rfl iN1.out) rfl ⟨by rw [HR0.out]; rfl, below_setRow' hbd _ (by omega) _⟩
  · have hxe := HX1.out h0
    rw [decide_eq_false h0] at he0
    subst hxe
    clear h0 HX0 HX1
    go_wp2_with fail
    ((try simp only [World.size_alloc]); refine wp_region_ext (by kernel_rfl) (by kernel_rfl) ?_; (try simp only [List.append_eq, List.cons_append, List.nil_append]); (repeat (first | (refine wpQuiet_load_want 24 (.tmp 6) rfl G rfl 24 (cellsW _) _ hX7.out uWd rfl iX0.out rfl ?_; simp only [Act.put, List.setIfInBounds_toArray, List.set_cons_zero, List.set_cons_succ]) | (refine wpQuiet_load_want 24 (.tmp 1) rfl w.heap.size rfl 24 (cellsW _) _ hA7.out uWd rfl iA.out rfl ?_; simp only [Act.put, List.setIfInBounds_toArray, List.set_cons_zero, List.set_cons_succ]) | (refine wpQuiet_build_want 24 _ rfl (cellsW 0) (by first | exact hBn.out | (simp only [List.map_toArray, List.map_cons, List.map_nil]; exact hBn.out)) rfl ?_; simp only [Act.put, List.setIfInBounds_toArray, List.set_cons_zero, List.set_cons_succ]) | go_big_quiet_step (first | (go_at_call 94; with_reducible refine Calls.ext_of (hM0.out _)) | (go_at_call 95; with_reducible refine Calls.ext_of (hAd.out _))))); refine wpQuiet_nil ?_; rintro _ ⟨xw, rfl⟩)
    have hX8 := hid (hX7.out.ext xw)
    have hA8 := hid (hA7.out.ext xw)
    have hC8 := hid (hC7.out.ext xw)
    have hb8 := World.ext_below_of hb7 hb7.size xw
    generalize w7.ext xw = w8 at hX8 hA8 hC8 hb8 ⊢
    clear hX7 hA7 hC7 hb7 hM0 he0
    go_wp2_with fail
    refine (hP.out _).mono ?_
    rintro e w9 ⟨v9, rfl, hr9, hs9⟩
    go_wp2_with fail
    have hs10 := below_alloc w9 (.cells #[.int .i64 4] 3)
    have hr10 := hl4.out w9
    refine (hQ4.out _ _ _ (hr9.below hs10) hr10).mono ?_
    rintro e w11 ⟨v11, v11', rfl, hr11, hr11', hs11⟩
    have hX9 := hid (((hX8.out.step hs9).step hs10).step hs11)
    have hA9 := hid (((hA8.out.step hs9).step hs10).step hs11)
    have hC9 := hid (((hC8.out.step hs9).step hs10).step hs11)
    have hb9 := hb8.trans ((below_next (below_next hs9 (Nat.le_refl _) hs10) (Nat.le_refl _) hs11).mono hb8.size)
    have hR11 := hid hr11
    clear hX8 hA8 hC8 hb8 hr9 hr10 hr11 hr11' hs9 hs10 hs11 hQ4 hP
    go_wp2_with fail
    ((try simp only [World.size_alloc]); refine wp_region_ext_tail 6 (by kernel_rfl) (by kernel_rfl) ?_; simp only [List.take_succ_cons, List.take_zero, List.drop_succ_cons, List.drop_zero]; (repeat (first | (refine wpQuiet_load_want 24 (.tmp 6) rfl G rfl 24 (cellsW _) _ hX9.out uWd rfl iX0.out rfl ?_; simp only [Act.put, List.setIfInBounds_toArray, List.set_cons_zero, List.set_cons_succ]) | (refine wpQuiet_build_want 24 _ rfl (cellsW 2) (by first | exact HB2.out | (simp only [List.map_toArray, List.map_cons, List.map_nil]; exact HB2.out)) rfl ?_; simp only [Act.put, List.setIfInBounds_toArray, List.set_cons_zero, List.set_cons_succ]) | go_big_quiet_step (first | (go_at_call 93; with_reducible refine Calls.ext_of (hWd1.out _ _ (hR11.out.ext _))) | (go_at_call 92; with_reducible refine Calls.ext_of (hW2.out _)) | (go_at_call 94; with_reducible refine Calls.ext_of (hM2.out _))))); refine wpQuiet_nil ?_; rintro _ ⟨xw, rfl⟩)
    have hXc := hid (hX9.out.ext xw)
    have hAc := hid (hA9.out.ext xw)
    have hCc := hid (hC9.out.ext xw)
    have hbc := World.ext_below_of hb9 hb9.size xw
    generalize w11.ext xw = wc at hXc hAc hCc hbc ⊢
    clear hX9 hA9 hC9 hb9 hM2 hW2 hWd1 hR11
    (refine wpList_store_row rfl 24 (.tmp 6) (.tmp 39) rfl G _ rfl rfl 24 _ hXc.out iX1.out rfl nX1.out ?_; simp only [Act.put])
    have hX8 := hid (hXc.out.row x1)
    have hA8 := hid (hAc.out.otherRow (show w.heap.size ≠ G by omega) (cellsW x1))
    have hC8 := hid (hCc.out.otherRow (show w.heap.size + 1 ≠ G by omega) (cellsW x1))
    have hb8 := below_setRow' hbc G (by omega) (cellsW x1)
    generalize wc.setRow G (cellsW x1) = w8 at hX8 hA8 hC8 hb8 ⊢
    clear hXc hAc hCc hbc
    have he1 := He1.out
    go_wp2_with fail
    ((try simp only [World.size_alloc]); refine wp_region_ext (by kernel_rfl) (by kernel_rfl) ?_; (try simp only [List.append_eq, List.cons_append, List.nil_append]); (repeat (first | (refine wpQuiet_load_want 24 (.tmp 6) rfl G rfl 24 (cellsW _) _ hX8.out uWd rfl iX1.out rfl ?_; simp only [Act.put, List.setIfInBounds_toArray, List.set_cons_zero, List.set_cons_succ]) | (refine wpQuiet_load_want 24 (.tmp 1) rfl w.heap.size rfl 24 (cellsW _) _ hA8.out uWd rfl iA.out rfl ?_; simp only [Act.put, List.setIfInBounds_toArray, List.set_cons_zero, List.set_cons_succ]) | (refine wpQuiet_build_want 24 _ rfl (cellsW 0) (by first | exact hBn.out | (simp only [List.map_toArray, List.map_cons, List.map_nil]; exact hBn.out)) rfl ?_; simp only [Act.put, List.setIfInBounds_toArray, List.set_cons_zero, List.set_cons_succ]) | go_big_quiet_step (first | (go_at_call 94; with_reducible refine Calls.ext_of (hM1.out _)) | (go_at_call 95; with_reducible refine Calls.ext_of (hAd.out _))))); refine wpQuiet_nil ?_; rintro _ ⟨xw, rfl⟩)
    have hXa := hid (hX8.out.ext xw)
    have hCa := hid (hC8.out.ext xw)
    have hba := World.ext_below_of hb8 hb8.size xw
    generalize w8.ext xw = wa at hXa hCa hba ⊢
    clear hX8 hA8 hC8 hb8 hM1 he1
    cases ok
    · have HR0 := hid (show X = 0 from HRX.out)
      go_wp2_with (refine wpList_buildStore 24 _ (.tmp 2) 47 (cellsW 0) _ rfl rfl rfl rfl rfl rfl (by simp) (by first | exact hBn.out | (simp only [List.map_toArray, List.map_cons, List.map_nil]; exact hBn.out)) rfl 24 _ hCa.out iZ.out rfl nZ.out ?_; simp only [Act.put, List.setIfInBounds_toArray, List.set_cons_zero, List.set_cons_succ])
      refine bodyPost_ret (results_row_tmp rfl _ _ (w.heap.size + 1) 24 (cellsW 0) (0, 0) _ rfl (heap_setRow' _ _ _ _ _ hCa.out) uWd rfl iZ.out) rfl ⟨by rw [HR0.out]; rfl, below_setRow' hba _ (by omega) _⟩
    · have cX := hXa.out.cell 0 (by omega)
      have lX := hXa.out.lt
      have hpar := Hpar.out
      rcases (show x1 % 2 = 0 ∨ x1 % 2 = 1 by omega) with hp0 | hp1
      · have HR0 := hid (show X = x1 by have := HRX.out; rw [if_pos rfl, if_neg (by omega)] at this; exact this)
        rw [hp0] at hpar
        clear hp0
        go_wp2_with (first | (refine wpList_load_row rfl 24 (.tmp 6) rfl G rfl 24 _ (0, 0) _ hXa.out uWd rfl iX1.out ?_; simp only [Act.put, List.setIfInBounds_toArray, List.set_cons_zero, List.set_cons_succ]) | (refine wpList_store_row rfl 24 (.tmp 2) (.tmp 55) rfl (w.heap.size + 1) _ rfl rfl 24 _ hCa.out iX1.out rfl nX1.out ?_; simp only [Act.put]))
        refine bodyPost_ret (results_row_tmp rfl _ _ (w.heap.size + 1) 24 (cellsW x1) (0, 0) _ rfl (heap_setRow' _ _ _ _ _ hCa.out) uWd rfl iX1.out) rfl ⟨by rw [HR0.out]; rfl, below_setRow' hba _ (by omega) _⟩
      · have HR0 := hid (show X = n1 by have := HRX.out; rw [if_pos rfl, if_pos hp1] at this; exact this)
        have hSb1 := hid (hSb.out (by omega))
        rw [hp1] at hpar
        clear hp1
        go_wp2_with (first | (refine wpList_build_cells rfl 24 _ rfl (cellsW 0) (by first | exact hBn.out | (simp only [List.map_toArray, List.map_cons, List.map_nil]; exact hBn.out)) ?_; simp only [Act.put, List.setIfInBounds_toArray, List.set_cons_zero, List.set_cons_succ]) | (refine wpList_load_row rfl 24 (.tmp 6) rfl G rfl 24 _ (0, 0) _ hXa.out uWd rfl iX1.out ?_; simp only [Act.put, List.setIfInBounds_toArray, List.set_cons_zero, List.set_cons_succ]))
        refine (hSb1.out _).mono ?_
        rintro e wb ⟨rfl, hsb⟩
        have hXb := hid (hXa.out.step hsb)
        have hCb := hid ((hCa.out.step hsb).otherRow (show w.heap.size + 1 ≠ G by omega) (cellsW n1))
        have hbb := hba.trans (hsb.mono hba.size)
        have hXd := hid (hXb.out.row n1)
        have hbd := below_setRow' hbb G (by omega) (cellsW n1)
        clear hXa hCa hba hsb
        go_wp2_with (first | (refine wpList_store_row rfl 24 (.tmp 6) (.tmp 54) rfl G _ rfl rfl 24 _ hXb.out iN1.out rfl nN1.out ?_; simp only [Act.put]) | (refine wpList_load_row rfl 24 (.tmp 6) rfl G rfl 24 _ (0, 0) _ hXd.out uWd rfl iN1.out ?_; simp only [Act.put, List.setIfInBounds_toArray, List.set_cons_zero, List.set_cons_succ]) | (refine wpList_store_row rfl 24 (.tmp 2) (.tmp 55) rfl (w.heap.size + 1) _ rfl rfl 24 _ hCb.out iN1.out rfl nN1.out ?_; simp only [Act.put]))
        refine bodyPost_ret (results_row_tmp rfl _ _ (w.heap.size + 1) 24 (cellsW n1) (0, 0) _ rfl (heap_setRow' _ _ _ _ _ hCb.out) uWd rfl iN1.out) rfl ⟨by rw [HR0.out]; rfl, below_setRow' hbd _ (by omega) _⟩
end Go.Proofs.Ytfidbiabgmioaaa
