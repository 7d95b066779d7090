import Derived.Great.BuildSlice
import Derived.Laws.IdiomStrings
import Derived.Test.YtejnnghfelpioaaBEdHolds6
set_option maxRecDepth 4000
set_option linter.unusedVariables false
set_option linter.unusedSimpArgs false
namespace Go.Proofs.Ytejnnghfelpioaa
open Go.RowKit
def lowB (k : List (BitVec 8)) : List (BitVec 8) := k.set 31 (ny k 31 &&& 127)
def oddB (k : List (BitVec 8)) : Bool := decide (yv (ny k 31) / 128 = 1)
def decY (k : List (BitVec 8)) : Nat := fdN pN (lowB k)
def decA (k : List (BitVec 8)) : Nat := subP (decY k * decY k % pN) 1 * powP ((dN * (decY k * decY k % pN) % pN + 1) % pN) (pN - 2) % pN
def decB (k : List (BitVec 8)) : Bool := decide (fdE pN (lowB k) = 0) && (sqOk (decA k) && !(oddB k && decide (sqX (decA k) = 0)))
def decP (k : List (BitVec 8)) : P2 := if decB k = true then ⟨if oddB k = true then subP 0 (sqX (decA k)) else sqX (decA k), decY k⟩ else zeroP
def decE (k : List (BitVec 8)) : Int := if decB k = true then 0 else 20
theorem uPe : ∃ d, Try.prog.underlying 44 = some (.struct d) := ⟨_, rfl⟩
theorem yv_shr7 (x : BitVec 8) : yv x / 128 = 0 ∨ yv x / 128 = 1 := by
  have := yv_nonneg x; have := yv_lt x; omega
set_option maxRecDepth 100000 in
set_option maxHeartbeats 4000000 in
theorem dec_any (k : List (BitVec 8)) (w : World) (hk : k.length = 32) : Calls Try.prog 12 #[key k] w fun e w' => e = .returned (.tuple #[pt (decP k), .int .i64 (decE k)]) ∧ Below w.heap.size w w' := by
  have lL : (lowB k).length = 32 := by unfold lowB; rw [List.length_set, hk]
  have hR := hid fun v w h => fRead_any (lowB k) v w h
  have hE2 : fdE pN (lowB k) = 0 ∨ fdE pN (lowB k) = 20 := by unfold fdE; rw [if_pos lL]; split <;> simp
  have hY := hid (show fdN pN (lowB k) = decY k from rfl)
  have hyl : decY k < 2 ^ 256 := fdN_lt _ _
  rw [hY.out] at hR
  have i0 := hid (iK k hk)
  have iL := hid (iK (lowB k) lL)
  have q31 : (cellsY k).setIfInBounds 31 (.int .u8 (yv (ny k 31 &&& 127#8))) = cellsY (lowB k) := by simp [cellsY, lowB, List.map_set]
  have hLow := hid q31
  clear q31
  obtain ⟨w0, hw0, k1, k2, hbl0⟩ := entry2 w 28 (cellsY k) 44 (cellsP zeroP)
  have e31 : (cellsY k)[31]? = some (.int .u8 (yv (ny k 31))) := by simp [cellsY, ny, hk]
  have e15 : bits .and .u8 (yv (ny k 31)) 127 = yv (ny k 31 &&& 127#8) := yv_and (ny k 31) 127
  have hb1 := hid k1
  have hb2 := hid k2
  clear k1 k2
  unfold key pt wd at *
  go_enter Try.func12, Try.ntmps12
  ((repeat ((fail_if_success (with_reducible refine Go.at_region ?_)); go_step)); refine wp_region_lit ?_)
  (refine wpList_box 28 (.tmp 0) rfl rfl (cellsY k) rfl ?_; simp only [Act.put, pvA, pv0, pv1]; (try simp only [World.size_alloc]))
  (refine wpList_alloc_new rfl 44 rfl (cellsP zeroP) zPe ?_; simp only [Act.put, pvA, pv0, pv1]; (try simp only [World.size_alloc]))
  (refine wpList_plain rfl fun K hK => ?_; go_simp; refine hK _ _ ?_; clear hK K; (try simp only [Act.put, pvA, pv0, pv1]))
  refine wpList_nil ?_
  rw [← hw0]
  clear hw0
  ((repeat ((fail_if_success (with_reducible refine Go.at_region ?_)); go_step)); refine wp_region_lit ?_)
  (refine wpList_plain rfl fun K hK => ?_; go_simp; refine hK _ _ ?_; clear hK K; (try simp only [Act.put, pvA, pv0, pv1]))
  (refine wpList_getcell 5 (.tmp 10) rfl rfl w.heap.size 31 rfl (.int .u8 (yv (ny k 31))) (hb1.out.cell 31 _ e31) o8 ?_; simp only [Act.put, pvA, pv0, pv1])
  iterate 2 (refine wpList_plain rfl fun K hK => ?_; go_simp; refine hK _ _ ?_; clear hK K; (try simp only [Act.put, pvA, pv0, pv1]))
  refine wpList_nil ?_
  ((repeat ((fail_if_success (with_reducible refine Go.at_region ?_)); go_step)); refine wp_region_lit ?_)
  (refine wpList_plain rfl fun K hK => ?_; go_simp; refine hK _ _ ?_; clear hK K; (try simp only [Act.put, pvA, pv0, pv1]))
  (refine wpList_getcell 5 (.tmp 13) rfl rfl w.heap.size 31 rfl (.int .u8 (yv (ny k 31))) (hb1.out.cell 31 _ e31) o8 ?_; simp only [Act.put, pvA, pv0, pv1])
  iterate 2 (refine wpList_plain rfl fun K hK => ?_; go_simp; refine hK _ _ ?_; clear hK K; (try simp only [Act.put, pvA, pv0, pv1]))
  (refine wpList_setcell 5 (.tmp 16) (.tmp 15) rfl rfl rfl w.heap.size 31 (.int .u8 (yv (ny k 31 &&& 127#8))) rfl rfl 28 (cellsY k) hb1.out (by rw [size_cellsY, hk]; decide) iOne8 rfl ?_)
  rw [hLow.out]
  refine wpList_nil ?_
  have fb1 := hid (hb1.out.set (cellsY (lowB k)))
  have fb2 := hid (hb2.out.other (b := w.heap.size) (by omega) (cellsY (lowB k)))
  have hbl1 := below_set hbl0 w.heap.size (Nat.le_refl _) (cellsY (lowB k))
  generalize w0.setRow w.heap.size (cellsY (lowB k)) = w1 at fb1 fb2 hbl1 ⊢
  clear hb1 hb2 hbl0 e31 e15 hLow
  have sl18 : ∀ (b : Nat) (w : World), (Instr.sliceAt 28 (.pointer (some ⟨b, 0, none⟩)) none none none).run Try.prog w = .ok (.slice (some ⟨b, 0, none⟩) 32 32) w := fun b w => sl_all uK sY1 b 0 w
  have hRd := hid (show RdY w1 (.slice (some ⟨w.heap.size, 0, none⟩) 32 32) (lowB k) from by
    have := blk_rd fb1.out 0 32 32 (by rw [lL]; decide) (Nat.le_refl _)
    rw [List.drop_zero, List.take_of_length_le (by rw [lL]; exact Nat.le_refl _)] at this; exact this)
  ((repeat ((fail_if_success (with_reducible refine Go.at_region ?_)); go_step)); refine wp_region_lit ?_)
  (refine wpList_plain rfl fun K hK => ?_; go_simp; refine hK _ _ ?_; clear hK K; (try simp only [Act.put, pvA, pv0, pv1]))
  (refine wpList_plain rfl fun K hK => ?_; go_simp; refine (hR.out _ _ hRd.out).mono ?_; rintro _ w2 ⟨rfl, hs2⟩; refine hK _ _ ?_; clear hK K; (try simp only [Act.put, pvA, pv0, pv1]))
  iterate 3 (refine wpList_plain rfl fun K hK => ?_; go_simp; refine hK _ _ ?_; clear hK K; (try simp only [Act.put, pvA, pv0, pv1]))
  obtain ⟨y, hy⟩ : ∃ y, y = decY k := ⟨_, rfl⟩
  obtain ⟨ey, hey⟩ : ∃ ey, ey = fdE pN (lowB k) := ⟨_, rfl⟩
  rw [← hy] at hyl
  rw [← hey] at hE2
  simp only [wd, ← hy, ← hey]
  have Hy := hid hy
  have Hey := hid hey
  have iY := hid (iW y)
  clear hy hey hY hRd hR lL iL sl18
  (refine wpList_new 25 (cellsW 0) rfl rfl zWd ?_; intro G5 w3 hle3 hs3 hn3; (try simp only [Act.put, pvA, pv0, pv1]))
  (refine wpList_set _ _ _ rfl rfl rfl _ _ rfl rfl _ _ hn3 iY.out (by rw [size_cellsW, size_cellsW]) (one_cellsW _) ?_)
  (refine wpList_plain rfl fun K hK => ?_; go_simp; refine hK _ _ ?_; clear hK K; (try simp only [Act.put, pvA, pv0, pv1]))
  refine wpList_nil ?_
  have n5 : w.heap.size + 1 ≠ G5 := by have := fb2.out.lt; have := hs2.size; omega
  have hG5 : w.heap.size ≤ G5 := by have := hbl1.size; have := hs2.size; omega
  have hb2 := hid (((fb2.out.step hs2).step hs3).other n5 (cellsW y))
  have hb5 := hid (hn3.set (cellsW y))
  have hbl := below_set (hbl1.trans ((hs2.trans (hs3.mono hs2.size)).mono hbl1.size)) G5 hG5 (cellsW y)
  generalize w3.setRow G5 (cellsW y) = w4 at hb2 hb5 hbl ⊢
  clear fb1 fb2 hbl1 hs2 hle3 hs3 hn3
  rcases hE2 with hE0 | hE0
  · subst hE0
    have hy2 : y * y % pN < 2 ^ 256 := p_mod_lt _
    have cM := hid fun w => fmul_any y y w hyl hyl
    have hA0 := hid (show decA k = subP (y * y % pN) 1 * powP ((dN * (y * y % pN) % pN + 1) % pN) (pN - 2) % pN by unfold decA; rw [← Hy.out])
    obtain ⟨y2, e2⟩ : ∃ y2, y2 = y * y % pN := ⟨_, rfl⟩
    rw [← e2] at cM hA0 hy2
    clear e2
    have cS := hid fun w => fsub_any y2 1 w hy2 (by decide)
    have cD := hid fun w => d_any w
    have cT := hid fun w => fmul_any dN y2 w dN_lt hy2
    have cAd := hid fun w => fadd_any (dN * y2 % pN) 1 w (p_mod_lt _) (by decide)
    have cI := hid fun w => finv_any ((dN * y2 % pN + 1) % pN) w (p_mod_lt _)
    have cP := hid fun w => fmul_any (subP y2 1) (powP ((dN * y2 % pN + 1) % pN) (pN - 2)) w (p_mod_lt _) (powP_lt _ _)
    have cQ := hid fun w => fsqrt_any (subP y2 1 * powP ((dN * y2 % pN + 1) % pN) (pN - 2) % pN) w (p_mod_lt _)
    rw [← hA0.out] at cP cQ
    have hxl : sqX (decA k) < 2 ^ 256 := by
      unfold sqX
      split
      · split
        · have := sq1_lt (decA k); have := pN_lt; omega
        · exact Nat.lt_trans (sq1_lt _) pN_lt
      · decide
    obtain ⟨a, ha⟩ : ∃ a, a = decA k := ⟨_, rfl⟩
    rw [← ha] at cP cQ hxl
    have HA := hid ha
    obtain ⟨x, hx⟩ : ∃ x, x = sqX a := ⟨_, rfl⟩
    obtain ⟨b, hb⟩ : ∃ b, b = sqOk a := ⟨_, rfl⟩
    rw [← hx] at cQ hxl
    rw [← hb] at cQ
    have HX := hid hx
    have HB := hid hb
    have hq := eq_wd x 0 hxl (by decide)
    have cN := hid fun w => fsub_any 0 x w (by decide) hxl
    have bN := hid nil_built
    have b1 := hid one_built
    clear ha hx hb hA0 hy2 hyl
    generalize powP ((dN * y2 % pN + 1) % pN) (pN - 2) = t37 at cI cP
    generalize (dN * y2 % pN + 1) % pN = t36 at cAd cI
    generalize dN * y2 % pN = t34 at cT cAd
    generalize subP y2 1 = t31 at cS cP
    generalize dN = dn at cD cT
    unfold wd at *
    have iY2 := hid (iW y2)
    have iX := hid (iW x)
    ((repeat ((fail_if_success (with_reducible refine Go.at_region ?_)); go_step)); refine wp_region_lit ?_)
    iterate 2 (refine wpList_plain rfl fun K hK => ?_; go_simp; refine hK _ _ ?_; clear hK K; (try simp only [Act.put, pvA, pv0, pv1]))
    refine wpList_nil ?_
    ((repeat ((fail_if_success (with_reducible refine Go.at_region ?_)); go_step)); refine wp_region_lit ?_)
    iterate 2 (refine wpList_get _ _ rfl rfl _ rfl _ _ hb5.out gWd (iW y) ?_; simp only [Act.put, pvA, pv0, pv1])
    (refine wpList_plain rfl fun K hK => ?_; go_simp; refine (cM.out _).mono ?_; rintro _ w5 ⟨rfl, hs5⟩; refine hK _ _ ?_; clear hK K; (try simp only [Act.put, pvA, pv0, pv1]))
    (refine wpList_new 25 (cellsW 0) rfl rfl zWd ?_; intro G7 w6 hle6 hs6 hn6; (try simp only [Act.put, pvA, pv0, pv1]))
    (refine wpList_set _ _ _ rfl rfl rfl _ _ rfl rfl _ _ hn6 iY2.out (by rw [size_cellsW, size_cellsW]) (one_cellsW _) ?_)
    refine wpList_nil ?_
    have n71 : w.heap.size + 1 ≠ G7 := by have := hb2.out.lt; have := hs5.size; omega
    have n75 : G5 ≠ G7 := by have := hb5.out.lt; have := hs5.size; omega
    have hG7 : w.heap.size ≤ G7 := by have := hbl.size; have := hs5.size; omega
    have fb2 := hid (((hb2.out.step hs5).step hs6).other n71 (cellsW y2))
    have fb5 := hid (((hb5.out.step hs5).step hs6).other n75 (cellsW y2))
    have fb7 := hid (hn6.set (cellsW y2))
    have hbl2 := below_set (hbl.trans ((hs5.trans (hs6.mono hs5.size)).mono hbl.size)) G7 hG7 (cellsW y2)
    generalize w6.setRow G7 (cellsW y2) = w7 at fb2 fb5 fb7 hbl2 ⊢
    clear hs5 hs6 hle6 hn6 hb2 hb5 hbl cM
    (repeat ((fail_if_success (with_reducible refine Go.at_region ?_)); go_step))
    refine draw_float1 14 13 rfl 25 (cellsW 0) 8 rfl rfl rfl (by simp) zWd (by kernel_rfl) (by kernel_rfl) (by kernel_rfl) rfl rfl rfl rfl rfl rfl (by simp) (by simp) rfl rfl rfl rfl ?_
    simp only [List.take_succ_cons, List.take_zero]
    (refine calm_whole rfl _ _ rfl _ rfl _ _ fb7.out gWd iY2.out ?_; simp only [Act.put, pvA, pv0, pv1])
    (refine calm_build rfl 25 _ rfl (cellsW 1) (by first | (simp only [List.map_toArray, List.map_cons, List.map_nil]; exact b1.out) | exact b1.out) ?_; simp only [Act.put, pvA, pv0, pv1])
    (apply calm_on rfl; (focus (intro W hB; go_simp; refine (cS.out W).mono ?_; rintro _ _ ⟨rfl, hb'⟩; exact ⟨rfl, hb'⟩)); simp only [Act.put, pvA, pv0, pv1])
    (apply calm_on rfl; (focus (intro W hB; go_simp; refine (cD.out W).mono ?_; rintro _ _ ⟨rfl, hb'⟩; exact ⟨rfl, hb'⟩)); simp only [Act.put, pvA, pv0, pv1])
    (refine calm_whole rfl _ _ rfl _ rfl _ _ fb7.out gWd iY2.out ?_; simp only [Act.put, pvA, pv0, pv1])
    (apply calm_on rfl; (focus (intro W hB; go_simp; refine (cT.out W).mono ?_; rintro _ _ ⟨rfl, hb'⟩; exact ⟨rfl, hb'⟩)); simp only [Act.put, pvA, pv0, pv1])
    (refine calm_build rfl 25 _ rfl (cellsW 1) (by first | (simp only [List.map_toArray, List.map_cons, List.map_nil]; exact b1.out) | exact b1.out) ?_; simp only [Act.put, pvA, pv0, pv1])
    (apply calm_on rfl; (focus (intro W hB; go_simp; refine (cAd.out W).mono ?_; rintro _ _ ⟨rfl, hb'⟩; exact ⟨rfl, hb'⟩)); simp only [Act.put, pvA, pv0, pv1])
    (apply calm_on rfl; (focus (intro W hB; go_simp; refine (cI.out W).mono ?_; rintro _ _ ⟨rfl, hb'⟩; exact ⟨rfl, hb'⟩)); simp only [Act.put, pvA, pv0, pv1])
    (apply calm_on rfl; (focus (intro W hB; go_simp; refine (cP.out W).mono ?_; rintro _ _ ⟨rfl, hb'⟩; exact ⟨rfl, hb'⟩)); simp only [Act.put, pvA, pv0, pv1])
    (apply calm_on rfl; (focus (intro W hB; go_simp; refine (cQ.out W).mono ?_; rintro _ _ ⟨rfl, hb'⟩; exact ⟨rfl, hb'⟩)); simp only [Act.put, pvA, pv0, pv1])
    iterate 3 (apply calm_on rfl; (focus (intro W hB; go_simp; exact ⟨rfl, Below.refl _ _⟩)); simp only [Act.put, pvA, pv0, pv1])
    refine calm_nil ?_
    intro G8 w8 hle8 hx8 hn8
    (try simp only [Act.put, pvA, pv0, pv1])
    have n81 : w.heap.size + 1 ≠ G8 := by have := fb2.out.lt; omega
    have n85 : G5 ≠ G8 := by have := fb5.out.lt; omega
    have hG8 : w.heap.size ≤ G8 := Nat.le_trans hbl2.size hle8
    (refine wp_store_row 25 (.tmp 8) (.tmp 40) rfl G8 (cellsW x) rfl rfl 25 (cellsW 0) hn8 iX.out (by rw [size_cellsW, size_cellsW]) (one_cellsW _) ?_; (try simp only [Act.put, pvA, pv0, pv1]))
    (refine wpList_plain rfl fun K hK => ?_; go_simp; refine hK _ _ ?_; clear hK K; (try simp only [Act.put, pvA, pv0, pv1]))
    refine wpList_nil ?_
    have hb2 := hid ((fb2.out.step hx8).other n81 (cellsW x))
    have hb5 := hid ((fb5.out.step hx8).other n85 (cellsW x))
    have hb8 := hid (hn8.set (cellsW x))
    have hbl3 := below_set (hbl2.trans (hx8.mono hbl2.size)) G8 hG8 (cellsW x)
    generalize w8.setRow G8 (cellsW x) = w9 at hb2 hb5 hb8 hbl3 ⊢
    clear fb2 fb5 fb7 hbl2 hle8 hx8 hn8 cS cD cT cAd cI cP cQ
    have hDB := hid (show decB k = (b && !(oddB k && decide (x = 0))) by unfold decB; rw [← Hey.out, ← HA.out, ← HB.out, ← HX.out]; rfl)
    have hDP := hid (show decP k = if decB k = true then ⟨if oddB k = true then subP 0 x else x, y⟩ else zeroP by unfold decP; rw [← HA.out, ← HX.out, ← Hy.out])
    have hOd := hid (show oddB k = decide (yv (ny k 31) / 128 = 1) from rfl)
    have hs := yv_shr7 (ny k 31)
    obtain ⟨od, hod⟩ : ∃ od, od = yv (ny k 31) / 128 := ⟨_, rfl⟩
    rw [← hod] at hOd hs ⊢
    clear hod Hey HA HB HX Hy
    cases b with
    | false =>
      have hD0 : decB k = false := by rw [hDB.out]; rfl
      have hE20 := hid (show decE k = 20 by unfold decE; rw [hD0]; rfl)
      have hP0 := hid (show decP k = zeroP by rw [hDP.out, hD0]; rfl)
      clear hD0 hs
      (repeat ((fail_if_success (with_reducible refine Go.at_region ?_)); go_step))
      refine list_all ?_
      iterate 3 (apply calm_on rfl; (focus (intro W hB; go_simp; exact ⟨rfl, Below.refl _ _⟩)); simp only [Act.put, pvA, pv0, pv1])
      iterate 7 (refine calm_off rfl ?_; simp only [Act.put, pvA, pv0, pv1])
      (apply calm_on rfl; (focus (intro W hB; go_simp; exact ⟨rfl, Below.refl _ _⟩)); simp only [Act.put, pvA, pv0, pv1])
      refine calm_nil ?_
      intro w10 hs10
      have fb2 := hid (hb2.out.step hs10)
      have fb5 := hid (hb5.out.step hs10)
      have fb8 := hid (hb8.out.step hs10)
      have hbl4 := hbl3.trans (hs10.mono hbl3.size)
      clear hb2 hb5 hb8 hbl3 hs10
      ((repeat ((fail_if_success (with_reducible refine Go.at_region ?_)); go_step)); refine wp_region_lit ?_)
      (refine wpList_built rfl 44 _ rfl (cellsP zeroP) (by first | (simp only [List.map_toArray, List.map_cons, List.map_nil]; exact bzPe) | exact bzPe) ?_; simp only [Act.put, pvA, pv0, pv1])
      (refine wpList_set _ _ _ rfl rfl rfl _ _ rfl rfl _ _ fb2.out (iPe zeroP) rfl (one_cellsP _) ?_)
      (refine wpList_plain rfl fun K hK => ?_; go_simp; refine hK _ _ ?_; clear hK K; (try simp only [Act.put, pvA, pv0, pv1]))
      refine wpList_nil ?_
      have kb := fb2.out.set (cellsP zeroP)
      have hbe := below_set hbl4 (w.heap.size + 1) (by omega) (cellsP zeroP)
      obtain ⟨d, hd⟩ := uPe
      (repeat ((fail_if_success (with_reducible refine Go.at_region ?_)); go_step))
      refine bodyPost_ret (results_row_tmp rfl _ _ (w.heap.size + 1) 44 (cellsP zeroP) (0, 0) _ rfl kb hd rfl (iPe zeroP)) rfl ⟨by rw [hP0.out, hE20.out]; rfl, hbe⟩
    | true =>
      rcases hs with rfl | rfl
      · have hO0 : oddB k = false := by rw [hOd.out]; rfl
        have hD0 : decB k = true := by rw [hDB.out, hO0]; rfl
        have hE0 := hid (show decE k = 0 by unfold decE; rw [hD0]; rfl)
        have hPX := hid (show decP k = ⟨x, y⟩ by rw [hDP.out, hD0, hO0]; rfl)
        clear hD0 hO0
        (repeat ((fail_if_success (with_reducible refine Go.at_region ?_)); go_step))
        refine list_all ?_
        iterate 6 (apply calm_on rfl; (focus (intro W hB; go_simp; exact ⟨rfl, Below.refl _ _⟩)); simp only [Act.put, pvA, pv0, pv1])
        iterate 3 (refine calm_off rfl ?_; simp only [Act.put, pvA, pv0, pv1])
        iterate 2 (apply calm_on rfl; (focus (intro W hB; go_simp; exact ⟨rfl, Below.refl _ _⟩)); simp only [Act.put, pvA, pv0, pv1])
        refine calm_nil ?_
        intro w10 hs10
        have fb2 := hid (hb2.out.step hs10)
        have fb5 := hid (hb5.out.step hs10)
        have fb8 := hid (hb8.out.step hs10)
        have hbl4 := hbl3.trans (hs10.mono hbl3.size)
        clear hb2 hb5 hb8 hbl3 hs10
        ((repeat ((fail_if_success (with_reducible refine Go.at_region ?_)); go_step)); refine wp_region_lit ?_)
        iterate 2 (refine wpList_plain rfl fun K hK => ?_; go_simp; refine hK _ _ ?_; clear hK K; (try simp only [Act.put, pvA, pv0, pv1]))
        refine wpList_nil ?_
        have gb2 := fb2
        have gb5 := fb5
        have gb8 := fb8
        have hbl5 := hbl4
        ((repeat ((fail_if_success (with_reducible refine Go.at_region ?_)); go_step)); refine wp_region_lit ?_)
        (refine wpList_get _ _ rfl rfl _ rfl _ _ gb8.out gWd (iW _) ?_; simp only [Act.put, pvA, pv0, pv1])
        (refine wpList_get _ _ rfl rfl _ rfl _ _ gb5.out gWd (iW y) ?_; simp only [Act.put, pvA, pv0, pv1])
        (refine wpList_built rfl 44 _ rfl (cellsP ⟨x, y⟩) (by first | (simp only [List.map_toArray, List.map_cons, List.map_nil]; exact (bPe _ _)) | exact (bPe _ _)) ?_; simp only [Act.put, pvA, pv0, pv1])
        (refine wpList_set _ _ _ rfl rfl rfl _ _ rfl rfl _ _ gb2.out (iPe _) rfl (one_cellsP _) ?_)
        (refine wpList_plain rfl fun K hK => ?_; go_simp; refine hK _ _ ?_; clear hK K; (try simp only [Act.put, pvA, pv0, pv1]))
        refine wpList_nil ?_
        have kb := gb2.out.set (cellsP ⟨x, y⟩)
        have hbe := below_set hbl5 (w.heap.size + 1) (by omega) (cellsP ⟨x, y⟩)
        obtain ⟨d, hd⟩ := uPe
        (repeat ((fail_if_success (with_reducible refine Go.at_region ?_)); go_step))
        refine bodyPost_ret (results_row_tmp rfl _ _ (w.heap.size + 1) 44 (cellsP ⟨x, y⟩) (0, 0) _ rfl kb hd rfl (iPe _)) rfl ⟨by rw [hPX.out, hE0.out]; rfl, hbe⟩
      · have hO1 : oddB k = true := by rw [hOd.out]; rfl
        by_cases hx0 : x = 0
        · have hD0 : decB k = false := by rw [hDB.out, hO1, decide_eq_true hx0]; rfl
          have hE20 := hid (show decE k = 20 by unfold decE; rw [hD0]; rfl)
          have hP0 := hid (show decP k = zeroP by rw [hDP.out, hD0]; rfl)
          rw [decide_eq_true hx0] at hq
          clear hD0 hO1 hx0
          (repeat ((fail_if_success (with_reducible refine Go.at_region ?_)); go_step))
          refine list_all ?_
          iterate 6 (apply calm_on rfl; (focus (intro W hB; go_simp; exact ⟨rfl, Below.refl _ _⟩)); simp only [Act.put, pvA, pv0, pv1])
          (refine calm_whole rfl _ _ rfl _ rfl _ _ hb8.out gWd iX.out ?_; simp only [Act.put, pvA, pv0, pv1])
          (refine calm_build rfl 25 _ rfl (cellsW 0) (by first | (simp only [List.map_toArray, List.map_cons, List.map_nil]; exact bN.out) | exact bN.out) ?_; simp only [Act.put, pvA, pv0, pv1])
          iterate 3 (apply calm_on rfl; (focus (intro W hB; go_simp; exact ⟨rfl, Below.refl _ _⟩)); simp only [Act.put, pvA, pv0, pv1])
          refine calm_nil ?_
          intro w10 hs10
          have fb2 := hid (hb2.out.step hs10)
          have fb5 := hid (hb5.out.step hs10)
          have fb8 := hid (hb8.out.step hs10)
          have hbl4 := hbl3.trans (hs10.mono hbl3.size)
          clear hb2 hb5 hb8 hbl3 hs10
          ((repeat ((fail_if_success (with_reducible refine Go.at_region ?_)); go_step)); refine wp_region_lit ?_)
          (refine wpList_built rfl 44 _ rfl (cellsP zeroP) (by first | (simp only [List.map_toArray, List.map_cons, List.map_nil]; exact bzPe) | exact bzPe) ?_; simp only [Act.put, pvA, pv0, pv1])
          (refine wpList_set _ _ _ rfl rfl rfl _ _ rfl rfl _ _ fb2.out (iPe zeroP) rfl (one_cellsP _) ?_)
          (refine wpList_plain rfl fun K hK => ?_; go_simp; refine hK _ _ ?_; clear hK K; (try simp only [Act.put, pvA, pv0, pv1]))
          refine wpList_nil ?_
          have kb := fb2.out.set (cellsP zeroP)
          have hbe := below_set hbl4 (w.heap.size + 1) (by omega) (cellsP zeroP)
          obtain ⟨d, hd⟩ := uPe
          (repeat ((fail_if_success (with_reducible refine Go.at_region ?_)); go_step))
          refine bodyPost_ret (results_row_tmp rfl _ _ (w.heap.size + 1) 44 (cellsP zeroP) (0, 0) _ rfl kb hd rfl (iPe zeroP)) rfl ⟨by rw [hP0.out, hE20.out]; rfl, hbe⟩
        · have hD0 : decB k = true := by rw [hDB.out, hO1, decide_eq_false hx0]; rfl
          have hE0 := hid (show decE k = 0 by unfold decE; rw [hD0]; rfl)
          have hPX := hid (show decP k = ⟨subP 0 x, y⟩ by rw [hDP.out, hD0, hO1]; rfl)
          rw [decide_eq_false hx0] at hq
          clear hD0 hO1 hx0
          obtain ⟨X, hX⟩ : ∃ X, X = subP 0 x := ⟨_, rfl⟩
          rw [← hX] at hPX cN
          clear hX
          (repeat ((fail_if_success (with_reducible refine Go.at_region ?_)); go_step))
          refine list_all ?_
          iterate 6 (apply calm_on rfl; (focus (intro W hB; go_simp; exact ⟨rfl, Below.refl _ _⟩)); simp only [Act.put, pvA, pv0, pv1])
          (refine calm_whole rfl _ _ rfl _ rfl _ _ hb8.out gWd iX.out ?_; simp only [Act.put, pvA, pv0, pv1])
          (refine calm_build rfl 25 _ rfl (cellsW 0) (by first | (simp only [List.map_toArray, List.map_cons, List.map_nil]; exact bN.out) | exact bN.out) ?_; simp only [Act.put, pvA, pv0, pv1])
          iterate 3 (apply calm_on rfl; (focus (intro W hB; go_simp; exact ⟨rfl, Below.refl _ _⟩)); simp only [Act.put, pvA, pv0, pv1])
          refine calm_nil ?_
          intro w10 hs10
          have fb2 := hid (hb2.out.step hs10)
          have fb5 := hid (hb5.out.step hs10)
          have fb8 := hid (hb8.out.step hs10)
          have hbl4 := hbl3.trans (hs10.mono hbl3.size)
          clear hb2 hb5 hb8 hbl3 hs10
          ((repeat ((fail_if_success (with_reducible refine Go.at_region ?_)); go_step)); refine wp_region_lit ?_)
          iterate 2 (refine wpList_plain rfl fun K hK => ?_; go_simp; refine hK _ _ ?_; clear hK K; (try simp only [Act.put, pvA, pv0, pv1]))
          refine wpList_nil ?_
          ((repeat ((fail_if_success (with_reducible refine Go.at_region ?_)); go_step)); refine wp_region_lit ?_)
          (refine wpList_built rfl 25 _ rfl (cellsW 0) (by first | (simp only [List.map_toArray, List.map_cons, List.map_nil]; exact bN.out) | exact bN.out) ?_; simp only [Act.put, pvA, pv0, pv1])
          (refine wpList_get _ _ rfl rfl _ rfl _ _ fb8.out gWd iX.out ?_; simp only [Act.put, pvA, pv0, pv1])
          (refine wpList_plain rfl fun K hK => ?_; go_simp; refine (cN.out _).mono ?_; rintro _ w11 ⟨rfl, hs11⟩; refine hK _ _ ?_; clear hK K; (try simp only [Act.put, pvA, pv0, pv1]))
          have hz8 := hid (fb8.out.step hs11)
          (refine wpList_set _ _ _ rfl rfl rfl _ _ rfl rfl _ _ hz8.out (iW X) (by rw [size_cellsW, size_cellsW]) (one_cellsW _) ?_)
          refine wpList_nil ?_
          have n85' : G5 ≠ G8 := n85
          have gb2 := hid ((fb2.out.step hs11).other n81 (cellsW X))
          have gb5 := hid ((fb5.out.step hs11).other n85 (cellsW X))
          have gb8 := hid (hz8.out.set (cellsW X))
          have hbl5 := below_set (hbl4.trans (hs11.mono hbl4.size)) G8 hG8 (cellsW X)
          generalize w11.setRow G8 (cellsW X) = w12 at gb2 gb5 gb8 hbl5 ⊢
          clear fb2 fb5 fb8 hbl4 hs11 hz8
          ((repeat ((fail_if_success (with_reducible refine Go.at_region ?_)); go_step)); refine wp_region_lit ?_)
          (refine wpList_get _ _ rfl rfl _ rfl _ _ gb8.out gWd (iW _) ?_; simp only [Act.put, pvA, pv0, pv1])
          (refine wpList_get _ _ rfl rfl _ rfl _ _ gb5.out gWd (iW y) ?_; simp only [Act.put, pvA, pv0, pv1])
          (refine wpList_built rfl 44 _ rfl (cellsP ⟨X, y⟩) (by first | (simp only [List.map_toArray, List.map_cons, List.map_nil]; exact (bPe _ _)) | exact (bPe _ _)) ?_; simp only [Act.put, pvA, pv0, pv1])
          (refine wpList_set _ _ _ rfl rfl rfl _ _ rfl rfl _ _ gb2.out (iPe _) rfl (one_cellsP _) ?_)
          (refine wpList_plain rfl fun K hK => ?_; go_simp; refine hK _ _ ?_; clear hK K; (try simp only [Act.put, pvA, pv0, pv1]))
          refine wpList_nil ?_
          have kb := gb2.out.set (cellsP ⟨X, y⟩)
          have hbe := below_set hbl5 (w.heap.size + 1) (by omega) (cellsP ⟨X, y⟩)
          obtain ⟨d, hd⟩ := uPe
          (repeat ((fail_if_success (with_reducible refine Go.at_region ?_)); go_step))
          refine bodyPost_ret (results_row_tmp rfl _ _ (w.heap.size + 1) 44 (cellsP ⟨X, y⟩) (0, 0) _ rfl kb hd rfl (iPe _)) rfl ⟨by rw [hPX.out, hE0.out]; rfl, hbe⟩
  · subst hE0
    have hE20 := hid (show decE k = 20 by unfold decE decB; rw [← Hey.out]; rfl)
    have hP0 := hid (show decP k = zeroP by unfold decP decB; rw [← Hey.out]; rfl)
    ((repeat ((fail_if_success (with_reducible refine Go.at_region ?_)); go_step)); refine wp_region_lit ?_)
    iterate 2 (refine wpList_plain rfl fun K hK => ?_; go_simp; refine hK _ _ ?_; clear hK K; (try simp only [Act.put, pvA, pv0, pv1]))
    refine wpList_nil ?_
    ((repeat ((fail_if_success (with_reducible refine Go.at_region ?_)); go_step)); refine wp_region_lit ?_)
    (refine wpList_built rfl 44 _ rfl (cellsP zeroP) (by first | (simp only [List.map_toArray, List.map_cons, List.map_nil]; exact bzPe) | exact bzPe) ?_; simp only [Act.put, pvA, pv0, pv1])
    (refine wpList_set _ _ _ rfl rfl rfl _ _ rfl rfl _ _ hb2.out (iPe zeroP) rfl (one_cellsP _) ?_)
    (refine wpList_plain rfl fun K hK => ?_; go_simp; refine hK _ _ ?_; clear hK K; (try simp only [Act.put, pvA, pv0, pv1]))
    refine wpList_nil ?_
    have kb := hb2.out.set (cellsP zeroP)
    have hbe := below_set hbl (w.heap.size + 1) (by omega) (cellsP zeroP)
    obtain ⟨d, hd⟩ := uPe
    (repeat ((fail_if_success (with_reducible refine Go.at_region ?_)); go_step))
    refine bodyPost_ret (results_row_tmp rfl _ _ (w.heap.size + 1) 44 (cellsP zeroP) (0, 0) _ rfl kb hd rfl (iPe zeroP)) rfl ⟨by rw [hP0.out, hE20.out]; rfl, hbe⟩
end Go.Proofs.Ytejnnghfelpioaa
namespace Go
open Go.RowKit
section
variable {P : Program}
theorem cells_one {v : Value} (h : v.oneCell' = true) : v.cells = #[v] := by cases v <;> first | rfl | cases h
theorem run_ones {t e : TypeId} {z : Value} (hu : P.underlying t = some (.slice e)) (hi : (P.info? e).map (fun i => (i.zero, i.size)) = some (some z, 1)) (hz : z.oneCell' = true) :
    (∀ (x y : Value) (w : World), x.oneCell' = true → y.oneCell' = true → (Instr.buildSlice t 2 #[(0, x), (1, y)]).run P w = .ok (.slice (some ⟨w.heap.size, 0, none⟩) 2 2) (w.alloc (.cells #[x, y] e))) ∧
    (∀ (x y u : Value) (w : World), x.oneCell' = true → y.oneCell' = true → u.oneCell' = true → (Instr.buildSlice t 3 #[(0, x), (1, y), (2, u)]).run P w = .ok (.slice (some ⟨w.heap.size, 0, none⟩) 3 3) (w.alloc (.cells #[x, y, u] e))) := by
  cases hq : P.info? e with
  | none => rw [hq] at hi; cases hi
  | some i =>
    rw [hq] at hi
    simp only [Option.map_some, Option.some.injEq, Prod.mk.injEq] at hi
    obtain ⟨h0, h1⟩ := hi
    have hzc := cells_one hz
    refine ⟨fun x y w hx hy => ?_, fun x y u w hx hy hv => ?_⟩
    · refine run_buildSlice w t e 2 _ #[x, y] i z hu hq h0 (by rw [h1]; decide) (by rw [h1]; decide) ?_
      rw [h1, hzc]
      rw [show (Array.map (fun x => (#[z] : Array Value)[x % (#[z] : Array Value).size]!) (Array.range (2 * 1))) = #[z, z] by rw [show Array.range (2 * 1) = #[0, 1] by decide]; simp]
      simp [Instr.fill, cells_one hx, cells_one hy]
    · refine run_buildSlice w t e 3 _ #[x, y, u] i z hu hq h0 (by rw [h1]; decide) (by rw [h1]; decide) ?_
      rw [h1, hzc]
      rw [show (Array.map (fun x => (#[z] : Array Value)[x % (#[z] : Array Value).size]!) (Array.range (3 * 1))) = #[z, z, z] by rw [show Array.range (3 * 1) = #[0, 1, 2] by decide]; simp]
      simp [Instr.fill, cells_one hx, cells_one hy, cells_one hv]
theorem wp_ones2 {o : Oper} {a : Act} {w : World} {K : Act → World → Prop} {Q : Exit → Act → World → Prop} {t e : TypeId} {z : Value} {x y : Operand} (u v : Value) (ho : o.op = .buildSlice t 2 #[(0, x), (1, y)]) (hx : a.eval x = u) (hy : a.eval y = v)
    (hu : P.underlying t = some (.slice e)) (hi : (P.info? e).map (fun i => (i.zero, i.size)) = some (some z, 1)) (hz : z.oneCell' = true) (h1 : u.oneCell' = true) (h2 : v.oneCell' = true)
    (h : K (a.put o.dst (.slice (some ⟨w.heap.size, 0, none⟩) 2 2)) (w.alloc (.cells #[u, v] e))) : o.wp P a w K Q := by
  unfold Oper.wp execOp
  simp only [ho, List.map_toArray, List.map_cons, List.map_nil, hx, hy, Sem.run_bind, (run_ones hu hi hz).1 u v w h1 h2, Result.andThen_ok]
  exact h
theorem wp_ones3 {o : Oper} {a : Act} {w : World} {K : Act → World → Prop} {Q : Exit → Act → World → Prop} {t e : TypeId} {z : Value} {x y c : Operand} (u v d : Value) (ho : o.op = .buildSlice t 3 #[(0, x), (1, y), (2, c)]) (hx : a.eval x = u) (hy : a.eval y = v) (hc : a.eval c = d)
    (hu : P.underlying t = some (.slice e)) (hi : (P.info? e).map (fun i => (i.zero, i.size)) = some (some z, 1)) (hz : z.oneCell' = true) (h1 : u.oneCell' = true) (h2 : v.oneCell' = true) (h3 : d.oneCell' = true)
    (h : K (a.put o.dst (.slice (some ⟨w.heap.size, 0, none⟩) 3 3)) (w.alloc (.cells #[u, v, d] e))) : o.wp P a w K Q := by
  unfold Oper.wp execOp
  simp only [ho, List.map_toArray, List.map_cons, List.map_nil, hx, hy, hc, Sem.run_bind, (run_ones hu hi hz).2 u v d w h1 h2 h3, Result.andThen_ok]
  exact h
end
end Go
namespace Go.Proofs.Ytejnnghfelpioaa
open Go.RowKit
theorem hashN_lt (yss : List (List (BitVec 8))) : hashN yss < 2 ^ 256 := Nat.lt_trans (Nat.mod_lt _ lN_pos) lN_lt
theorem rdz2 {w : World} {e : TypeId} {u v : Value} {x y : List (BitVec 8)} (h1 : RdY w u x) (h2 : RdY w v y) : RdZ (w.alloc (.cells #[u, v] e)) (.slice (some ⟨w.heap.size, 0, none⟩) 2 2) [x, y] := by
  have hb := below_alloc w (.cells #[u, v] e)
  have hn := Blk.new e w #[u, v]
  refine ⟨_, 2, rfl, Nat.le_refl _, fun _ => ⟨w.heap.size, 0, rfl, hn.lt, fun i hi => ?_⟩⟩
  match i, hi with
  | 0, _ => exact ⟨u, hn.cell 0 _ rfl, h1.below hb⟩
  | 1, _ => exact ⟨v, hn.cell 1 _ rfl, h2.below hb⟩
theorem rdz3 {w : World} {e : TypeId} {u v d : Value} {x y z : List (BitVec 8)} (h1 : RdY w u x) (h2 : RdY w v y) (h3 : RdY w d z) : RdZ (w.alloc (.cells #[u, v, d] e)) (.slice (some ⟨w.heap.size, 0, none⟩) 3 3) [x, y, z] := by
  have hb := below_alloc w (.cells #[u, v, d] e)
  have hn := Blk.new e w #[u, v, d]
  refine ⟨_, 3, rfl, Nat.le_refl _, fun _ => ⟨w.heap.size, 0, rfl, hn.lt, fun i hi => ?_⟩⟩
  match i, hi with
  | 0, _ => exact ⟨u, hn.cell 0 _ rfl, h1.below hb⟩
  | 1, _ => exact ⟨v, hn.cell 1 _ rfl, h2.below hb⟩
  | 2, _ => exact ⟨d, hn.cell 2 _ rfl, h3.below hb⟩
theorem blk_all {t : TypeId} {w : World} {g : Nat} {ys : List (BitVec 8)} (h : Blk t w g (cellsY ys)) {n : Nat} (hn : ys.length = n) : RdY w (.slice (some ⟨g, 0, none⟩) n n) ys := by
  have := blk_rd h 0 n n (by omega) (Nat.le_refl _)
  rw [List.drop_zero, List.take_of_length_le (by omega)] at this; exact this
theorem sec_rd {t : TypeId} {w : World} {g : Nat} {a : Nat} {v : Value} {k : List (BitVec 8)} (h : Blk t w g (secC a v k)) {n : Nat} (hn : k.length = n) : RdY w (.slice (some ⟨g, 5, none⟩) n n) k :=
  ⟨_, n, by rw [hn], by omega, fun _ => ⟨g, 5, rfl, h.lt, fun j hj => h.cell (5 + j) _ (secC_key _ _ _ j _ (by simp [cellsY, ny, hj]))⟩⟩
theorem setPart_kv (xs ys : List (BitVec 8)) (o : Nat) : setPart (cellsY xs) o (kvL ys).toArray = cellsY (xs.take o ++ ys ++ xs.drop (o + ys.length)) := by
  unfold setPart cellsY kvL
  simp [List.map_take, List.map_drop]
theorem uPP : Try.prog.underlying 82 = some (.slice 22) := by kernel_rfl
theorem iPP : (Try.prog.info? 22).map (fun i => (i.zero, i.size)) = some (some (.slice none 0 0), 1) := by kernel_rfl
theorem oSl : oneT Try.prog 22 = true := by kernel_rfl
def zSig : List (BitVec 8) := List.replicate 64 0
theorem gSig : aggT Try.prog 33 = true := by kernel_rfl
theorem uSig : Try.prog.underlying 33 = some (.array 64 5) := by kernel_rfl
theorem iSig64 : (Try.prog.info? 33).map (·.size) = some 64 := by kernel_rfl
theorem iSg (ys : List (BitVec 8)) (h : ys.length = 64) : (Try.prog.info? 33).map (·.size) = some (cellsY ys).size := by rw [size_cellsY, h]; exact iSig64
theorem zSg : (Try.prog.info? 33).bind (·.zero) = some (.agg (cellsY zSig)) := by kernel_rfl
def sigR (m msg : List (BitVec 8)) : List (BitVec 8) := encL (mulP (hashN [opB m, msg]) baseP)
def sigN (m msg : List (BitVec 8)) : Nat := (hashN [opB m, msg] + hashN [sigR m msg, opK m, msg] * opA m % lN) % lN
def sigL (m msg : List (BitVec 8)) : List (BitVec 8) := if m.length = 32 then sigR m msg ++ leL (sigN m msg % pN) else zSig
theorem sigL_len (m msg : List (BitVec 8)) : (sigL m msg).length = 64 := by
  unfold sigL; split
  · rw [List.length_append, leL_len]; unfold sigR; rw [encL_len]
  · rfl
theorem opA_lt (m : List (BitVec 8)) : opA m < 2 ^ 256 := by
  unfold opA; split
  · exact leN_lt _ (by rw [List.length_take]; omega)
  · decide
theorem kv_one (ys : List (BitVec 8)) : ∀ v ∈ kvL ys, v.oneCell' = true := by
  intro v hv; unfold kvL at hv; simp at hv; obtain ⟨_, _, rfl⟩ := hv; rfl
theorem kv_src {t : TypeId} {w : World} {g : Nat} {ys : List (BitVec 8)} (h : Blk t w g (cellsY ys)) : ∀ j v, (kvL ys)[j]? = some v → w.cell? ((⟨g, 0, none⟩ : Addr).add j) = some v := fun j v hv => by
  rw [add_off]; exact h.cell (0 + j) v (by rw [Nat.zero_add, cellsY_kv]; simpa using hv)
theorem kv_rd {w : World} {b off n c : Nat} {ys : List (BitVec 8)} (h : RdY w (.slice (some ⟨b, off, none⟩) n c) ys) : ∀ j v, (kvL ys)[j]? = some v → w.cell? ((⟨b, off, none⟩ : Addr).add j) = some v := fun j v hv => by
  rw [add_off]; exact h.cells j v (by rw [cellsY_kv]; simpa using hv)
set_option maxRecDepth 100000 in
set_option maxHeartbeats 8000000 in
theorem sign_any (m msg : List (BitVec 8)) (vs vm : Value) (w : World) (hr : RdY w vs m) (hm : RdY w vm msg) (hl : msg.length ≤ 140737488351232) : Calls Try.prog 8 #[vs, vm] w fun e w' => e = .returned (.tuple #[.agg (cellsY (sigL m msg)), .int .i64 (opE m)]) ∧ Below w.heap.size w w' := by
  have hO := hid fun w h => eopened_any m vs w h
  have HM := hid hm
  have hvm := one_v hm
  have lK := hid (opK_len m)
  have hAl := opA_lt m
  have hBl : (opB m).length ≤ 32 := by
    unfold opB; split
    · unfold seedB seedL; rw [List.length_drop, List.length_set, List.length_set, shaL_len]; decide
    · simp
  have hE01 : (m.length = 32 ∧ opE m = 0) ∨ (sigL m msg = zSig ∧ opE m ≠ 0) := by
    by_cases h : m.length = 32
    · exact .inl ⟨h, by unfold opE; rw [if_pos h]⟩
    · exact .inr ⟨by unfold sigL; rw [if_neg h], by unfold opE; rw [if_neg h]; decide⟩
  have hSg := hid fun (h : m.length = 32) => show sigL m msg = sigR m msg ++ leL (sigN m msg % pN) by unfold sigL; rw [if_pos h]
  have hRd := hid (show sigR m msg = encL (mulP (hashN [opB m, msg]) baseP) from rfl)
  have hNd := hid (show sigN m msg = (hashN [opB m, msg] + hashN [sigR m msg, opK m, msg] * opA m % lN) % lN from rfl)
  have HS := hid (show sigL m msg = sigL m msg from rfl)
  obtain ⟨w0, hw0, k1, hbl0⟩ := entry1 w 33 (cellsY zSig)
  have hb4 := hid k1
  have HR0 := hid (hr.below hbl0)
  clear k1 hr hm
  obtain ⟨K, hK⟩ : ∃ K, K = opK m := ⟨_, rfl⟩
  obtain ⟨A, hA⟩ : ∃ A, A = opA m := ⟨_, rfl⟩
  obtain ⟨E, hE⟩ : ∃ E, E = opE m := ⟨_, rfl⟩
  obtain ⟨B, hB⟩ : ∃ B, B = opB m := ⟨_, rfl⟩
  rw [← hK, ← hA, ← hE, ← hB] at hO
  rw [← hK] at lK
  rw [← hK, ← hA, ← hB] at hNd
  rw [← hB] at hRd hBl
  rw [← hA] at hAl
  rw [← hE] at hE01 ⊢
  clear hK hA hE hB HS
  go_enter Try.func8, Try.ntmps8
  ((repeat ((fail_if_success (with_reducible refine Go.at_region ?_)); go_step)); refine wp_region_lit ?_)
  (refine wpList_alloc_new rfl 33 rfl (cellsY zSig) zSg ?_; simp only [Act.put, pvA, pv0, pv1]; (try simp only [World.size_alloc]))
  (refine wpList_plain rfl fun K hK => ?_; go_simp; refine hK _ _ ?_; clear hK K; (try simp only [Act.put, pvA, pv0, pv1]))
  refine wpList_nil ?_
  rw [← hw0]
  clear hw0
  ((repeat ((fail_if_success (with_reducible refine Go.at_region ?_)); go_step)); refine wp_region_lit ?_)
  (refine wpList_plain rfl fun K hK => ?_; go_simp; refine hK _ _ ?_; clear hK K; (try simp only [Act.put, pvA, pv0, pv1]))
  (refine wpList_plain rfl fun K hK => ?_; go_simp; refine (hO.out _ HR0.out).mono ?_; rintro _ w1 ⟨v', rfl, hR1, hs1⟩; refine hK _ _ ?_; clear hK K; (try simp only [Act.put, pvA, pv0, pv1]))
  iterate 3 (refine wpList_plain rfl fun K hK => ?_; go_simp; refine hK _ _ ?_; clear hK K; (try simp only [Act.put, pvA, pv0, pv1]))
  have iS := hid (iSec A v' K lK.out)
  have h1v := one_v hR1
  have nS := hid (one_secC A v' K h1v)
  (refine wpList_new 58 (secC 0 (.slice none 0 0) zKey) rfl rfl zSec ?_; intro G6 w2 hle2 hs2 hn2; (try simp only [Act.put, pvA, pv0, pv1]))
  (refine wpList_set _ _ _ rfl rfl rfl _ _ rfl rfl _ _ hn2 iS.out (by rw [secC_size, secC_size, lK.out]; rfl) nS.out ?_)
  (refine wpList_plain rfl fun K hK => ?_; go_simp; refine hK _ _ ?_; clear hK K; (try simp only [Act.put, pvA, pv0, pv1]))
  refine wpList_nil ?_
  have n46 : w.heap.size ≠ G6 := by have := hb4.out.lt; have := hs1.size; omega
  have hG6 : w.heap.size ≤ G6 := by have := hbl0.size; have := hs1.size; omega
  have fb4 := hid (((hb4.out.step hs1).step hs2).other n46 (secC A v' K))
  have fb6 := hid (hn2.set (secC A v' K))
  have hbl3 := below_set (hbl0.trans ((hs1.trans (hs2.mono hs1.size)).mono hbl0.size)) G6 hG6 (secC A v' K)
  have hB := hid hR1
  have hbs := below_set hs2 G6 hle2 (secC A v' K)
  generalize w2.setRow G6 (secC A v' K) = w3 at fb4 fb6 hbl3 hbs ⊢
  clear hs2 hn2 hle2 hb4 hbl0 HR0 hO hR1
  rcases hE01 with ⟨hm32, hE0⟩ | ⟨hz, hE1⟩
  · subst hE0
    ((repeat ((fail_if_success (with_reducible refine Go.at_region ?_)); go_step)); refine wp_region_lit ?_)
    iterate 2 (refine wpList_plain rfl fun K hK => ?_; go_simp; refine hK _ _ ?_; clear hK K; (try simp only [Act.put, pvA, pv0, pv1]))
    refine wpList_nil ?_
    have HB3 := hid (hB.out.below hbs)
    have cv := fb6.out.cell 4 v' rfl
    have hH1 := hid fun (v : Value) (w : World) (h : RdZ w v [B, msg]) => hashed_any [B, msg] v w h (by simp) (by simp; omega)
    obtain ⟨r, hr⟩ : ∃ r, r = hashN [B, msg] := ⟨_, rfl⟩
    have hrl : r < 2 ^ 256 := by rw [hr]; exact hashN_lt _
    rw [← hr] at hH1 hRd hNd
    clear hr
    unfold wd at hH1
    have iR := hid (iW r)
    ((repeat ((fail_if_success (with_reducible refine Go.at_region ?_)); go_step)); refine wp_region_lit ?_)
    (refine wpList_plain rfl fun K hK => ?_; go_simp; refine hK _ _ ?_; clear hK K; (try simp only [Act.put, pvA, pv0, pv1]))
    (refine wpList_getcell 22 (.tmp 19) rfl rfl G6 4 rfl v' cv oSl ?_; simp only [Act.put, pvA, pv0, pv1])
    (refine wpList_plain rfl fun K hK => ?_; go_simp; refine hK _ _ ?_; clear hK K; (try simp only [Act.put, pvA, pv0, pv1]))
    (refine wpList_plain rfl fun K hK => wp_ones2 v' vm rfl rfl rfl uPP iPP rfl h1v hvm ?_; refine hK _ _ ?_; clear hK K; simp only [Act.put, pvA, pv0, pv1])
    have hz2 := rdz2 (e := 22) HB3.out (HM.out.below hbl3)
    have hsz := below_alloc w3 (.cells #[v', vm] 22)
    (refine wpList_plain rfl fun K hK => ?_; go_simp; refine (hH1.out _ _ hz2).mono ?_; rintro _ w4 ⟨rfl, hs4⟩; refine hK _ _ ?_; clear hK K; (try simp only [Act.put, pvA, pv0, pv1]))
    have hs34 := hsz.trans (hs4.mono hsz.size)
    clear hz2 hsz hs4 cv
    (refine wpList_new 25 (cellsW 0) rfl rfl zWd ?_; intro G7 w5 hle5 hs5 hn5; (try simp only [Act.put, pvA, pv0, pv1]))
    (refine wpList_set _ _ _ rfl rfl rfl _ _ rfl rfl _ _ hn5 iR.out (by rw [size_cellsW, size_cellsW]) (one_cellsW _) ?_)
    refine wpList_nil ?_
    have n47 : w.heap.size ≠ G7 := by have := fb4.out.lt; have := hs34.size; omega
    have n67 : G6 ≠ G7 := by have := fb6.out.lt; have := hs34.size; omega
    have hG7 : w.heap.size ≤ G7 := by have := hbl3.size; have := hs34.size; omega
    have gb4 := hid (((fb4.out.step hs34).step hs5).other n47 (cellsW r))
    have gb6 := hid (((fb6.out.step hs34).step hs5).other n67 (cellsW r))
    have gb7 := hid (hn5.set (cellsW r))
    have hbl6 := below_set (hbl3.trans ((hs34.trans (hs5.mono hs34.size)).mono hbl3.size)) G7 hG7 (cellsW r)
    generalize w5.setRow G7 (cellsW r) = w6 at gb4 gb6 gb7 hbl6 ⊢
    clear hs34 hs5 hle5 hn5 fb4 fb6 hbl3 hbs hH1 HB3 hB
    have cB := hid fun w => base_any w
    have cM := hid fun w => mul_any r baseP w ⟨bsxN_lt, bsyN_lt⟩
    have cE := hid fun w => enc_any (mulP r baseP) w (mulP_lt _ _)
    have lR := hid (show (encL (mulP r baseP)).length = 32 from encL_len _)
    obtain ⟨R, hR⟩ : ∃ R, R = encL (mulP r baseP) := ⟨_, rfl⟩
    rw [← hR] at cE lR hRd
    clear hR
    generalize mulP r baseP = pk at cM cE
    generalize baseP = pb at cB cM
    unfold pt at cB cM cE
    unfold wd at cM
    unfold key at cE
    have iR32 := hid (iK R lR.out)
    (repeat ((fail_if_success (with_reducible refine Go.at_region ?_)); go_step))
    refine draw_new1 4 _ rfl 28 (cellsY zKey) 8 rfl rfl rfl (by simp) zK (by kernel_rfl) (by kernel_rfl) (by kernel_rfl) ?_
    simp only [List.take_succ_cons, List.take_zero]
    (refine calm_whole rfl _ _ rfl _ rfl _ _ gb7.out gWd iR.out ?_; simp only [Act.put, pvA, pv0, pv1])
    (apply calm_on rfl; (focus (intro W hB; go_simp; refine (cB.out W).mono ?_; rintro _ _ ⟨rfl, hb'⟩; exact ⟨rfl, hb'⟩)); simp only [Act.put, pvA, pv0, pv1])
    (apply calm_on rfl; (focus (intro W hB; go_simp; refine (cM.out W).mono ?_; rintro _ _ ⟨rfl, hb'⟩; exact ⟨rfl, hb'⟩)); simp only [Act.put, pvA, pv0, pv1])
    (apply calm_on rfl; (focus (intro W hB; go_simp; refine (cE.out W).mono ?_; rintro _ _ ⟨rfl, hb'⟩; exact ⟨rfl, hb'⟩)); simp only [Act.put, pvA, pv0, pv1])
    refine calm_nil ?_
    intro G8 w8 hle8 hx8 hn8
    simp only [List.drop_succ_cons, List.drop_zero]
    (try simp only [Act.put, pvA, pv0, pv1])
    (refine wpList_set _ _ _ rfl rfl rfl _ _ rfl rfl _ _ hn8 iR32.out (by rw [size_cellsY, size_cellsY, lR.out]; rfl) (one_cellsY _) ?_)
    refine wpList_nil ?_
    have n48 : w.heap.size ≠ G8 := by have := gb4.out.lt; omega
    have n68 : G6 ≠ G8 := by have := gb6.out.lt; omega
    have n78 : G7 ≠ G8 := by have := gb7.out.lt; omega
    have hG8 : w.heap.size ≤ G8 := by have := hbl6.size; omega
    have fb4 := hid ((gb4.out.step hx8).other n48 (cellsY R))
    have fb6 := hid ((gb6.out.step hx8).other n68 (cellsY R))
    have fb7 := hid ((gb7.out.step hx8).other n78 (cellsY R))
    have fb8 := hid (hn8.set (cellsY R))
    have hbl9 := below_set (hbl6.trans (hx8.mono hbl6.size)) G8 hG8 (cellsY R)
    generalize w8.setRow G8 (cellsY R) = w9 at fb4 fb6 fb7 fb8 hbl9 ⊢
    clear gb4 gb6 gb7 hx8 hle8 hn8 hbl6 cB cM cE
    have hH2 := hid fun (v : Value) (w : World) (h : RdZ w v [R, K, msg]) => hashed_any [R, K, msg] v w h (by simp) (by simp; rw [lR.out, lK.out]; omega)
    rw [hRd.out] at hNd
    have hA0 := hAl
    obtain ⟨h, hh⟩ : ∃ h, h = hashN [R, K, msg] := ⟨_, rfl⟩
    have hhl : h < 2 ^ 256 := by rw [hh]; exact hashN_lt _
    rw [← hh] at hH2 hNd
    have cL := hid fun w => lmul_any h A w hhl hA0
    have cA := hid fun w => ladd_any r (h * A % lN) w hrl (Nat.lt_trans (Nat.mod_lt _ lN_pos) lN_lt)
    obtain ⟨n, hn⟩ : ∃ n, n = sigN m msg := ⟨_, rfl⟩
    rw [← hNd.out, ← hn] at cA
    have hnl : n < 2 ^ 256 := by rw [hn, hNd.out]; exact Nat.lt_trans (Nat.mod_lt _ lN_pos) lN_lt
    have cY := hid fun w => fbytes_any n w hnl
    have Hn := hid hn
    clear hh hn hNd hhl hA0
    generalize h * A % lN = l at cL cA
    unfold wd at hH2 cL cA cY
    have iN := hid (iW n)
    have HM9 := hid (HM.out.below hbl9)
    have sl28 : ∀ (b off : Nat) (w : World), (Instr.sliceAt 28 (.pointer (some ⟨b, off, none⟩)) none none none).run Try.prog w = .ok (.slice (some ⟨b, off, none⟩) 32 32) w := fun b off w => sl_all uK sY1 b off w
    (repeat ((fail_if_success (with_reducible refine Go.at_region ?_)); go_step))
    (refine wp_region_loose_tail 12 [.kn (.agg (cellsW r)), .kn (.slice (some ⟨G8, 0, none⟩) 32 32), .kn (.pointer (some ⟨G6, 5, none⟩)), .kn (.slice (some ⟨G6, 5, none⟩) 32 32), .kn vm, .lo (fun v w => RdZ w v [R, K, msg]), .kn (.agg (cellsW h)), .kn (.pointer (some ⟨G6, 0, none⟩)), .kn (.agg (cellsW A)), .kn (.agg (cellsW l)), .kn (.agg (cellsW n)), .lo (newR w9 25 (cellsW 0))] (by kernel_rfl) (by kernel_rfl) (by kernel_rfl) (by first | exact trivial | ((repeat (first | refine keepsAll_kn ?_ | (refine keepsAll_lo (fun v w w' h hb => ?_) ?_; first | exact RdN.below h hb | exact RdL.below h hb | exact RdY.below h hb | exact PtY.below h hb | exact RdZ.below h hb | exact newR_keeps _ _ _ h hb))); exact trivial)) ?_; simp only [List.take_succ_cons, List.take_zero, List.drop_succ_cons, List.drop_zero])
    (refine loose_part rfl 25 (.tmp 7) rfl G7 0 rfl 25 (cellsW r) (cellsW r) fb7.out (fun j v h => by rw [Nat.zero_add]; exact h) gWd iR.out rfl ?_; simp only [Act.put, pvA, pv0, pv1])
    iterate 3 (refine loose_step_on rfl (fun W' hB' hd K hK => ?_) ?_; (focus (clear hd; go_simp; exact hK _ _ (Below.refl _ _) rfl)); rintro _ rfl; simp only [Act.put, pvA, pv0, pv1])
    (refine loose_move rfl (.tmp 1) (.inl rfl) rfl ?_; simp only [Act.put, pvA, pv0, pv1])
    (refine loose_step_on rfl (fun W' hB' hd Kt hK => ?_) ?_; (focus (skip; clear hd; refine wp_ones3 (.slice (some ⟨G8, 0, none⟩) 32 32) (.slice (some ⟨G6, 5, none⟩) 32 32) vm rfl rfl rfl rfl uPP iPP rfl rfl rfl hvm (hK _ _ (below_alloc _ _) ?_); exact rdz3 (blk_all (fb8.out.step hB') lR.out) (sec_rd (fb6.out.step hB') lK.out) (HM9.out.below hB'))); intro v33 _; simp only [Act.put, pvA, pv0, pv1])
    (refine loose_step_on rfl (fun W' hB' hd Kt hK => ?_) ?_; (focus (have g33 : RdZ W' v33 [R, K, msg] := hd ⟨5, Ground.data⟩ (by simp) rfl _ 33 rfl rfl (by simp); clear hd; go_simp; refine (hH2.out v33 _ g33).mono ?_; rintro _ _ ⟨rfl, hb'⟩; exact hK _ _ hb' rfl)); rintro _ rfl; simp only [Act.put, pvA, pv0, pv1])
    (refine loose_step_on rfl (fun W' hB' hd K hK => ?_) ?_; (focus (clear hd; go_simp; exact hK _ _ (Below.refl _ _) rfl)); rintro _ rfl; simp only [Act.put, pvA, pv0, pv1])
    (refine loose_part rfl 25 (.tmp 35) rfl G6 0 rfl 58 (secC A v' K) (cellsW A) fb6.out (secC_word A v' K) gWd (iW A) rfl ?_; simp only [Act.put, pvA, pv0, pv1])
    (refine loose_step_on rfl (fun W' hB' hd Kt hK => ?_) ?_; (focus (clear hd; go_simp; refine (cL.out _).mono ?_; rintro _ _ ⟨rfl, hb'⟩; exact hK _ _ hb' rfl)); rintro _ rfl; simp only [Act.put, pvA, pv0, pv1])
    (refine loose_step_on rfl (fun W' hB' hd Kt hK => ?_) ?_; (focus (clear hd; go_simp; refine (cA.out _).mono ?_; rintro _ _ ⟨rfl, hb'⟩; exact hK _ _ hb' rfl)); rintro _ rfl; simp only [Act.put, pvA, pv0, pv1])
    (refine loose_new rfl rfl rfl zWd ?_; intro v9; simp only [Act.put, pvA, pv0, pv1])
    intro w10 hs10 hf
    have g9 : newR w9 25 (cellsW 0) v9 w10 := hf 11 _ 9 (by first | omega | simp) rfl rfl (by simp)
    obtain ⟨G9, rfl, hn9, hle9⟩ := g9
    (try simp only [List.drop_succ_cons, List.drop_zero])
    have n49 : w.heap.size ≠ G9 := by have := fb4.out.lt; omega
    have n89 : G8 ≠ G9 := by have := fb8.out.lt; omega
    have hG9 : w.heap.size ≤ G9 := by have := hbl9.size; omega
    (refine wpList_set _ _ _ rfl rfl rfl _ _ rfl rfl _ _ hn9 iN.out (by rw [size_cellsW, size_cellsW]) (one_cellsW _) ?_)
    refine wpList_nil ?_
    have gb4 := hid ((fb4.out.step hs10).other n49 (cellsW n))
    have gb8 := hid ((fb8.out.step hs10).other n89 (cellsW n))
    have gb9 := hid (hn9.set (cellsW n))
    have hbl11 := below_set (hbl9.trans (hs10.mono hbl9.size)) G9 hG9 (cellsW n)
    generalize w10.setRow G9 (cellsW n) = w11 at gb4 gb8 gb9 hbl11 ⊢
    clear fb4 fb6 fb7 fb8 hs10 hn9 hle9 hbl9 hf HM9 cL cA hH2
    have sl39 : ∀ (b : Nat) (w : World), (Instr.sliceAt 33 (.pointer (some ⟨b, 0, none⟩)) none none none).run Try.prog w = .ok (.slice (some ⟨b, 0, none⟩) 64 64) w := fun b w => sl_all uSig sY1 b 0 w
    (repeat ((fail_if_success (with_reducible refine Go.at_region ?_)); go_step))
    refine draw_tail 2 (by kernel_rfl) (by kernel_rfl) (by kernel_rfl) ?_
    simp only [List.take_succ_cons, List.take_zero]
    iterate 2 (apply calm_on rfl; (focus (intro W hB; go_simp; exact ⟨rfl, Below.refl _ _⟩)); simp only [Act.put, pvA, pv0, pv1])
    refine calm_nil ?_
    intro w12 hs12
    simp only [List.drop_succ_cons, List.drop_zero]
    have kb4 := gb4.out.step hs12
    have kb8 := gb8.out.step hs12
    have kb9 := gb9.out.step hs12
    have hbl12 := hbl11.trans (hs12.mono hbl11.size)
    (refine wpList_copy_row rfl (.tmp 39) (.tmp 40) 22 22 rfl 5 w.heap.size 0 64 64 rfl ⟨G8, 0, none⟩ 32 32 rfl (cellsY zSig) 33 (kvL R) uYs sY1 kb4 (by rw [kvL_len, lR.out]; rfl) (kv_src kb8) (by rw [kvL_len, lR.out, size_cellsY]; decide) (kv_one R) ?_; simp only [Act.put, pvA, pv0, pv1])
    refine wpList_nil ?_
    rw [setPart_kv, show zSig.take 0 ++ R ++ zSig.drop (0 + R.length) = R ++ zY 32 by rw [lR.out]; rfl]
    have hb4 := hid (kb4.set (cellsY (R ++ zY 32)))
    have hb9 := hid (kb9.other (b := w.heap.size) (by omega) (cellsY (R ++ zY 32)))
    have hbl13 := below_set hbl12 w.heap.size (Nat.le_refl _) (cellsY (R ++ zY 32))
    generalize w12.setRow w.heap.size (cellsY (R ++ zY 32)) = w13 at hb4 hb9 hbl13 ⊢
    clear gb4 gb8 gb9 kb4 kb8 kb9 hs12 hbl12 hbl11 sl39
    have sl42 : ∀ (b : Nat) (w : World), (Instr.sliceAt 33 (.pointer (some ⟨b, 0, none⟩)) (some (.int .i64 32)) none none).run Try.prog w = .ok (.slice (some ⟨b, 32, none⟩) 32 32) w := fun b w => sl_from uSig sY1 32 (by decide) b 0 w
    (repeat ((fail_if_success (with_reducible refine Go.at_region ?_)); go_step))
    (refine wp_region_loose_tail 3 [.kn (.slice (some ⟨w.heap.size, 32, none⟩) 32 32), .kn (.agg (cellsW n)), .lo (fun v w => RdY w v (leL (n % pN)))] (by kernel_rfl) (by kernel_rfl) (by kernel_rfl) (by first | exact trivial | ((repeat (first | refine keepsAll_kn ?_ | (refine keepsAll_lo (fun v w w' h hb => ?_) ?_; first | exact RdN.below h hb | exact RdL.below h hb | exact RdY.below h hb | exact PtY.below h hb | exact RdZ.below h hb | exact newR_keeps _ _ _ h hb))); exact trivial)) ?_; simp only [List.take_succ_cons, List.take_zero, List.drop_succ_cons, List.drop_zero])
    (refine loose_step_on rfl (fun W' hB' hd K hK => ?_) ?_; (focus (clear hd; go_simp; exact hK _ _ (Below.refl _ _) rfl)); rintro _ rfl; simp only [Act.put, pvA, pv0, pv1])
    (refine loose_part rfl 25 (.tmp 9) rfl G9 0 rfl 25 (cellsW n) (cellsW n) hb9.out (fun j v h => by rw [Nat.zero_add]; exact h) gWd iN.out rfl ?_; simp only [Act.put, pvA, pv0, pv1])
    (refine loose_step_on rfl (fun W' hB' hd Kt hK => ?_) ?_; (focus (skip; clear hd; go_simp; refine (cY.out _).mono ?_; rintro _ _ ⟨v, rfl, hr, hb'⟩; exact hK _ _ hb' hr)); intro v44 _; simp only [Act.put, pvA, pv0, pv1])
    intro w14 hs14 hf
    have g44 : RdY w14 v44 (leL (n % pN)) := hf 2 _ 44 (by first | omega | simp) rfl rfl (by simp)
    (try simp only [List.drop_succ_cons, List.drop_zero])
    have lY := leL_len (n % pN)
    obtain ⟨B4, O4, C4, rfl, hc4, hlt4, hcl4⟩ := g44.open (by omega)
    rw [lY]
    have kb4 := hb4.out.step hs14
    have hbl14 := hbl13.trans (hs14.mono hbl13.size)
    have hzR : (R ++ zY 32).length = 64 := by rw [List.length_append, lR.out, zY_len]
    (refine wpList_copy_row rfl (.tmp 42) (.tmp 44) 22 22 rfl 5 w.heap.size 32 32 32 rfl ⟨B4, O4, none⟩ 32 C4 rfl (cellsY (R ++ zY 32)) 33 (kvL (leL (n % pN))) uYs sY1 kb4 (by rw [kvL_len, lY]; rfl) (kv_rd g44) (by rw [kvL_len, lY, size_cellsY, hzR]; decide) (kv_one _) ?_; simp only [Act.put, pvA, pv0, pv1])
    refine wpList_nil ?_
    rw [setPart_kv, show (R ++ zY 32).take 32 ++ leL (n % pN) ++ (R ++ zY 32).drop (32 + (leL (n % pN)).length) = R ++ leL (n % pN) by
      rw [lY, List.drop_eq_nil_of_le (by rw [hzR]; decide), List.append_nil, List.take_left' lR.out]]
    have lF : (R ++ leL (n % pN)).length = 64 := by rw [List.length_append, lR.out, lY]
    have hfin := hid (show sigL m msg = R ++ leL (n % pN) by rw [hSg.out hm32, hRd.out, ← Hn.out])
    obtain ⟨F, hF⟩ : ∃ F, F = R ++ leL (n % pN) := ⟨_, rfl⟩
    rw [← hF] at lF hfin ⊢
    clear hF
    have iF := hid (iSg F lF)
    have fb4 := hid (kb4.set (cellsY F))
    have hbl15 := below_set hbl14 w.heap.size (Nat.le_refl _) (cellsY F)
    generalize w14.setRow w.heap.size (cellsY F) = w15 at fb4 hbl15 ⊢
    clear hb4 hb9 kb4 hbl13 hs14 hf g44 hcl4 sl42
    ((repeat ((fail_if_success (with_reducible refine Go.at_region ?_)); go_step)); refine wp_region_lit ?_)
    (refine wpList_get _ _ rfl rfl _ rfl _ _ fb4.out gSig iF.out ?_; simp only [Act.put, pvA, pv0, pv1])
    (refine wpList_set _ _ _ rfl rfl rfl _ _ rfl rfl _ _ fb4.out iF.out rfl (one_cellsY _) ?_)
    (refine wpList_plain rfl fun K hK => ?_; go_simp; refine hK _ _ ?_; clear hK K; (try simp only [Act.put, pvA, pv0, pv1]))
    refine wpList_nil ?_
    have kb := fb4.out.set (cellsY F)
    have hbe := below_set hbl15 w.heap.size (Nat.le_refl _) (cellsY F)
    (repeat ((fail_if_success (with_reducible refine Go.at_region ?_)); go_step))
    refine bodyPost_ret (results_row_tmp rfl _ _ w.heap.size 33 (cellsY F) (0, 0) _ rfl kb uSig rfl iF.out) rfl ⟨by rw [hfin.out]; rfl, hbe⟩
  · ((repeat ((fail_if_success (with_reducible refine Go.at_region ?_)); go_step)); refine wp_region_lit ?_)
    iterate 2 (refine wpList_plain rfl fun K hK => ?_; go_simp; refine hK _ _ ?_; clear hK K; (try simp only [Act.put, pvA, pv0, pv1]))
    refine wpList_nil ?_
    ((repeat ((fail_if_success (with_reducible refine Go.at_region ?_)); go_step)); refine wp_region_lit ?_)
    (refine wpList_get _ _ rfl rfl _ rfl _ _ fb4.out gSig (iSg zSig rfl) ?_; simp only [Act.put, pvA, pv0, pv1])
    (refine wpList_plain rfl fun K hK => ?_; go_simp; refine hK _ _ ?_; clear hK K; (try simp only [Act.put, pvA, pv0, pv1]))
    (refine wpList_set _ _ _ rfl rfl rfl _ _ rfl rfl _ _ fb4.out (iSg zSig rfl) rfl (one_cellsY _) ?_)
    (refine wpList_plain rfl fun K hK => ?_; go_simp; refine hK _ _ ?_; clear hK K; (try simp only [Act.put, pvA, pv0, pv1]))
    refine wpList_nil ?_
    have kb := fb4.out.set (cellsY zSig)
    have hbe := below_set hbl3 w.heap.size (Nat.le_refl _) (cellsY zSig)
    (repeat ((fail_if_success (with_reducible refine Go.at_region ?_)); go_step))
    refine bodyPost_ret (results_row_tmp rfl _ _ w.heap.size 33 (cellsY zSig) (0, 0) _ rfl kb uSig rfl (iSg zSig rfl)) rfl ⟨by rw [hz]; rfl, hbe⟩
end Go.Proofs.Ytejnnghfelpioaa
namespace Go.Proofs.Ytejnnghfelpioaa
open Go.RowKit
theorem decP_lt (k : List (BitVec 8)) : LtP (decP k) := by
  unfold decP
  have hx : sqX (decA k) < 2 ^ 256 := by
    unfold sqX
    split
    · split
      · have := sq1_lt (decA k); have := pN_lt; omega
      · exact Nat.lt_trans (sq1_lt _) pN_lt
    · decide
  split
  · refine ⟨?_, fdN_lt _ _⟩
    show (if oddB k = true then subP 0 (sqX (decA k)) else sqX (decA k)) < 2 ^ 256
    split
    · exact p_mod_lt _
    · exact hx
  · exact zeroP_lt
def verN (s : List (BitVec 8)) : Nat := fdN lN (s.drop 32)
def verA (k : List (BitVec 8)) : P2 := ⟨subP 0 (decP k).x, (decP k).y⟩
theorem verA_lt (k : List (BitVec 8)) : LtP (verA k) := ⟨p_mod_lt _, (decP_lt k).y⟩
def verG (k msg s : List (BitVec 8)) : W4 := bothW (verN s) (widenW baseP) (hashN [s.take 32, k, msg]) (widenW (verA k))
def verX (k msg s : List (BitVec 8)) : Bool := decide (val5 (mul5 (fOf (decP (s.take 32)).x) (verG k msg s).z) % pN = val5 (verG k msg s).x % pN)
def verY (k msg s : List (BitVec 8)) : Bool := decide (val5 (mul5 (fOf (decP (s.take 32)).y) (verG k msg s).z) % pN = val5 (verG k msg s).y % pN)
def verOk (k s : List (BitVec 8)) : Bool := decide (fdE lN (s.drop 32) = 0) && (decide (decE k = 0) && decide (decE (s.take 32) = 0))
def verB (k msg s : List (BitVec 8)) : Bool := verOk k s && (verX k msg s && verY k msg s)
set_option maxRecDepth 100000 in
set_option maxHeartbeats 8000000 in
theorem verify_any (k msg s : List (BitVec 8)) (vm : Value) (w : World) (hk : k.length = 32) (hs : s.length = 64) (hm : RdY w vm msg) (hl : msg.length ≤ 140737488351232) : Calls Try.prog 9 #[key k, vm, .agg (cellsY s)] w fun e w' => e = .returned (.bool (verB k msg s)) ∧ Below w.heap.size w w' := by
  have HM := hid hm
  have hvm := one_v hm
  have lr : (s.take 32).length = 32 := by rw [List.length_take, hs]; rfl
  have ld : (s.drop 32).length = 32 := by rw [List.length_drop, hs]
  have cR := hid fun v w h => fLread_any (s.drop 32) v w h
  have cK := hid fun w => dec_any k w hk
  have cP := hid fun w => dec_any (s.take 32) w lr
  have hVB := hid (show verB k msg s = (verOk k s && (verX k msg s && verY k msg s)) from rfl)
  have hOk := hid (show verOk k s = (decide (fdE lN (s.drop 32) = 0) && (decide (decE k = 0) && decide (decE (s.take 32) = 0))) from rfl)
  have iKk := hid (iK k hk)
  have iSs := hid (iSg s hs)
  have iRr := hid (iK (s.take 32) lr)
  obtain ⟨w0, hw0, k1, k2, hbl0⟩ := entry2 w 28 (cellsY k) 33 (cellsY s)
  have hb3 := hid k1
  have hb5 := hid k2
  clear k1 k2 hm
  obtain ⟨n, hn⟩ : ∃ n, n = fdN lN (s.drop 32) := ⟨_, rfl⟩
  obtain ⟨en, hen⟩ : ∃ n, n = fdE lN (s.drop 32) := ⟨_, rfl⟩
  obtain ⟨ea, hea⟩ : ∃ n, n = decE k := ⟨_, rfl⟩
  obtain ⟨ep, hep⟩ : ∃ n, n = decE (s.take 32) := ⟨_, rfl⟩
  have hnl : n < 2 ^ 256 := by rw [hn]; exact fdN_lt _ _
  rw [← hn, ← hen] at cR
  rw [← hea] at cK
  rw [← hep] at cP
  rw [← hen, ← hea, ← hep] at hOk
  have Hn := hid hn
  clear hn hen hea hep
  unfold key pt at *
  unfold wd at cR
  have iN := hid (iW n)
  have hat : ∀ (b off cap : Nat) (w : World), (Instr.arrayAt 28 (.slice (some ⟨b, off, none⟩) 32 cap)).run Try.prog w = .ok (.pointer (some ⟨b, off, none⟩)) w := fun b off cap w => by
    unfold Instr.arrayAt
    rw [Sem.run_bind, run_underlying uK w]
    rfl
  have sl16 : ∀ (b : Nat) (w : World), (Instr.sliceAt 33 (.pointer (some ⟨b, 0, none⟩)) none (some (.int .i64 32)) none).run Try.prog w = .ok (.slice (some ⟨b, 0, none⟩) 32 64) w := fun b w => sl_to uSig sY1 32 (by decide) b 0 w
  have sl20 : ∀ (b : Nat) (w : World), (Instr.sliceAt 33 (.pointer (some ⟨b, 0, none⟩)) (some (.int .i64 32)) none none).run Try.prog w = .ok (.slice (some ⟨b, 32, none⟩) 32 32) w := fun b w => sl_from uSig sY1 32 (by decide) b 0 w
  go_enter Try.func9, Try.ntmps9
  ((repeat ((fail_if_success (with_reducible refine Go.at_region ?_)); go_step)); refine wp_region_lit ?_)
  (refine wpList_box 28 (.tmp 0) rfl rfl (cellsY k) rfl ?_; simp only [Act.put, pvA, pv0, pv1]; (try simp only [World.size_alloc]))
  (refine wpList_box 33 (.tmp 2) rfl rfl (cellsY s) rfl ?_; simp only [Act.put, pvA, pv0, pv1]; (try simp only [World.size_alloc]))
  (refine wpList_plain rfl fun K hK => ?_; go_simp; refine hK _ _ ?_; clear hK K; (try simp only [Act.put, pvA, pv0, pv1]))
  refine wpList_nil ?_
  rw [← hw0]
  clear hw0
  have hRt := hid (blk_rd hb5.out 0 32 64 (by rw [hs]; decide) (by decide))
  rw [List.drop_zero] at hRt
  have hRd := hid (blk_rd hb5.out 32 32 32 (by rw [hs]; decide) (by decide))
  rw [List.take_of_length_le (by rw [ld]; decide)] at hRd
  obtain ⟨r, hr⟩ : ∃ r, r = s.take 32 := ⟨_, rfl⟩
  rw [← hr] at hRt iRr cP lr
  have Hr := hid hr
  clear hr
  ((repeat ((fail_if_success (with_reducible refine Go.at_region ?_)); go_step)); refine wp_region_lit ?_)
  iterate 2 (refine wpList_plain rfl fun K hK => ?_; go_simp; refine hK _ _ ?_; clear hK K; (try simp only [Act.put, pvA, pv0, pv1]))
  (refine wpList_load_cells rfl 28 (.tmp 17) rfl (w.heap.size + 1) 0 rfl (cellsY r) hRt.out.cells gK iRr.out ?_; simp only [Act.put, pvA, pv0, pv1])
  (refine wpList_new 28 (cellsY zKey) rfl rfl zK ?_; intro G7 w1 hle1 hs1 hn1; (try simp only [Act.put, pvA, pv0, pv1]))
  (refine wpList_set _ _ _ rfl rfl rfl _ _ rfl rfl _ _ hn1 iRr.out (by rw [size_cellsY, size_cellsY, lr]; rfl) (one_cellsY _) ?_)
  refine wpList_nil ?_
  have n73 : w.heap.size ≠ G7 := by have := hb3.out.lt; omega
  have n75 : w.heap.size + 1 ≠ G7 := by have := hb5.out.lt; omega
  have hG7 : w.heap.size ≤ G7 := by have := hbl0.size; omega
  have fb3 := hid ((hb3.out.step hs1).other n73 (cellsY r))
  have fb5 := hid ((hb5.out.step hs1).other n75 (cellsY r))
  have fb7 := hid (hn1.set (cellsY r))
  have hbl2 := below_set (hbl0.trans (hs1.mono hbl0.size)) G7 hG7 (cellsY r)
  generalize w1.setRow G7 (cellsY r) = w2 at fb3 fb5 fb7 hbl2 ⊢
  clear hs1 hle1 hn1 hb3 hb5 hbl0 hRt hRd sl16 hat
  have hRd := hid (blk_rd fb5.out 32 32 32 (by rw [hs]; decide) (by decide))
  rw [List.take_of_length_le (by rw [ld]; decide)] at hRd
  ((repeat ((fail_if_success (with_reducible refine Go.at_region ?_)); go_step)); refine wp_region_lit ?_)
  (refine wpList_plain rfl fun K hK => ?_; go_simp; refine hK _ _ ?_; clear hK K; (try simp only [Act.put, pvA, pv0, pv1]))
  (refine wpList_plain rfl fun K hK => ?_; go_simp; refine (cR.out _ _ hRd.out).mono ?_; rintro _ w3 ⟨rfl, hs3⟩; refine hK _ _ ?_; clear hK K; (try simp only [Act.put, pvA, pv0, pv1]))
  iterate 3 (refine wpList_plain rfl fun K hK => ?_; go_simp; refine hK _ _ ?_; clear hK K; (try simp only [Act.put, pvA, pv0, pv1]))
  (refine wpList_new 25 (cellsW 0) rfl rfl zWd ?_; intro G8 x4 hle4 hs4 hn4; (try simp only [Act.put, pvA, pv0, pv1]))
  (refine wpList_set _ _ _ rfl rfl rfl _ _ rfl rfl _ _ hn4 iN.out (by rw [size_cellsW, size_cellsW]) (one_cellsW _) ?_)
  (refine wpList_plain rfl fun K hK => ?_; go_simp; refine hK _ _ ?_; clear hK K; (try simp only [Act.put, pvA, pv0, pv1]))
  refine wpList_nil ?_
  have n83 : w.heap.size ≠ G8 := by have := fb3.out.lt; have := hs3.size; omega
  have n87 : G7 ≠ G8 := by have := fb7.out.lt; have := hs3.size; omega
  have hG8 : w.heap.size ≤ G8 := by have := hbl2.size; have := hs3.size; omega
  have gb3 := hid (((fb3.out.step hs3).step hs4).other n83 (cellsW n))
  have gb7 := hid (((fb7.out.step hs3).step hs4).other n87 (cellsW n))
  have gb8 := hid (hn4.set (cellsW n))
  have hbl5 := below_set (hbl2.trans ((hs3.trans (hs4.mono hs3.size)).mono hbl2.size)) G8 hG8 (cellsW n)
  generalize x4.setRow G8 (cellsW n) = w5 at gb3 gb7 gb8 hbl5 ⊢
  clear hs3 hle4 hs4 hn4 fb3 fb5 fb7 hbl2 hRd sl20 cR
  ((repeat ((fail_if_success (with_reducible refine Go.at_region ?_)); go_step)); refine wp_region_lit ?_)
  (refine wpList_get _ _ rfl rfl _ rfl _ _ gb3.out gK iKk.out ?_; simp only [Act.put, pvA, pv0, pv1])
  (refine wpList_plain rfl fun K hK => ?_; go_simp; refine (cK.out _).mono ?_; rintro _ w6 ⟨rfl, hs6⟩; refine hK _ _ ?_; clear hK K; (try simp only [Act.put, pvA, pv0, pv1]))
  iterate 3 (refine wpList_plain rfl fun K hK => ?_; go_simp; refine hK _ _ ?_; clear hK K; (try simp only [Act.put, pvA, pv0, pv1]))
  obtain ⟨pa, hpa⟩ : ∃ p, p = decP k := ⟨_, rfl⟩
  have hpal : LtP pa := by rw [hpa]; exact decP_lt _
  rw [← hpa]
  have Hpa := hid hpa
  clear hpa
  (refine wpList_new 44 (cellsP zeroP) rfl rfl zPe ?_; intro G10 w7 hle7 hs7 hn7; (try simp only [Act.put, pvA, pv0, pv1]))
  (refine wpList_set _ _ _ rfl rfl rfl _ _ rfl rfl _ _ hn7 (iPe pa) rfl (one_cellsP _) ?_)
  (refine wpList_plain rfl fun K hK => ?_; go_simp; refine hK _ _ ?_; clear hK K; (try simp only [Act.put, pvA, pv0, pv1]))
  refine wpList_nil ?_
  have nA3 : w.heap.size ≠ G10 := by have := gb3.out.lt; have := hs6.size; omega
  have nA7 : G7 ≠ G10 := by have := gb7.out.lt; have := hs6.size; omega
  have nA8 : G8 ≠ G10 := by have := gb8.out.lt; have := hs6.size; omega
  have hG10 : w.heap.size ≤ G10 := by have := hbl5.size; have := hs6.size; omega
  have fb3 := hid (((gb3.out.step hs6).step hs7).other nA3 (cellsP pa))
  have fb7 := hid (((gb7.out.step hs6).step hs7).other nA7 (cellsP pa))
  have fb8 := hid (((gb8.out.step hs6).step hs7).other nA8 (cellsP pa))
  have fbA := hid (hn7.set (cellsP pa))
  have hbl8 := below_set (hbl5.trans ((hs6.trans (hs7.mono hs6.size)).mono hbl5.size)) G10 hG10 (cellsP pa)
  generalize w7.setRow G10 (cellsP pa) = w8 at fb3 fb7 fb8 fbA hbl8 ⊢
  clear hs6 hle7 hs7 hn7 gb3 gb7 gb8 hbl5 cK
  ((repeat ((fail_if_success (with_reducible refine Go.at_region ?_)); go_step)); refine wp_region_lit ?_)
  (refine wpList_get _ _ rfl rfl _ rfl _ _ fb7.out gK iRr.out ?_; simp only [Act.put, pvA, pv0, pv1])
  (refine wpList_plain rfl fun K hK => ?_; go_simp; refine (cP.out _).mono ?_; rintro _ w9 ⟨rfl, hs9⟩; refine hK _ _ ?_; clear hK K; (try simp only [Act.put, pvA, pv0, pv1]))
  iterate 3 (refine wpList_plain rfl fun K hK => ?_; go_simp; refine hK _ _ ?_; clear hK K; (try simp only [Act.put, pvA, pv0, pv1]))
  obtain ⟨pp, hpp⟩ : ∃ p, p = decP r := ⟨_, rfl⟩
  have hppl : LtP pp := by rw [hpp]; exact decP_lt _
  rw [← hpp]
  have Hpp := hid hpp
  clear hpp
  (refine wpList_new 44 (cellsP zeroP) rfl rfl zPe ?_; intro G12 w10 hle10 hs10 hn10; (try simp only [Act.put, pvA, pv0, pv1]))
  (refine wpList_set _ _ _ rfl rfl rfl _ _ rfl rfl _ _ hn10 (iPe pp) rfl (one_cellsP _) ?_)
  (refine wpList_plain rfl fun K hK => ?_; go_simp; refine hK _ _ ?_; clear hK K; (try simp only [Act.put, pvA, pv0, pv1]))
  refine wpList_nil ?_
  have nC3 : w.heap.size ≠ G12 := by have := fb3.out.lt; have := hs9.size; omega
  have nC7 : G7 ≠ G12 := by have := fb7.out.lt; have := hs9.size; omega
  have nC8 : G8 ≠ G12 := by have := fb8.out.lt; have := hs9.size; omega
  have nCA : G10 ≠ G12 := by have := fbA.out.lt; have := hs9.size; omega
  have hG12 : w.heap.size ≤ G12 := by have := hbl8.size; have := hs9.size; omega
  have gb3 := hid (((fb3.out.step hs9).step hs10).other nC3 (cellsP pp))
  have gb7 := hid (((fb7.out.step hs9).step hs10).other nC7 (cellsP pp))
  have gb8 := hid (((fb8.out.step hs9).step hs10).other nC8 (cellsP pp))
  have gbA := hid (((fbA.out.step hs9).step hs10).other nCA (cellsP pp))
  have gbC := hid (hn10.set (cellsP pp))
  have hbl11 := below_set (hbl8.trans ((hs9.trans (hs10.mono hs9.size)).mono hbl8.size)) G12 hG12 (cellsP pp)
  generalize w10.setRow G12 (cellsP pp) = w11 at gb3 gb7 gb8 gbA gbC hbl11 ⊢
  clear hs9 hle10 hs10 hn10 fb3 fb7 fb8 fbA hbl8 cP
  by_cases h1 : en = 0
  case neg =>
    have q1 : (en != 0) = true := by simpa using h1
    have hV0 : verOk k s = false := by rw [hOk.out]; rw [decide_eq_false h1]; rfl
    (repeat ((fail_if_success (with_reducible refine Go.at_region ?_)); go_step))
    refine list_all ?_
    iterate 3 (apply calm_on rfl; (focus (intro W hB; go_simp; exact ⟨rfl, Below.refl _ _⟩)); simp only [Act.put, pvA, pv0, pv1])
    iterate 2 (refine calm_off rfl ?_; simp only [Act.put, pvA, pv0, pv1])
    iterate 2 (apply calm_on rfl; (focus (intro W hB; go_simp; exact ⟨rfl, Below.refl _ _⟩)); simp only [Act.put, pvA, pv0, pv1])
    iterate 2 (refine calm_off rfl ?_; simp only [Act.put, pvA, pv0, pv1])
    (apply calm_on rfl; (focus (intro W hB; go_simp; exact ⟨rfl, Below.refl _ _⟩)); simp only [Act.put, pvA, pv0, pv1])
    refine calm_nil ?_
    intro w12 hs12
    ((repeat ((fail_if_success (with_reducible refine Go.at_region ?_)); go_step)); refine wp_region_lit ?_)
    (refine wpList_plain rfl fun K hK => ?_; go_simp; refine hK _ _ ?_; clear hK K; (try simp only [Act.put, pvA, pv0, pv1]))
    refine wpList_nil ?_
    (repeat ((fail_if_success (with_reducible refine Go.at_region ?_)); go_step))
    go_ret
    exact ⟨by rw [hVB.out, hV0]; rfl, hbl11.trans (hs12.mono hbl11.size)⟩
  subst h1
  by_cases h2 : ea = 0
  case neg =>
    have q1 : (ea != 0) = true := by simpa using h2
    have hV0 : verOk k s = false := by rw [hOk.out]; rw [decide_eq_false h2]; rfl
    (repeat ((fail_if_success (with_reducible refine Go.at_region ?_)); go_step))
    refine list_all ?_
    iterate 7 (apply calm_on rfl; (focus (intro W hB; go_simp; exact ⟨rfl, Below.refl _ _⟩)); simp only [Act.put, pvA, pv0, pv1])
    iterate 2 (refine calm_off rfl ?_; simp only [Act.put, pvA, pv0, pv1])
    (apply calm_on rfl; (focus (intro W hB; go_simp; exact ⟨rfl, Below.refl _ _⟩)); simp only [Act.put, pvA, pv0, pv1])
    refine calm_nil ?_
    intro w12 hs12
    ((repeat ((fail_if_success (with_reducible refine Go.at_region ?_)); go_step)); refine wp_region_lit ?_)
    (refine wpList_plain rfl fun K hK => ?_; go_simp; refine hK _ _ ?_; clear hK K; (try simp only [Act.put, pvA, pv0, pv1]))
    refine wpList_nil ?_
    (repeat ((fail_if_success (with_reducible refine Go.at_region ?_)); go_step))
    go_ret
    exact ⟨by rw [hVB.out, hV0]; rfl, hbl11.trans (hs12.mono hbl11.size)⟩
  subst h2
  by_cases h3 : ep = 0
  case neg =>
    have q1 : (ep != 0) = true := by simpa using h3
    have hV0 : verOk k s = false := by rw [hOk.out]; rw [decide_eq_false h3]; rfl
    (repeat ((fail_if_success (with_reducible refine Go.at_region ?_)); go_step))
    refine list_all ?_
    iterate 10 (apply calm_on rfl; (focus (intro W hB; go_simp; exact ⟨rfl, Below.refl _ _⟩)); simp only [Act.put, pvA, pv0, pv1])
    refine calm_nil ?_
    intro w12 hs12
    ((repeat ((fail_if_success (with_reducible refine Go.at_region ?_)); go_step)); refine wp_region_lit ?_)
    (refine wpList_plain rfl fun K hK => ?_; go_simp; refine hK _ _ ?_; clear hK K; (try simp only [Act.put, pvA, pv0, pv1]))
    refine wpList_nil ?_
    (repeat ((fail_if_success (with_reducible refine Go.at_region ?_)); go_step))
    go_ret
    exact ⟨by rw [hVB.out, hV0]; rfl, hbl11.trans (hs12.mono hbl11.size)⟩
  subst h3
  have hV1 : verOk k s = true := by rw [hOk.out]; rfl
  (repeat ((fail_if_success (with_reducible refine Go.at_region ?_)); go_step))
  refine list_all ?_
  iterate 10 (apply calm_on rfl; (focus (intro W hB; go_simp; exact ⟨rfl, Below.refl _ _⟩)); simp only [Act.put, pvA, pv0, pv1])
  refine calm_nil ?_
  intro w12 hs12
  have fb3 := hid (gb3.out.step hs12)
  have fb7 := hid (gb7.out.step hs12)
  have fb8 := hid (gb8.out.step hs12)
  have fbA := hid (gbA.out.step hs12)
  have fbC := hid (gbC.out.step hs12)
  have hbl12 := hbl11.trans (hs12.mono hbl11.size)
  clear gb3 gb7 gb8 gbA gbC hbl11 hs12
  have cS := hid fun w => fsub_any 0 pa.x w (by decide) hpal.x
  obtain ⟨sx, hsx⟩ : ∃ z, z = subP 0 pa.x := ⟨_, rfl⟩
  have hsl : LtP ⟨sx, pa.y⟩ := ⟨by rw [hsx]; exact p_mod_lt _, hpal.y⟩
  rw [← hsx] at cS
  have hAw := hid (show verA k = ⟨sx, pa.y⟩ by unfold verA; rw [← Hpa.out, hsx])
  clear hsx
  have cW := hid fun w => widen_any ⟨sx, pa.y⟩ w hsl
  have hTw := widenW_t ⟨sx, pa.y⟩ hsl
  have bN := hid nil_built
  obtain ⟨aw, haw⟩ : ∃ z, z = widenW ⟨sx, pa.y⟩ := ⟨_, rfl⟩
  rw [← haw] at cW hTw
  have Haw := hid (show widenW (verA k) = aw by rw [hAw.out, haw])
  clear haw
  unfold wd at cS
  unfold pt w4 at cW
  (repeat ((fail_if_success (with_reducible refine Go.at_region ?_)); go_step))
  refine draw_new1 8 _ rfl 66 (cells4 zero4) 14 rfl rfl rfl (by simp) z4 (by kernel_rfl) (by kernel_rfl) (by kernel_rfl) ?_
  simp only [List.take_succ_cons, List.take_zero]
  (refine calm_build rfl 25 _ rfl (cellsW 0) (by first | (simp only [List.map_toArray, List.map_cons, List.map_nil]; exact bN.out) | exact bN.out) ?_; simp only [Act.put, pvA, pv0, pv1])
  (apply calm_on rfl; (focus (intro W hB; go_simp; exact ⟨rfl, Below.refl _ _⟩)); simp only [Act.put, pvA, pv0, pv1])
  (refine calm_part rfl _ _ rfl _ _ rfl _ _ (cellsW pa.x) fbA.out (inP_x pa) gWd (iW pa.x) ?_; simp only [Act.put, pvA, pv0, pv1])
  (apply calm_on rfl; (focus (intro W hB; go_simp; refine (cS.out W).mono ?_; rintro _ _ ⟨rfl, hb'⟩; exact ⟨rfl, hb'⟩)); simp only [Act.put, pvA, pv0, pv1])
  (apply calm_on rfl; (focus (intro W hB; go_simp; exact ⟨rfl, Below.refl _ _⟩)); simp only [Act.put, pvA, pv0, pv1])
  (refine calm_part rfl _ _ rfl _ _ rfl _ _ (cellsW pa.y) fbA.out (inP_y pa) gWd (iW pa.y) ?_; simp only [Act.put, pvA, pv0, pv1])
  (refine calm_build rfl 44 _ rfl (cellsP ⟨sx, pa.y⟩) (by first | (simp only [List.map_toArray, List.map_cons, List.map_nil]; exact (bPe _ _)) | exact (bPe _ _)) ?_; simp only [Act.put, pvA, pv0, pv1])
  (apply calm_on rfl; (focus (intro W hB; go_simp; refine (cW.out W).mono ?_; rintro _ _ ⟨rfl, hb'⟩; exact ⟨rfl, hb'⟩)); simp only [Act.put, pvA, pv0, pv1])
  refine calm_nil ?_
  intro G14 w13 hle13 hx13 hn13
  simp only [List.drop_succ_cons, List.drop_zero]
  (try simp only [Act.put, pvA, pv0, pv1])
  have nE3 : w.heap.size ≠ G14 := by have := fb3.out.lt; omega
  have nE7 : G7 ≠ G14 := by have := fb7.out.lt; omega
  have nE8 : G8 ≠ G14 := by have := fb8.out.lt; omega
  have nEC : G12 ≠ G14 := by have := fbC.out.lt; omega
  have hG14 : w.heap.size ≤ G14 := by have := hbl12.size; omega
  (refine wpList_set _ _ _ rfl rfl rfl _ _ rfl rfl _ _ hn13 (i4 aw) rfl (one_cells4 _) ?_)
  refine wpList_nil ?_
  have gb3 := hid ((fb3.out.step hx13).other nE3 (cells4 aw))
  have gb7 := hid ((fb7.out.step hx13).other nE7 (cells4 aw))
  have gb8 := hid ((fb8.out.step hx13).other nE8 (cells4 aw))
  have gbC := hid ((fbC.out.step hx13).other nEC (cells4 aw))
  have gbE := hid (hn13.set (cells4 aw))
  have hbl14 := below_set (hbl12.trans (hx13.mono hbl12.size)) G14 hG14 (cells4 aw)
  generalize w13.setRow G14 (cells4 aw) = w14 at gb3 gb7 gb8 gbC gbE hbl14 ⊢
  clear fb3 fb7 fb8 fbA fbC hx13 hle13 hn13 hbl12 cS cW
  have HM14 := hid (HM.out.below hbl14)
  have cB := hid fun w => base_any w
  have cWb := hid fun w => widen_any baseP w ⟨bsxN_lt, bsyN_lt⟩
  have hTb := widenW_t baseP ⟨bsxN_lt, bsyN_lt⟩
  have hH := hid fun (v : Value) (w : World) (h : RdZ w v [r, k, msg]) => hashed_any [r, k, msg] v w h (by simp) (by simp; rw [lr, hk]; omega)
  have cBo := hid fun w => bothW_any n (widenW baseP) (hashN [r, k, msg]) aw w hTb hTw
  have hTg := bothW_t n (widenW baseP) (hashN [r, k, msg]) aw hTb hTw
  have hG := hid (show verG k msg s = bothW n (widenW baseP) (hashN [r, k, msg]) aw by unfold verG verN; rw [← Hn.out, ← Hr.out, Haw.out])
  obtain ⟨q, hq⟩ : ∃ q, q = bothW n (widenW baseP) (hashN [r, k, msg]) aw := ⟨_, rfl⟩
  rw [← hq] at cBo hTg hG
  clear hq hTb
  generalize hashN [r, k, msg] = h at hH cBo
  generalize widenW baseP = bw at cWb cBo
  generalize baseP = pb at cB cWb
  unfold pt at cB cWb
  unfold w4 at cWb cBo
  unfold wd at hH cBo
  have sl55 : ∀ (b : Nat) (w : World), (Instr.sliceAt 28 (.pointer (some ⟨b, 0, none⟩)) none none none).run Try.prog w = .ok (.slice (some ⟨b, 0, none⟩) 32 32) w := fun b w => sl_all uK sY1 b 0 w
  (repeat ((fail_if_success (with_reducible refine Go.at_region ?_)); go_step))
  (refine wp_region_loose_tail 11 [.kn (.agg (cellsW n)), .kn (.agg (cellsP pb)), .kn (.agg (cells4 bw)), .kn (.slice (some ⟨G7, 0, none⟩) 32 32), .kn (.slice (some ⟨w.heap.size, 0, none⟩) 32 32), .kn vm, .lo (fun v w => RdZ w v [r, k, msg]), .kn (.agg (cellsW h)), .kn (.agg (cells4 aw)), .kn (.agg (cells4 q)), .lo (newR w14 66 (cells4 zero4))] (by kernel_rfl) (by kernel_rfl) (by kernel_rfl) (by first | exact trivial | ((repeat (first | refine keepsAll_kn ?_ | (refine keepsAll_lo (fun v w w' h hb => ?_) ?_; first | exact RdN.below h hb | exact RdL.below h hb | exact RdY.below h hb | exact PtY.below h hb | exact RdZ.below h hb | exact newR_keeps _ _ _ h hb))); exact trivial)) ?_; simp only [List.take_succ_cons, List.take_zero, List.drop_succ_cons, List.drop_zero])
  (refine loose_part rfl 25 (.tmp 8) rfl G8 0 rfl 25 (cellsW n) (cellsW n) gb8.out (fun j v h => by rw [Nat.zero_add]; exact h) gWd iN.out rfl ?_; simp only [Act.put, pvA, pv0, pv1])
  (refine loose_step_on rfl (fun W' hB' hd Kt hK => ?_) ?_; (focus (clear hd; go_simp; refine (cB.out _).mono ?_; rintro _ _ ⟨rfl, hb'⟩; exact hK _ _ hb' rfl)); rintro _ rfl; simp only [Act.put, pvA, pv0, pv1])
  (refine loose_step_on rfl (fun W' hB' hd Kt hK => ?_) ?_; (focus (clear hd; go_simp; refine (cWb.out _).mono ?_; rintro _ _ ⟨rfl, hb'⟩; exact hK _ _ hb' rfl)); rintro _ rfl; simp only [Act.put, pvA, pv0, pv1])
  iterate 2 (refine loose_step_on rfl (fun W' hB' hd K hK => ?_) ?_; (focus (clear hd; go_simp; exact hK _ _ (Below.refl _ _) rfl)); rintro _ rfl; simp only [Act.put, pvA, pv0, pv1])
  (refine loose_move rfl (.tmp 1) (.inl rfl) rfl ?_; simp only [Act.put, pvA, pv0, pv1])
  (refine loose_step_on rfl (fun W' hB' hd Kt hK => ?_) ?_; (focus (skip; clear hd; refine wp_ones3 (.slice (some ⟨G7, 0, none⟩) 32 32) (.slice (some ⟨w.heap.size, 0, none⟩) 32 32) vm rfl rfl rfl rfl uPP iPP rfl rfl rfl hvm (hK _ _ (below_alloc _ _) ?_); exact rdz3 (blk_all (gb7.out.step hB') lr) (blk_all (gb3.out.step hB') hk) (HM14.out.below hB'))); intro v58 _; simp only [Act.put, pvA, pv0, pv1])
  (refine loose_step_on rfl (fun W' hB' hd Kt hK => ?_) ?_; (focus (have g58 : RdZ W' v58 [r, k, msg] := hd ⟨6, Ground.data⟩ (by simp) rfl _ 58 rfl rfl (by simp); clear hd; go_simp; refine (hH.out v58 _ g58).mono ?_; rintro _ _ ⟨rfl, hb'⟩; exact hK _ _ hb' rfl)); rintro _ rfl; simp only [Act.put, pvA, pv0, pv1])
  (refine loose_part rfl 66 (.tmp 14) rfl G14 0 rfl 66 (cells4 aw) (cells4 aw) gbE.out (fun j v h => by rw [Nat.zero_add]; exact h) g4 (i4 aw) rfl ?_; simp only [Act.put, pvA, pv0, pv1])
  (refine loose_step_on rfl (fun W' hB' hd Kt hK => ?_) ?_; (focus (clear hd; go_simp; refine (cBo.out _).mono ?_; rintro _ _ ⟨rfl, hb'⟩; exact hK _ _ hb' rfl)); rintro _ rfl; simp only [Act.put, pvA, pv0, pv1])
  (refine loose_new rfl rfl rfl z4 ?_; intro v15; simp only [Act.put, pvA, pv0, pv1])
  intro w15 hs15 hf
  have g15 : newR w14 66 (cells4 zero4) v15 w15 := hf 10 _ 15 (by first | omega | simp) rfl rfl (by simp)
  obtain ⟨G15, rfl, hn15, hle15⟩ := g15
  (try simp only [List.drop_succ_cons, List.drop_zero])
  have nFC : G12 ≠ G15 := by have := gbC.out.lt; omega
  have hG15 : w.heap.size ≤ G15 := by have := hbl14.size; omega
  (refine wpList_set _ _ _ rfl rfl rfl _ _ rfl rfl _ _ hn15 (i4 q) rfl (one_cells4 _) ?_)
  refine wpList_nil ?_
  have fbC := hid ((gbC.out.step hs15).other nFC (cells4 q))
  have fbF := hid (hn15.set (cells4 q))
  have hbl16 := below_set (hbl14.trans (hs15.mono hbl14.size)) G15 hG15 (cells4 q)
  generalize w15.setRow G15 (cells4 q) = w16 at fbC fbF hbl16 ⊢
  clear gb3 gb7 gb8 gbC gbE hs15 hle15 hn15 hf hbl14 HM14 cB cWb cBo hH sl55
  have hVX := hid (show verX k msg s = decide (val5 (mul5 (fOf pp.x) q.z) % pN = val5 q.x % pN) by unfold verX; rw [hG.out, ← Hr.out, ← Hpp.out])
  have hVY := hid (show verY k msg s = decide (val5 (mul5 (fOf pp.y) q.z) % pN = val5 q.y % pN) by unfold verY; rw [hG.out, ← Hr.out, ← Hpp.out])
  have c1 := hid fun w => feOf_any pp.x w hppl.x
  have t1 := fOf_t _ hppl.x
  have c2 := hid fun w => mul5_any (fOf pp.x) q.z w t1 hTg.z
  have t2 := mul5_t _ _ t1 hTg.z
  have c3 := hid fun w => word5_any (mul5 (fOf pp.x) q.z) w t2
  have c4 := hid fun w => word5_any q.x w hTg.x
  have c5 := hid fun w => feOf_any pp.y w hppl.y
  have t5 := fOf_t _ hppl.y
  have c6 := hid fun w => mul5_any (fOf pp.y) q.z w t5 hTg.z
  have t6 := mul5_t _ _ t5 hTg.z
  have c7 := hid fun w => word5_any (mul5 (fOf pp.y) q.z) w t6
  have c8 := hid fun w => word5_any q.y w hTg.y
  have e1 := eq_wd (val5 (mul5 (fOf pp.x) q.z) % pN) (val5 q.x % pN) (p_mod_lt _) (p_mod_lt _)
  have e2 := eq_wd (val5 (mul5 (fOf pp.y) q.z) % pN) (val5 q.y % pN) (p_mod_lt _) (p_mod_lt _)
  rw [← hVX.out] at e1
  rw [← hVY.out] at e2
  clear t1 t2 t5 t6
  generalize val5 (mul5 (fOf pp.x) q.z) % pN = a1 at c3 e1
  generalize mul5 (fOf pp.x) q.z = m1 at c2 c3
  generalize fOf pp.x = f1 at c1 c2
  generalize val5 (mul5 (fOf pp.y) q.z) % pN = a2 at c7 e2
  generalize mul5 (fOf pp.y) q.z = m2 at c6 c7
  generalize fOf pp.y = f2 at c5 c6
  generalize val5 q.x % pN = b1 at c4 e1
  generalize val5 q.y % pN = b2 at c8 e2
  unfold fe wd at *
  have hres := hid (show verB k msg s = (verX k msg s && verY k msg s) by rw [hVB.out, hV1]; rfl)
  obtain ⟨bx, hbx⟩ : ∃ z, z = verX k msg s := ⟨_, rfl⟩
  obtain ⟨bY, hby⟩ : ∃ z, z = verY k msg s := ⟨_, rfl⟩
  rw [← hbx, ← hby] at hres
  rw [← hbx] at e1
  rw [← hby] at e2
  clear hbx hby hVX hVY hVB hV1 hOk
  cases bx with
  | false =>
    (repeat ((fail_if_success (with_reducible refine Go.at_region ?_)); go_step))
    refine draw_all (by kernel_rfl) (by kernel_rfl) (by kernel_rfl) ?_
    (apply calm_on rfl; (focus (intro W hB; go_simp; exact ⟨rfl, Below.refl _ _⟩)); simp only [Act.put, pvA, pv0, pv1])
    (refine calm_part rfl _ _ rfl _ _ rfl _ _ (cellsW pp.x) fbC.out (inP_x pp) gWd (iW pp.x) ?_; simp only [Act.put, pvA, pv0, pv1])
    (apply calm_on rfl; (focus (intro W hB; go_simp; refine (c1.out W).mono ?_; rintro _ _ ⟨rfl, hb'⟩; exact ⟨rfl, hb'⟩)); simp only [Act.put, pvA, pv0, pv1])
    (apply calm_on rfl; (focus (intro W hB; go_simp; exact ⟨rfl, Below.refl _ _⟩)); simp only [Act.put, pvA, pv0, pv1])
    (refine calm_part rfl _ _ rfl _ _ rfl _ _ (cells5 q.z) fbF.out (in4_z q) g5 (i5 q.z) ?_; simp only [Act.put, pvA, pv0, pv1])
    (apply calm_on rfl; (focus (intro W hB; go_simp; refine (c2.out W).mono ?_; rintro _ _ ⟨rfl, hb'⟩; exact ⟨rfl, hb'⟩)); simp only [Act.put, pvA, pv0, pv1])
    (apply calm_on rfl; (focus (intro W hB; go_simp; refine (c3.out W).mono ?_; rintro _ _ ⟨rfl, hb'⟩; exact ⟨rfl, hb'⟩)); simp only [Act.put, pvA, pv0, pv1])
    (apply calm_on rfl; (focus (intro W hB; go_simp; exact ⟨rfl, Below.refl _ _⟩)); simp only [Act.put, pvA, pv0, pv1])
    (refine calm_part rfl _ _ rfl _ _ rfl _ _ (cells5 q.x) fbF.out (in4_x q) g5 (i5 q.x) ?_; simp only [Act.put, pvA, pv0, pv1])
    (apply calm_on rfl; (focus (intro W hB; go_simp; refine (c4.out W).mono ?_; rintro _ _ ⟨rfl, hb'⟩; exact ⟨rfl, hb'⟩)); simp only [Act.put, pvA, pv0, pv1])
    iterate 2 (apply calm_on rfl; (focus (intro W hB; go_simp; exact ⟨rfl, Below.refl _ _⟩)); simp only [Act.put, pvA, pv0, pv1])
    iterate 11 (refine calm_off rfl ?_; simp only [Act.put, pvA, pv0, pv1])
    iterate 2 (apply calm_on rfl; (focus (intro W hB; go_simp; exact ⟨rfl, Below.refl _ _⟩)); simp only [Act.put, pvA, pv0, pv1])
    refine calm_nil ?_
    intro w17 hs17
    (try dsimp only)
    (repeat ((fail_if_success (with_reducible refine Go.at_region ?_)); go_step))
    go_ret
    exact ⟨by rw [hres.out]; rfl, hbl16.trans (hs17.mono hbl16.size)⟩
  | true =>
    (repeat ((fail_if_success (with_reducible refine Go.at_region ?_)); go_step))
    refine draw_all (by kernel_rfl) (by kernel_rfl) (by kernel_rfl) ?_
    (apply calm_on rfl; (focus (intro W hB; go_simp; exact ⟨rfl, Below.refl _ _⟩)); simp only [Act.put, pvA, pv0, pv1])
    (refine calm_part rfl _ _ rfl _ _ rfl _ _ (cellsW pp.x) fbC.out (inP_x pp) gWd (iW pp.x) ?_; simp only [Act.put, pvA, pv0, pv1])
    (apply calm_on rfl; (focus (intro W hB; go_simp; refine (c1.out W).mono ?_; rintro _ _ ⟨rfl, hb'⟩; exact ⟨rfl, hb'⟩)); simp only [Act.put, pvA, pv0, pv1])
    (apply calm_on rfl; (focus (intro W hB; go_simp; exact ⟨rfl, Below.refl _ _⟩)); simp only [Act.put, pvA, pv0, pv1])
    (refine calm_part rfl _ _ rfl _ _ rfl _ _ (cells5 q.z) fbF.out (in4_z q) g5 (i5 q.z) ?_; simp only [Act.put, pvA, pv0, pv1])
    (apply calm_on rfl; (focus (intro W hB; go_simp; refine (c2.out W).mono ?_; rintro _ _ ⟨rfl, hb'⟩; exact ⟨rfl, hb'⟩)); simp only [Act.put, pvA, pv0, pv1])
    (apply calm_on rfl; (focus (intro W hB; go_simp; refine (c3.out W).mono ?_; rintro _ _ ⟨rfl, hb'⟩; exact ⟨rfl, hb'⟩)); simp only [Act.put, pvA, pv0, pv1])
    (apply calm_on rfl; (focus (intro W hB; go_simp; exact ⟨rfl, Below.refl _ _⟩)); simp only [Act.put, pvA, pv0, pv1])
    (refine calm_part rfl _ _ rfl _ _ rfl _ _ (cells5 q.x) fbF.out (in4_x q) g5 (i5 q.x) ?_; simp only [Act.put, pvA, pv0, pv1])
    (apply calm_on rfl; (focus (intro W hB; go_simp; refine (c4.out W).mono ?_; rintro _ _ ⟨rfl, hb'⟩; exact ⟨rfl, hb'⟩)); simp only [Act.put, pvA, pv0, pv1])
    iterate 3 (apply calm_on rfl; (focus (intro W hB; go_simp; exact ⟨rfl, Below.refl _ _⟩)); simp only [Act.put, pvA, pv0, pv1])
    (refine calm_part rfl _ _ rfl _ _ rfl _ _ (cellsW pp.y) fbC.out (inP_y pp) gWd (iW pp.y) ?_; simp only [Act.put, pvA, pv0, pv1])
    (apply calm_on rfl; (focus (intro W hB; go_simp; refine (c5.out W).mono ?_; rintro _ _ ⟨rfl, hb'⟩; exact ⟨rfl, hb'⟩)); simp only [Act.put, pvA, pv0, pv1])
    (apply calm_on rfl; (focus (intro W hB; go_simp; exact ⟨rfl, Below.refl _ _⟩)); simp only [Act.put, pvA, pv0, pv1])
    (refine calm_part rfl _ _ rfl _ _ rfl _ _ (cells5 q.z) fbF.out (in4_z q) g5 (i5 q.z) ?_; simp only [Act.put, pvA, pv0, pv1])
    (apply calm_on rfl; (focus (intro W hB; go_simp; refine (c6.out W).mono ?_; rintro _ _ ⟨rfl, hb'⟩; exact ⟨rfl, hb'⟩)); simp only [Act.put, pvA, pv0, pv1])
    (apply calm_on rfl; (focus (intro W hB; go_simp; refine (c7.out W).mono ?_; rintro _ _ ⟨rfl, hb'⟩; exact ⟨rfl, hb'⟩)); simp only [Act.put, pvA, pv0, pv1])
    (apply calm_on rfl; (focus (intro W hB; go_simp; exact ⟨rfl, Below.refl _ _⟩)); simp only [Act.put, pvA, pv0, pv1])
    (refine calm_part rfl _ _ rfl _ _ rfl _ _ (cells5 q.y) fbF.out (in4_y q) g5 (i5 q.y) ?_; simp only [Act.put, pvA, pv0, pv1])
    (apply calm_on rfl; (focus (intro W hB; go_simp; refine (c8.out W).mono ?_; rintro _ _ ⟨rfl, hb'⟩; exact ⟨rfl, hb'⟩)); simp only [Act.put, pvA, pv0, pv1])
    iterate 3 (apply calm_on rfl; (focus (intro W hB; go_simp; exact ⟨rfl, Below.refl _ _⟩)); simp only [Act.put, pvA, pv0, pv1])
    refine calm_nil ?_
    intro w17 hs17
    (try dsimp only)
    (repeat ((fail_if_success (with_reducible refine Go.at_region ?_)); go_step))
    go_ret
    exact ⟨by rw [hres.out]; rfl, hbl16.trans (hs17.mono hbl16.size)⟩
end Go.Proofs.Ytejnnghfelpioaa
namespace Go.Proofs.Ytejnnghfelpioaa
open Go.RowKit
def vC (W s : List (BitVec 64)) : Nat → List (BitVec 64)
  | 0 => s
  | t + 1 => stepV (vC W s t) (nb shaK t) (nb W t)
theorem vC_eq (ys : List (BitVec 8)) (s : List (BitVec 64)) (t : Nat) (ht : t ≤ 80) : vGo (w16 16 ys 128) s t = vC (w80 (w16 80 ys 128) 64) s t := by
  induction t with
  | zero => rfl
  | succ t ih => unfold vGo vC; rw [ih (by omega), w80_word ys t (by omega)]
def blockC (s : List (BitVec 64)) (ys : List (BitVec 8)) : List (BitVec 64) := addGo (vC (w80 (w16 80 ys 128) 64) s 80) s 8
theorem blockC_eq (s : List (BitVec 64)) (ys : List (BitVec 8)) : blockL s ys = blockC s ys := by unfold blockL blockC; rw [vC_eq ys s 80 (by omega)]
theorem sha_one (m : List (BitVec 8)) (h : (padS m).length = 128) : shaL m = outS (blockC shaH (padS m)) 64 := by
  unfold shaL
  rw [h, show 128 / 128 = 1 from rfl]
  show outS (blockL shaH (chunkS (padS m) 0)) 64 = _
  rw [blockC_eq]
  unfold chunkS
  rw [Nat.mul_zero, List.drop_zero, List.take_of_length_le (by omega)]
end Go.Proofs.Ytejnnghfelpioaa
namespace Go.Proofs.Ytejnnghfelpioaa
open Go.RowKit
set_option maxRecDepth 1000000
def sdL : List (BitVec 8) := [157, 97, 177, 157, 239, 253, 90, 96, 186, 132, 74, 244, 146, 236, 44, 196, 68, 73, 197, 105, 123, 50, 105, 25, 112, 59, 172, 3, 28, 174, 127, 96]
def h0L : List (BitVec 8) := [53, 124, 131, 134, 79, 40, 51, 203, 66, 122, 46, 241, 192, 10, 1, 60, 253, 255, 39, 104, 217, 128, 192, 163, 165, 32, 240, 6, 144, 77, 233, 15, 155, 79, 10, 254, 40, 11, 116, 106, 119, 134, 132, 231, 84, 66, 80, 32, 87, 183, 71, 58, 3, 240, 143, 150, 245, 163, 142, 146, 135, 224, 31, 143]
def alA : Nat := 36144925721603087658594284515452164870581325872720374094707712194495455132720
def alB : List (BitVec 8) := [155, 79, 10, 254, 40, 11, 116, 106, 119, 134, 132, 231, 84, 66, 80, 32, 87, 183, 71, 58, 3, 240, 143, 150, 245, 163, 142, 146, 135, 224, 31, 143]
def kyP : P2 := ⟨38815646466658113194383306759739515082307681141926459231621296960732224964046, 11903303657706407974989296177215005343713679411332034699907763981919547054807⟩
def kyL : List (BitVec 8) := [215, 90, 152, 1, 130, 177, 10, 183, 213, 75, 254, 211, 201, 100, 7, 58, 14, 225, 114, 243, 218, 166, 35, 37, 175, 2, 26, 104, 247, 7, 81, 26]
def alR : Nat := 2015312323900227545039973048451112962192803170366412514267238242679089760755
def sgP : P2 := ⟨44370630452101398467924320556439323233869374150616132215183787387252341590058, 38448863731492799660668882834560725606410712239157980760146247592118262650597⟩
def sgL : List (BitVec 8) := [229, 86, 67, 0, 195, 96, 172, 114, 144, 134, 226, 204, 128, 110, 130, 138, 132, 135, 127, 30, 184, 229, 217, 116, 216, 115, 224, 101, 34, 73, 1, 85]
def alH : Nat := 1958233733501237659471134851339390337284068724042047466985993338226439154310
def alH1 : Nat := 3522795203402148482764146148954277926717685080406457998596202582178711798453
def alN : Nat := 5004556735901913393272427758925840403246877222315506387332009764265656498271
def alS : List (BitVec 8) := [229, 86, 67, 0, 195, 96, 172, 114, 144, 134, 226, 204, 128, 110, 130, 138, 132, 135, 127, 30, 184, 229, 217, 116, 216, 115, 224, 101, 34, 73, 1, 85, 95, 184, 130, 21, 144, 163, 59, 172, 198, 30, 57, 112, 28, 249, 180, 107, 210, 91, 245, 240, 89, 91, 190, 36, 101, 81, 65, 67, 142, 122, 16, 11]
theorem sha_sd_b : blockC shaH (padS sdL) = [3854099993999193035, 4790192769505820988, 18302390741936160931, 11898774126494345487, 11191175685748782186, 8612717466478596128, 6320598916537552790, 17700147720492162959] := by decide +kernel
theorem sha_sd_o : outS [3854099993999193035, 4790192769505820988, 18302390741936160931, 11898774126494345487, 11191175685748782186, 8612717466478596128, 6320598916537552790, 17700147720492162959] 64 = [53, 124, 131, 134, 79, 40, 51, 203, 66, 122, 46, 241, 192, 10, 1, 60, 253, 255, 39, 104, 217, 128, 192, 163, 165, 32, 240, 6, 144, 77, 233, 15, 155, 79, 10, 254, 40, 11, 116, 106, 119, 134, 132, 231, 84, 66, 80, 32, 87, 183, 71, 58, 3, 240, 143, 150, 245, 163, 142, 146, 135, 224, 31, 143] := by decide +kernel
theorem sha_sd : shaL sdL = h0L := by rw [sha_one sdL (by decide +kernel), sha_sd_b, sha_sd_o]; rfl
theorem sha_r_b : blockC shaH (padS alB) = [13164475641069989721, 9509932450426471338, 10942261363819122011, 7085227815478653684, 306412736497058716, 16022516957188131835, 7944592038670115968, 3645139585509438765] := by decide +kernel
theorem sha_r_o : outS [13164475641069989721, 9509932450426471338, 10942261363819122011, 7085227815478653684, 306412736497058716, 16022516957188131835, 7944592038670115968, 3645139585509438765] 64 = [182, 177, 156, 216, 224, 66, 111, 89, 131, 250, 17, 45, 137, 161, 67, 170, 151, 218, 184, 188, 93, 235, 141, 91, 98, 83, 201, 40, 182, 82, 114, 244, 4, 64, 152, 194, 169, 144, 3, 156, 222, 91, 106, 72, 24, 223, 11, 251, 110, 64, 220, 93, 238, 84, 36, 128, 50, 150, 35, 35, 231, 1, 53, 45] := by decide +kernel
theorem sha_r : shaL alB = [182, 177, 156, 216, 224, 66, 111, 89, 131, 250, 17, 45, 137, 161, 67, 170, 151, 218, 184, 188, 93, 235, 141, 91, 98, 83, 201, 40, 182, 82, 114, 244, 4, 64, 152, 194, 169, 144, 3, 156, 222, 91, 106, 72, 24, 223, 11, 251, 110, 64, 220, 93, 238, 84, 36, 128, 50, 150, 35, 35, 231, 1, 53, 45] := by rw [sha_one alB (by decide +kernel), sha_r_b, sha_r_o]
theorem sha_h_b : blockC shaH (padS (sgL ++ kyL)) = [2842059623401484263, 18428124957239378555, 242614993760941040, 9377321590807045314, 1076742788928381639, 2338513036516782764, 698594959256859688, 3992703284400623263] := by decide +kernel
theorem sha_h_o : outS [2842059623401484263, 18428124957239378555, 242614993760941040, 9377321590807045314, 1076742788928381639, 2338513036516782764, 698594959256859688, 3992703284400623263] 64 = [39, 113, 6, 43, 107, 83, 111, 231, 255, 189, 218, 3, 32, 195, 130, 123, 3, 93, 241, 13, 40, 77, 243, 240, 130, 34, 240, 77, 188, 167, 164, 194, 14, 241, 91, 220, 152, 138, 34, 199, 32, 116, 17, 55, 124, 51, 242, 172, 9, 177, 232, 106, 4, 98, 52, 40, 55, 104, 238, 123, 160, 60, 14, 159] := by decide +kernel
theorem sha_h : shaL (sgL ++ kyL) = [39, 113, 6, 43, 107, 83, 111, 231, 255, 189, 218, 3, 32, 195, 130, 123, 3, 93, 241, 13, 40, 77, 243, 240, 130, 34, 240, 77, 188, 167, 164, 194, 14, 241, 91, 220, 152, 138, 34, 199, 32, 116, 17, 55, 124, 51, 242, 172, 9, 177, 232, 106, 4, 98, 52, 40, 55, 104, 238, 123, 160, 60, 14, 159] := by rw [sha_one (sgL ++ kyL) (by decide +kernel), sha_h_b, sha_h_o]
theorem sha_h1_b : blockC shaH (padS (sgL ++ kyL ++ [1])) = [11430403421265196102, 3402298852149852396, 9273862251635126080, 939919871453880837, 4874807645049534765, 14274835253221683659, 17402537702090689565, 12232828571827394225] := by decide +kernel
theorem sha_h1_o : outS [11430403421265196102, 3402298852149852396, 9273862251635126080, 939919871453880837, 4874807645049534765, 14274835253221683659, 17402537702090689565, 12232828571827394225] 64 = [158, 160, 243, 89, 203, 235, 244, 70, 47, 55, 100, 199, 166, 28, 120, 236, 128, 179, 96, 149, 52, 157, 175, 64, 13, 11, 68, 36, 167, 86, 226, 5, 67, 166, 203, 185, 175, 137, 57, 45, 198, 26, 103, 8, 15, 128, 113, 203, 241, 130, 59, 214, 99, 117, 76, 29, 169, 195, 188, 198, 22, 5, 86, 177] := by decide +kernel
theorem sha_h1 : shaL (sgL ++ kyL ++ [1]) = [158, 160, 243, 89, 203, 235, 244, 70, 47, 55, 100, 199, 166, 28, 120, 236, 128, 179, 96, 149, 52, 157, 175, 64, 13, 11, 68, 36, 167, 86, 226, 5, 67, 166, 203, 185, 175, 137, 57, 45, 198, 26, 103, 8, 15, 128, 113, 203, 241, 130, 59, 214, 99, 117, 76, 29, 169, 195, 188, 198, 22, 5, 86, 177] := by rw [sha_one (sgL ++ kyL ++ [1]) (by decide +kernel), sha_h1_b, sha_h1_o]
theorem al_seed : seedL sdL = [48, 124, 131, 134, 79, 40, 51, 203, 66, 122, 46, 241, 192, 10, 1, 60, 253, 255, 39, 104, 217, 128, 192, 163, 165, 32, 240, 6, 144, 77, 233, 79, 155, 79, 10, 254, 40, 11, 116, 106, 119, 134, 132, 231, 84, 66, 80, 32, 87, 183, 71, 58, 3, 240, 143, 150, 245, 163, 142, 146, 135, 224, 31, 143] := by unfold seedL; rw [sha_sd]; decide +kernel
theorem al_A : opA sdL = alA := by
  unfold opA seedA; rw [al_seed]; decide +kernel
theorem al_B : opB sdL = alB := by
  unfold opB seedB; rw [al_seed]; decide +kernel
theorem base_on : onB baseP = true := by decide +kernel
theorem base_lt : LtP baseP := ⟨bsxN_lt, bsyN_lt⟩
theorem P2_eq {p q : P2} (h1 : p.x = q.x) (h2 : p.y = q.y) : p = q := by cases p; cases q; simp only [P2.mk.injEq]; exact ⟨h1, h2⟩
theorem al_kP : mulP alA baseP = kyP := by
  rw [mulP_eval _ _ base_lt base_on]
  exact P2_eq (by decide +kernel) (by decide +kernel)
theorem al_K : opK sdL = kyL := by
  have h : sdL.length = 32 := rfl
  have hA : seedA sdL = alA := by rw [← al_A]; unfold opA; rw [if_pos h]
  unfold opK seedK
  rw [if_pos h, hA, al_kP]; decide +kernel
theorem hash_by {yss : List (List (BitVec 8))} {m s : List (BitVec 8)} {n : Nat} (e : yss.flatten = m) (h : shaL m = s) (h2 : leN s % lN = n) : hashN yss = n := by subst e; unfold hashN; rw [h, h2]
theorem al_r : hashN [alB, []] = alR := hash_by (by simp) sha_r (by decide +kernel)
theorem al_rP : mulP alR baseP = sgP := by
  rw [mulP_eval _ _ base_lt base_on]
  exact P2_eq (by decide +kernel) (by decide +kernel)
theorem al_R : sigR sdL [] = sgL := by unfold sigR; rw [al_B, al_r, al_rP]; decide +kernel
theorem al_h : hashN [sgL, kyL, []] = alH := hash_by (by simp) sha_h (by decide +kernel)
theorem al_h1 : hashN [sgL, kyL, [1]] = alH1 := hash_by (m := sgL ++ kyL ++ [1]) (by simp) sha_h1 (by decide +kernel)
theorem al_n0 : (alR + alH * alA % lN) % lN = alN := by decide +kernel
theorem n_by {m msg B R K : List (BitVec 8)} {A r h n : Nat} (hB : opB m = B) (hR : sigR m msg = R) (hK : opK m = K) (hA : opA m = A) (hr : hashN [B, msg] = r) (hh : hashN [R, K, msg] = h) (hn : (r + h * A % lN) % lN = n) : sigN m msg = n := by
  unfold sigN; rw [hB, hR, hK, hA, hr, hh, hn]
theorem al_n : sigN sdL [] = alN := n_by al_B al_R al_K al_A al_r al_h al_n0
theorem al_s0 : sgL ++ leL (alN % pN) = alS := by decide +kernel
theorem s_by {m msg R S : List (BitVec 8)} {n : Nat} (h : m.length = 32) (hR : sigR m msg = R) (hn : sigN m msg = n) (hS : R ++ leL (n % pN) = S) : sigL m msg = S := by
  unfold sigL; rw [if_pos h, hR, hn, hS]
theorem al_s : sigL sdL [] = alS := s_by (by decide +kernel) al_R al_n al_s0
theorem dec_by (k : List (BitVec 8)) (y inv a c : Nat) (P : P2) (h1 : fdN pN (lowB k) = y) (h0 : fdE pN (lowB k) = 0) (h2 : pmF ((dN * (y * y % pN) % pN + 1) % pN) 256 (pN - 2) = inv) (h3 : subP (y * y % pN) 1 * inv % pN = a) (h4 : pmF (a % pN) 256 ((pN + 3) / 8) = c)
    (h5 : (let s := if c * c % pN = a % pN then c else c * 19681161376707505956807079304988542015446066515923890162744021073123829784752 % pN; decide (s * s % pN = a % pN) && !(oddB k && decide ((if s % 2 = 1 then pN - s else s) = 0))) = true)
    (h6 : (let s := if c * c % pN = a % pN then c else c * 19681161376707505956807079304988542015446066515923890162744021073123829784752 % pN; let x := if s % 2 = 1 then pN - s else s; if oddB k = true then subP 0 x else x) = P.x) (h7 : y = P.y) : decP k = P ∧ decE k = 0 := by
  have hy : decY k = y := h1
  have hA : decA k = a := by
    unfold decA
    rw [hy, pow2 _ _ (by decide +kernel), h2, h3]
  have hc : sq0 a = c := by unfold sq0; rw [pow2 _ _ (by decide +kernel), h4]
  have hs : sq1 a = if c * c % pN = a % pN then c else c * 19681161376707505956807079304988542015446066515923890162744021073123829784752 % pN := by unfold sq1; rw [hc, pow_i]
  obtain ⟨s, hs'⟩ : ∃ s, s = if c * c % pN = a % pN then c else c * 19681161376707505956807079304988542015446066515923890162744021073123829784752 % pN := ⟨_, rfl⟩
  rw [← hs'] at hs
  simp only [← hs'] at h5 h6
  rw [Bool.and_eq_true, decide_eq_true_eq] at h5
  have hok : sqOk a = true := by unfold sqOk; rw [hs]; exact decide_eq_true h5.1
  have hx : sqX a = if s % 2 = 1 then pN - s else s := by unfold sqX; rw [if_pos hok, hs]
  have hB : decB k = true := by
    unfold decB
    rw [h0, hA, hok, hx, h5.2]; rfl
  refine ⟨?_, by unfold decE; rw [if_pos hB]⟩
  unfold decP
  rw [if_pos hB, hA, hx, h6, hy, h7]
theorem ky_dec : decP kyL = kyP ∧ decE kyL = 0 :=
  dec_by kyL 11903303657706407974989296177215005343713679411332034699907763981919547054807 26183629517387047170107039263209504307805777955316928339310294106180371817729 51523483521353598821315256951153545662292839605715741684547197689873795447516 1168942905347087226421132674947918255635854516639908037441319645233198647104 kyP (by decide +kernel) (by decide +kernel) (by decide +kernel) (by decide +kernel) (by decide +kernel) (by decide +kernel) (by decide +kernel) (by decide +kernel)
theorem sg_dec : decP sgL = sgP ∧ decE sgL = 0 :=
  dec_by sgL 38448863731492799660668882834560725606410712239157980760146247592118262650597 4332324842275715445375348713322146800773105034171902632131315053651204531706 55219342866674293627510244733923361162154483897632841798972269390984863624800 44370630452101398467924320556439323233869374150616132215183787387252341590058 sgP (by decide +kernel) (by decide +kernel) (by decide +kernel) (by decide +kernel) (by decide +kernel) (by decide +kernel) (by decide +kernel) (by decide +kernel)
def nG (n h : Nat) (A : P2) : NQ := nboth n h (nopen baseP) (nopen ⟨subP 0 A.x, A.y⟩) (nsum (nopen baseP) (nopen ⟨subP 0 A.x, A.y⟩)) 256
theorem ver_g {k msg s r : List (BitVec 8)} {n h : Nat} {A : P2} (hr : s.take 32 = r) (h1 : fdN lN (s.drop 32) = n) (h2 : hashN [r, k, msg] = h) (h4 : decP k = A) : qW (verG k msg s) = toQ (nG n h A) := by
  subst hr
  have hA : verA k = ⟨subP 0 A.x, A.y⟩ := by unfold verA; rw [h4]
  have ht := widenW_t (verA k) (verA_lt k)
  unfold verG verN nG
  rw [qW_both _ _ _ _ (widenW_t _ base_lt) ht, h1, h2, hA, qW_widen, qW_widen, toQ_both, toQ_sum, toQ_open, toQ_open]
theorem ver_key {k msg s : List (BitVec 8)} {g : NQ} (hG : qW (verG k msg s) = toQ g) (u : Nat) : val5 (mul5 (fOf u) (verG k msg s).z) % pN = u * g.z % pN := by
  have ez : fv (verG k msg s).z = nF g.z := congrArg QF.z hG
  show (fv (mul5 (fOf u) (verG k msg s).z)).val = _
  rw [fv_mul, fv_of, ez, ← nF_mul]; rfl
theorem ver_x {k msg s r : List (BitVec 8)} {P : P2} {g : NQ} {b : Bool} (hr : s.take 32 = r) (hG : qW (verG k msg s) = toQ g) (h3 : decP r = P) (hb : decide (P.x * g.z % pN = g.x % pN) = b) : verX k msg s = b := by
  subst hr
  have ex : fv (verG k msg s).x = nF g.x := congrArg QF.x hG
  unfold verX
  rw [h3, ver_key hG, show val5 (verG k msg s).x % pN = g.x % pN from congrArg Fin.val ex, hb]
theorem ver_y {k msg s r : List (BitVec 8)} {P : P2} {g : NQ} {b : Bool} (hr : s.take 32 = r) (hG : qW (verG k msg s) = toQ g) (h3 : decP r = P) (hb : decide (P.y * g.z % pN = g.y % pN) = b) : verY k msg s = b := by
  subst hr
  have ey : fv (verG k msg s).y = nF g.y := congrArg QF.y hG
  unfold verY
  rw [h3, ver_key hG, show val5 (verG k msg s).y % pN = g.y % pN from congrArg Fin.val ey, hb]
theorem ver_ok {k s r : List (BitVec 8)} (hr : s.take 32 = r) (h1 : fdE lN (s.drop 32) = 0) (h2 : decE k = 0) (h3 : decE r = 0) : verOk k s = true := by
  subst hr
  unfold verOk; rw [h1, h2, h3]; rfl
theorem ver_b {k msg s : List (BitVec 8)} {x y : Bool} (h1 : verOk k s = true) (h2 : verX k msg s = x) (h3 : verY k msg s = y) : verB k msg s = (x && y) := by
  unfold verB; rw [h1, h2, h3]; rfl
theorem al_take : alS.take 32 = sgL := by decide +kernel
theorem al_fd : fdN lN (alS.drop 32) = alN := by decide +kernel
theorem al_fe : fdE lN (alS.drop 32) = 0 := by decide +kernel
theorem al_ok : verOk kyL alS = true := ver_ok al_take al_fe ky_dec.2 sg_dec.2
theorem al_x : decide (sgP.x * (nG alN alH kyP).z % pN = (nG alN alH kyP).x % pN) = true := by decide +kernel
theorem al_y : decide (sgP.y * (nG alN alH kyP).z % pN = (nG alN alH kyP).y % pN) = true := by decide +kernel
theorem al_x1 : decide (sgP.x * (nG alN alH1 kyP).z % pN = (nG alN alH1 kyP).x % pN) = false := by decide +kernel
theorem al_g : qW (verG kyL [] alS) = toQ (nG alN alH kyP) := ver_g al_take al_fd al_h ky_dec.1
theorem al_g1 : qW (verG kyL [1] alS) = toQ (nG alN alH1 kyP) := ver_g al_take al_fd al_h1 ky_dec.1
theorem al_true : verB kyL [] alS = true := ver_b al_ok (ver_x al_take al_g sg_dec.1 al_x) (ver_y al_take al_g sg_dec.1 al_y)
theorem al_false : verB kyL [1] alS = false := ver_b (x := false) (y := verY kyL [1] alS) al_ok (ver_x al_take al_g1 sg_dec.1 al_x1) rfl
end Go.Proofs.Ytejnnghfelpioaa
set_option maxRecDepth 4000
namespace Go.Proofs.Ytejnnghfelpioaa
open Go.RowKit
set_option maxRecDepth 100000 in
set_option maxHeartbeats 4000000 in
theorem seed_any (w : World) : Calls Try.prog 21 #[] w fun e w' => ∃ v', e = .returned v' ∧ RdY w' v' sdL ∧ Below w.heap.size w w' := by
  have hn := Blk.new 5 w (cellsY sdL)
  have hb := below_alloc w (.cells (cellsY sdL) 5)
  have hr := hid (blk_all hn (n := 32) rfl)
  go_enter Try.func21, Try.ntmps21
  go_wp2
  go_ret
  exact ⟨_, rfl, hr.out, hb⟩
set_option maxRecDepth 100000 in
set_option maxHeartbeats 8000000 in
theorem ealive_any (w : World) : Calls Try.prog 6 #[] w fun e w' => e = .returned (.bool true) ∧ Below w.heap.size w w' := by
  have cPb := hid fun (v : Value) (w : World) (h : RdY w v sdL) => public_any sdL v w h
  have cSg := hid fun (v : Value) (w : World) (h : RdY w v sdL) => sign_any sdL [] v (.slice none 0 0) w h (RdY.nil _ _ _) (by decide)
  have hE0 : opE sdL = 0 := by unfold opE; rw [if_pos (by decide +kernel)]
  rw [al_K, hE0] at cPb
  rw [al_s, hE0] at cSg
  have cV := hid fun w => verify_any kyL [] alS (.slice none 0 0) w (by decide +kernel) (by decide +kernel) (RdY.nil _ _ _) (by decide)
  have cF := hid fun (v : Value) (w : World) (h : RdY w v [1]) => verify_any kyL [1] alS v w (by decide +kernel) (by decide +kernel) h (by decide)
  rw [al_true] at cV
  rw [al_false] at cF
  have cB := hid fun w => base_any w
  have cO := hid fun w => on_any baseP w base_lt
  rw [base_on] at cO
  have iKy := hid (iK kyL (by decide +kernel))
  have iS := hid (iSg alS (by decide +kernel))
  have zK1 := hid (show (cellsY zKey).size = (cellsY kyL).size by decide +kernel)
  have zS1 := hid (show (cellsY zSig).size = (cellsY alS).size by decide +kernel)
  unfold key at cPb cV cF
  generalize baseP = pb at cB cO
  unfold pt at cB cO
  go_enter Try.func6, Try.ntmps6
  ((repeat ((fail_if_success (with_reducible refine Go.at_region ?_)); go_step)); refine wp_region_lit ?_)
  (refine wpList_plain rfl fun K hK => ?_; go_simp; refine hK _ _ ?_; clear hK K; (try simp only [Act.put, pvA, pv0, pv1]))
  refine wpList_nil ?_
  ((repeat ((fail_if_success (with_reducible refine Go.at_region ?_)); go_step)); refine wp_region_lit ?_)
  (refine wpList_plain rfl fun K hK => ?_; go_simp; refine (seed_any _).mono ?_; rintro _ w1 ⟨v1, rfl, hr1, hs1⟩; refine hK _ _ ?_; clear hK K; (try simp only [Act.put, pvA, pv0, pv1]))
  (refine wpList_plain rfl fun K hK => ?_; go_simp; refine (cPb.out _ _ hr1).mono ?_; rintro _ w2 ⟨rfl, hs2⟩; refine hK _ _ ?_; clear hK K; (try simp only [Act.put, pvA, pv0, pv1]))
  iterate 3 (refine wpList_plain rfl fun K hK => ?_; go_simp; refine hK _ _ ?_; clear hK K; (try simp only [Act.put, pvA, pv0, pv1]))
  have hs12 := hs1.trans (hs2.mono hs1.size)
  clear hr1 hs1 hs2
  (refine wpList_new 28 (cellsY zKey) rfl rfl zK ?_; intro G1 w3 hle3 hs3 hn3; (try simp only [Act.put, pvA, pv0, pv1]))
  (refine wpList_set _ _ _ rfl rfl rfl _ _ rfl rfl _ _ hn3 iKy.out zK1.out (one_cellsY _) ?_)
  (refine wpList_plain rfl fun K hK => ?_; go_simp; refine hK _ _ ?_; clear hK K; (try simp only [Act.put, pvA, pv0, pv1]))
  refine wpList_nil ?_
  have hG1 : w.heap.size ≤ G1 := by have := hs12.size; omega
  have fb1 := hid (hn3.set (cellsY kyL))
  have hbl4 := below_set (hs12.trans (hs3.mono hs12.size)) G1 hG1 (cellsY kyL)
  generalize w3.setRow G1 (cellsY kyL) = w4' at fb1 hbl4 ⊢
  clear hs12 hs3 hle3 hn3
  ((repeat ((fail_if_success (with_reducible refine Go.at_region ?_)); go_step)); refine wp_region_lit ?_)
  (refine wpList_plain rfl fun K hK => ?_; go_simp; refine (seed_any _).mono ?_; rintro _ w5 ⟨v5, rfl, hr5, hs5⟩; refine hK _ _ ?_; clear hK K; (try simp only [Act.put, pvA, pv0, pv1]))
  (refine wpList_plain rfl fun K hK => ?_; go_simp; refine (cSg.out _ _ hr5).mono ?_; rintro _ w6 ⟨rfl, hs6⟩; refine hK _ _ ?_; clear hK K; (try simp only [Act.put, pvA, pv0, pv1]))
  iterate 3 (refine wpList_plain rfl fun K hK => ?_; go_simp; refine hK _ _ ?_; clear hK K; (try simp only [Act.put, pvA, pv0, pv1]))
  have hs56 := hs5.trans (hs6.mono hs5.size)
  clear hr5 hs5 hs6
  (refine wpList_new 33 (cellsY zSig) rfl rfl zSg ?_; intro G3 w7 hle7 hs7 hn7; (try simp only [Act.put, pvA, pv0, pv1]))
  (refine wpList_set _ _ _ rfl rfl rfl _ _ rfl rfl _ _ hn7 iS.out zS1.out (one_cellsY _) ?_)
  (refine wpList_plain rfl fun K hK => ?_; go_simp; refine hK _ _ ?_; clear hK K; (try simp only [Act.put, pvA, pv0, pv1]))
  refine wpList_nil ?_
  have n13 : G1 ≠ G3 := by have := fb1.out.lt; have := hs56.size; omega
  have hG3 : w.heap.size ≤ G3 := by have := hbl4.size; have := hs56.size; omega
  have hb1 := hid (((fb1.out.step hs56).step hs7).other n13 (cellsY alS))
  have hb3 := hid (hn7.set (cellsY alS))
  have hbl8 := below_set (hbl4.trans ((hs56.trans (hs7.mono hs56.size)).mono hbl4.size)) G3 hG3 (cellsY alS)
  generalize w7.setRow G3 (cellsY alS) = w8 at hb1 hb3 hbl8 ⊢
  clear fb1 hbl4 hs56 hs7 hle7 hn7 cPb cSg
  (repeat ((fail_if_success (with_reducible refine Go.at_region ?_)); go_step))
  refine list_tail 38 ?_
  simp only [List.take_succ_cons, List.take_zero]
  iterate 4 (apply calm_on rfl; (focus (intro W hB; go_simp; exact ⟨rfl, Below.refl _ _⟩)); simp only [Act.put, pvA, pv0, pv1])
  (refine calm_cell rfl _ _ rfl _ _ rfl _ _ hb1.out (.int .u8 215) rfl o8 ?_; simp only [Act.put, pvA, pv0, pv1])
  iterate 4 (apply calm_on rfl; (focus (intro W hB; go_simp; exact ⟨rfl, Below.refl _ _⟩)); simp only [Act.put, pvA, pv0, pv1])
  (refine calm_cell rfl _ _ rfl _ _ rfl _ _ hb1.out (.int .u8 90) rfl o8 ?_; simp only [Act.put, pvA, pv0, pv1])
  iterate 4 (apply calm_on rfl; (focus (intro W hB; go_simp; exact ⟨rfl, Below.refl _ _⟩)); simp only [Act.put, pvA, pv0, pv1])
  (refine calm_cell rfl _ _ rfl _ _ rfl _ _ hb1.out (.int .u8 26) rfl o8 ?_; simp only [Act.put, pvA, pv0, pv1])
  iterate 8 (apply calm_on rfl; (focus (intro W hB; go_simp; exact ⟨rfl, Below.refl _ _⟩)); simp only [Act.put, pvA, pv0, pv1])
  (refine calm_cell rfl _ _ rfl _ _ rfl _ _ hb3.out (.int .u8 229) rfl o8 ?_; simp only [Act.put, pvA, pv0, pv1])
  iterate 4 (apply calm_on rfl; (focus (intro W hB; go_simp; exact ⟨rfl, Below.refl _ _⟩)); simp only [Act.put, pvA, pv0, pv1])
  (refine calm_cell rfl _ _ rfl _ _ rfl _ _ hb3.out (.int .u8 86) rfl o8 ?_; simp only [Act.put, pvA, pv0, pv1])
  iterate 3 (apply calm_on rfl; (focus (intro W hB; go_simp; exact ⟨rfl, Below.refl _ _⟩)); simp only [Act.put, pvA, pv0, pv1])
  (refine calm_whole rfl _ _ rfl _ rfl _ _ hb1.out gK iKy.out ?_; simp only [Act.put, pvA, pv0, pv1])
  (refine calm_whole rfl _ _ rfl _ rfl _ _ hb3.out gSig iS.out ?_; simp only [Act.put, pvA, pv0, pv1])
  (apply calm_on rfl; (focus (intro W hB; go_simp; refine (cV.out W).mono ?_; rintro _ _ ⟨rfl, hb'⟩; exact ⟨rfl, hb'⟩)); simp only [Act.put, pvA, pv0, pv1])
  iterate 2 (apply calm_on rfl; (focus (intro W hB; go_simp; exact ⟨rfl, Below.refl _ _⟩)); simp only [Act.put, pvA, pv0, pv1])
  (refine calm_whole rfl _ _ rfl _ rfl _ _ hb1.out gK iKy.out ?_; simp only [Act.put, pvA, pv0, pv1])
  refine calm_nil ?_
  intro w9 hs9
  simp only [List.drop_succ_cons, List.drop_zero]
  have hn10 := Blk.new 5 w9 (cellsY [1])
  have hb10 := below_alloc w9 (.cells (cellsY [1]) 5)
  have hr10 := hid (blk_all hn10 (n := 1) rfl)
  have g3 := hid ((hb3.out.step hs9).step hb10)
  have hbl10 := (hbl8.trans (hs9.mono hbl8.size)).trans (hb10.mono (hbl8.trans (hs9.mono hbl8.size)).size)
  clear hn10 hb10 hb1 hb3 hbl8 hs9
  (refine wpList_on rfl fun K hK => ?_; go_simp; refine hK _ (w9.alloc (.cells (cellsY [1]) 5)) ?_; clear hK K; (try simp only [Act.put, pvA, pv0, pv1]))
  generalize w9.alloc (.cells (cellsY [1]) 5) = w10 at hr10 g3 hbl10 ⊢
  (refine wpList_on rfl fun K hK => wp_load_block 33 (.tmp 3) rfl G3 rfl 33 (cellsY alS) (0, 0) g3.out uSig rfl iS.out (hK _ _ ?_); clear hK K; simp only [Act.put, pvA, pv0, pv1])
  (refine wpList_on rfl fun K hK => ?_; go_simp; refine (cF.out _ _ hr10.out).mono ?_; rintro _ w11 ⟨rfl, hs11⟩; refine hK _ _ ?_; clear hK K; (try simp only [Act.put, pvA, pv0, pv1]))
  iterate 3 (refine wpList_on rfl fun K hK => ?_; go_simp; refine hK _ _ ?_; clear hK K; (try simp only [Act.put, pvA, pv0, pv1]))
  (refine wpList_on rfl fun K hK => ?_; go_simp; refine (cB.out _).mono ?_; rintro _ w12 ⟨rfl, hs12⟩; refine hK _ _ ?_; clear hK K; (try simp only [Act.put, pvA, pv0, pv1]))
  (refine wpList_on rfl fun K hK => ?_; go_simp; refine (cO.out _).mono ?_; rintro _ w13 ⟨rfl, hs13⟩; refine hK _ _ ?_; clear hK K; (try simp only [Act.put, pvA, pv0, pv1]))
  iterate 2 (refine wpList_on rfl fun K hK => ?_; go_simp; refine hK _ _ ?_; clear hK K; (try simp only [Act.put, pvA, pv0, pv1]))
  refine wpList_nil ?_
  (repeat ((fail_if_success (with_reducible refine Go.at_region ?_)); go_step))
  go_ret
  have h1 := hs11.trans (hs12.mono hs11.size)
  have h2 := h1.trans (hs13.mono h1.size)
  exact ⟨rfl, hbl10.trans (h2.mono hbl10.size)⟩
end Go.Proofs.Ytejnnghfelpioaa
namespace Go.Proofs.Ytejnnghfelpioaa
open Go.RowKit
theorem word_arg (xs : List Int) (hl : xs.length = 4) (hw : ∀ y ∈ xs, (Lit.int .u64 y).wf = true) : ∃ x, x < 2 ^ 256 ∧ (.agg (xs.map (Value.int .u64)).toArray : Value) = wd x := by
  obtain ⟨a, b, c, d, rfl⟩ := len4 hl
  have ha := wf_u64 (hw a (by simp))
  have hb := wf_u64 (hw b (by simp))
  have hc := wf_u64 (hw c (by simp))
  have hd := wf_u64 (hw d (by simp))
  refine ⟨mk4 a.toNat b.toNat c.toNat d.toNat, mk4_lt _ _ _ _ (by omega) (by omega) (by omega) (by omega), ?_⟩
  unfold wd
  rw [cellsW_mk4 _ _ _ _ (by omega) (by omega) (by omega) (by omega), show ((a.toNat : Nat) : Int) = a by omega, show ((b.toNat : Nat) : Int) = b by omega, show ((c.toNat : Nat) : Int) = c by omega, show ((d.toNat : Nat) : Int) = d by omega]
  rfl
end Go.Proofs.Ytejnnghfelpioaa
namespace Go.Proofs.Ytejnnghfelpioaa
open Go.RowKit
end Go.Proofs.Ytejnnghfelpioaa
namespace Go.Proofs.Ytejnnghfelpioaa
open Go.RowKit
end Go.Proofs.Ytejnnghfelpioaa
namespace Go.Proofs.Ytejnnghfelpioaa
open Go.RowKit
theorem pN_prime : IsP pN := ip_p
theorem two_roots (h p : Nat) (hp : IsP p) (hl : h < p) (hh : h * h % p = 1) : h = 1 ∨ h = p - 1 := by
  have h2 := hp.1
  have h0 : 1 ≤ h := by
    rcases Nat.eq_zero_or_pos h with e | e
    · rw [e, Nat.zero_mul, Nat.zero_mod] at hh; omega
    · exact e
  obtain ⟨g, rfl⟩ : ∃ g, h = g + 1 := ⟨h - 1, by omega⟩
  have e1 : (g + 1) * (g + 1) - 1 = g * (g + 2) := by
    rw [Nat.mul_add, Nat.add_mul, Nat.mul_add]; omega
  have hd : p ∣ g * (g + 2) := by
    rw [← e1]; exact dvd_sub_mod 1 _ p (by rw [hh, Nat.mod_eq_of_lt (by omega)])
  rcases hp.euclid hd with h3 | h3
  · rcases Nat.eq_zero_or_pos g with e | e
    · exact .inl (by omega)
    · have := Nat.le_of_dvd e h3; omega
  · have := Nat.le_of_dvd (by omega) h3; exact .inr (by omega)
theorem neg_sq (x p : Nat) (h : x ≤ p) : (p - x) * (p - x) % p = x * x % p := by
  obtain ⟨y, rfl⟩ : ∃ y, p = x + y := ⟨p - x, by omega⟩
  rw [Nat.add_sub_cancel_left]
  have e : y * y + (x + y) * x = x * x + (x + y) * y := by
    rw [Nat.add_mul, Nat.add_mul, Nat.mul_comm y x]; omega
  have h1 := Nat.add_mul_mod_self_left (y * y) (x + y) x
  have h2 := Nat.add_mul_mod_self_left (x * x) (x + y) y
  rw [← h1, e, h2]
theorem m_sq (x y p : Nat) : (x * y % p) * (x * y % p) % p = (x * x % p) * (y * y % p) % p := by
  rw [← Nat.mul_mod, ← Nat.mul_mod, Nat.mul_mul_mul_comm]
theorem sq_root (a : Nat) : sqOk (a * a % pN) = true ∧ sqX (a * a % pN) * sqX (a * a % pN) % pN = a * a % pN ∧ sqX (a * a % pN) % 2 = 0 := by
  obtain ⟨s, hs⟩ : ∃ s, s = a * a % pN := ⟨_, rfl⟩
  have hsl : s % pN = s := by rw [hs, Nat.mod_mod]
  have hok : sq1 s * sq1 s % pN = s := by
    unfold sq1
    split
    · rename_i h; rw [hsl] at h; exact h
    · rename_i h
      rw [hsl] at h
      have e0 : sq0 s * sq0 s % pN = (a * a % pN) * (a ^ ((pN - 1) / 2) % pN) % pN := by
        unfold sq0 powP
        rw [hsl, ← Nat.mul_mod, ← Nat.pow_add, hs, ← Nat.mul_mod]
        rw [pow_mod_cong (Nat.mod_mod (a * a) pN), ← Nat.pow_two, ← Nat.pow_mul, ← Nat.pow_add]
        rw [show 2 * ((pN + 3) / 8 + (pN + 3) / 8) = 2 + (pN - 1) / 2 by decide +kernel]
      obtain ⟨g, hg⟩ : ∃ g, g = a ^ ((pN - 1) / 2) % pN := ⟨_, rfl⟩
      rw [← hg, ← hs] at e0
      by_cases ha : a % pN = 0
      · have : s = 0 := by rw [hs, Nat.mul_mod, ha, Nat.mul_zero, Nat.zero_mod]
        rw [this, Nat.zero_mul, Nat.zero_mod] at e0
        rw [this] at h
        exact absurd e0 h
      · have hg2 : g * g % pN = 1 := by
          rw [hg, ← Nat.mul_mod, ← Nat.pow_add, show (pN - 1) / 2 + (pN - 1) / 2 = pN - 1 by decide +kernel]
          exact fermat pN pN_prime a ha
        rcases two_roots g pN pN_prime (by rw [hg]; exact Nat.mod_lt _ pN_pos) hg2 with e | e
        · rw [e, Nat.mul_one, hsl] at e0
          exact absurd e0 h
        · rw [m_sq, e0, show powP 2 (pN / 4) * powP 2 (pN / 4) % pN = pN - 1 by rw [pow_i]; decide +kernel, e, Nat.mul_mod, Nat.mod_mod, ← Nat.mul_mod, Nat.mul_assoc, Nat.mul_mod, show (pN - 1) * (pN - 1) % pN = 1 by decide +kernel, Nat.mul_one, Nat.mod_mod, hsl]
  have hk : sqOk s = true := by unfold sqOk; rw [hsl]; exact decide_eq_true hok
  rw [← hs]
  refine ⟨hk, ?_, ?_⟩
  · unfold sqX
    rw [if_pos hk]
    split
    · rw [neg_sq _ _ (Nat.le_of_lt (sq1_lt s))]; exact hok
    · exact hok
  · unfold sqX
    rw [if_pos hk]
    have hl := sq1_lt s
    have ho : pN % 2 = 1 := by decide +kernel
    split
    · omega
    · omega
end Go.Proofs.Ytejnnghfelpioaa
namespace Go.Proofs.Ytejnnghfelpioaa
open Go.RowKit
def iRt : FP := nF 19681161376707505956807079304988542015446066515923890162744021073123829784752
theorem iRt_sq : iRt * iRt = -1 := by
  have h : iRt * iRt + 1 = 0 := by
    unfold iRt
    rw [← nF_one, ← nF_mul, ← nF_add, ← nF_zero]
    exact nF_eq (by decide +kernel)
  grind
theorem dN_half : powP dN ((pN - 1) / 2) = pN - 1 := by rw [pow2 dN _ (by decide +kernel)]; decide +kernel
theorem pow_half (s d e n : Nat) (he : n + n = e) (h1 : s * s % pN = d % pN) : powP d n = powP s e := by unfold powP; rw [← pow_mod_cong h1, Nat.mul_pow, ← Nat.pow_add, he]
theorem pow_01 (s e : Nat) (h0 : 0 < e) (he : ∀ s, s % pN ≠ 0 → powP s e = 1) : powP s e = 1 ∨ powP s e = 0 := by
  by_cases h : s % pN = 0
  · right; unfold powP; rw [Nat.pow_mod, h, Nat.zero_pow h0, Nat.zero_mod]
  · exact .inl (he s h)
theorem fermatP (s : Nat) (h : s % pN ≠ 0) : powP s (pN - 1) = 1 := by unfold powP; exact fermat pN pN_isP s h
theorem d_nonsq (s : FP) : s * s ≠ dF := by
  intro h
  have h1 : s.val * s.val % pN = dN % pN := by
    have := congrArg Fin.val h
    rw [Fin.val_mul] at this
    exact this
  have h2 := pow_half s.val dN (pN - 1) ((pN - 1) / 2) (by decide +kernel) h1
  rw [dN_half] at h2
  rcases pow_01 s.val (pN - 1) (by decide +kernel) fermatP with e | e
  · rw [e] at h2; exact absurd h2 (by decide +kernel)
  · rw [e] at h2; exact absurd h2 (by decide +kernel)
theorem dF_ne : dF ≠ 0 := fun h => d_nonsq 0 (by rw [h]; grind)
theorem one_ne : (1 : FP) ≠ 0 := fun h => absurd (congrArg Fin.val h) (by decide +kernel)
theorem two_ne : (1 : FP) + 1 ≠ 0 := fun e => by
  have : nF 2 = nF 0 := by rw [show (2 : Nat) = 1 + 1 from rfl, nF_add, nF_one, nF_zero]; exact e
  exact absurd (congrArg Fin.val this) (by decide +kernel)
theorem d_one (z : FP) : 1 + dF * (z * z) ≠ 0 := by
  intro h
  by_cases hz : z = 0
  · subst hz
    have e : dF * ((0 : FP) * 0) = 0 := by rw [Fin.mul_zero, Fin.mul_zero]
    rw [e, Fin.add_zero] at h
    exact one_ne h
  · have hi := mul_iF z hz
    have h2 := iRt_sq
    refine d_nonsq (iRt * iF z) ?_
    generalize iF z = zi at *
    generalize dF = d at *
    generalize iRt = i at *
    grind
theorem sq_no (t u v : FP) (hu : u ≠ 0) (hv : v ≠ 0) : t * t ≠ dF * (u * u) * (v * v) := fun e => by
  have h1 := mul_iF u hu
  have h2 := mul_iF v hv
  refine d_nonsq (t * iF u * iF v) ?_
  generalize iF u = ui at *
  generalize iF v = vi at *
  generalize dF = d at *
  grind
theorem half_0 (i x y : FP) (h1 : i * x + y = 0) (h2 : i * x - y = 0) : (1 + 1) * y = 0 := by grind
theorem den_k (x1 y1 x2 y2 s d i : FP) (h1 : y1 * y1 - x1 * x1 = 1 + d * (x1 * x1 * (y1 * y1))) (h2 : y2 * y2 - x2 * x2 = 1 + d * (x2 * x2 * (y2 * y2))) (hs : s * s = 1) (h : d * (x1 * x2 * (y1 * y2)) = s) (hI : i * i = -1) :
    (i * x1 + s * y1) * (i * x1 + s * y1) = d * (x1 * y1 * (x1 * y1)) * ((i * x2 + y2) * (i * x2 + y2)) ∧ (i * x1 - s * y1) * (i * x1 - s * y1) = d * (x1 * y1 * (x1 * y1)) * ((i * x2 - y2) * (i * x2 - y2)) := by
  constructor <;> grind
theorem zero_s (d a b s : FP) (h : d * (a * b) = s) (e : a = 0) : s = 0 := by rw [← h, e, Fin.zero_mul, Fin.mul_zero]
theorem den_ne (x1 y1 x2 y2 s : FP) (h1 : onC x1 y1) (h2 : onC x2 y2) (hs : s * s = 1) : dF * (x1 * x2 * (y1 * y2)) ≠ s := by
  intro h
  have hs0 : s ≠ 0 := fun e => by
    rw [e, Fin.zero_mul] at hs
    exact one_ne hs.symm
  have hr : dF * (x1 * y1 * (x2 * y2)) = s := by rw [← h]; congr 1; grind
  have hx1 : x1 * y1 ≠ 0 := fun e => hs0 (zero_s _ _ _ _ hr e)
  obtain ⟨k1, k2⟩ := den_k x1 y1 x2 y2 s dF iRt h1 h2 hs h iRt_sq
  by_cases c1 : iRt * x2 + y2 = 0
  · by_cases c2 : iRt * x2 - y2 = 0
    · have hy : y2 = 0 := F_zero_of (half_0 _ _ _ c1 c2) two_ne
      refine hs0 ?_
      rw [← h, hy, Fin.mul_zero, Fin.mul_zero, Fin.mul_zero]
    · exact sq_no _ _ _ hx1 c2 k2
  · exact sq_no _ _ _ hx1 c1 k1
theorem nF_of_lt {x : Nat} (h : x < pN) : (nF x).val = x := by rw [nF_val, Nat.mod_eq_of_lt h]
theorem nF_inj {x y : Nat} (hx : x < pN) (hy : y < pN) (h : nF x = nF y) : x = y := by
  have := congrArg Fin.val h
  rwa [nF_of_lt hx, nF_of_lt hy] at this
theorem nF_pw (u : Nat) : nF (powP u (pN - 2)) = iF (nF u) := (iF_nF u).symm
theorem decA_F (k : List (BitVec 8)) : nF (decA k) = (nF (decY k) * nF (decY k) - 1) * iF (1 + dF * (nF (decY k) * nF (decY k))) := by
  have e : ∀ d Y : FP, d * (Y * Y) + 1 = 1 + d * (Y * Y) := fun d Y => by grind
  have hd : nF dN = dF := rfl
  unfold decA
  rw [nF_mod, nF_mul, nF_sub, nF_mod, nF_mul, nF_one, nF_pw, nF_mod, nF_add, nF_mod, nF_mul, nF_mod, nF_mul, nF_one, hd, e]
theorem sqX_lt (a : Nat) : sqX a < pN := by
  unfold sqX
  split
  · split
    · have := sq1_lt a; omega
    · exact sq1_lt _
  · exact pN_pos
theorem sq_two (r x : FP) (h : r * r = x * x) : r = x ∨ r = -x := by
  by_cases hc : r - x = 0
  · left; grind
  · right
    have : r + x = 0 := F_zero_of (a := r - x) (by grind) hc
    grind
theorem pN_odd : pN % 2 = 1 := by decide +kernel
theorem neg_val (x : Nat) (h : x < pN) : (-(nF x)).val = if x = 0 then 0 else pN - x := by
  have e : -(nF x) = nF (pN - x) := by
    have : nF (pN - x) + nF x = 0 := by
      rw [← nF_add, ← nF_zero, show pN - x + x = pN by omega]
      exact nF_eq (by rw [Nat.mod_self, Nat.zero_mod])
    grind
  rw [e, nF_val]
  split
  · rename_i h0; rw [h0, Nat.sub_zero, Nat.mod_self]
  · rw [Nat.mod_eq_of_lt (by omega)]
theorem even_root (r x : Nat) (hr : r < pN) (hx : x < pN) (he : r % 2 = 0) (h : nF r * nF r = nF x * nF x) : r = if x % 2 = 1 then pN - x else x := by
  have ho := pN_odd
  rcases sq_two _ _ h with e | e
  · have := nF_inj hr hx e
    subst this
    rw [if_neg (by omega)]
  · have h2 := congrArg Fin.val e
    rw [nF_of_lt hr, neg_val x hx] at h2
    split at h2
    · rename_i h0; subst h0; rw [if_neg (by decide)]; exact h2
    · rename_i h0
      rw [if_pos (by omega)]; exact h2
theorem y31_lt (y : Nat) (h : y < pN) : (ny (leL y) 31).toNat < 128 := by
  have e : ny (leL y) 31 = b8 (y / 256 ^ 31) := by simp [ny, leL]
  rw [e]
  unfold b8
  have h1 : y / 256 ^ 31 < 128 := by
    rw [Nat.div_lt_iff_lt_mul (by decide)]
    exact Nat.lt_of_lt_of_le h (by decide +kernel)
  rw [BitVec.toNat_ofNat]
  omega
theorem top_nat (a b : BitVec 8) (h : a.toNat < 128) : (a ||| (b <<< 7)).toNat = a.toNat + b.toNat % 2 * 128 := by
  rw [BitVec.toNat_or, BitVec.toNat_shiftLeft, Nat.shiftLeft_eq, show b.toNat * 2 ^ 7 % 2 ^ 8 = b.toNat % 2 * 2 ^ 7 by omega]
  exact or_add _ _ 7 (by omega)
theorem and_127 (x : BitVec 8) : (x &&& (127 : BitVec 8)).toNat = x.toNat % 128 := by
  rw [BitVec.toNat_and, show BitVec.toNat (127 : BitVec 8) = 2 ^ 7 - 1 from rfl, Nat.and_two_pow_sub_one_eq_mod]
theorem top_bits (a b : BitVec 8) (h : a.toNat < 128) : ((a ||| (b <<< 7)) &&& (127 : BitVec 8)) = a ∧ (a ||| (b <<< 7)).toNat / 128 = b.toNat % 2 := by
  have e := top_nat a b h
  constructor
  · apply BitVec.eq_of_toNat_eq
    rw [and_127, e]
    omega
  · rw [e]; omega
theorem b8_par (x : Nat) : (ny (leL x) 0).toNat % 2 = x % 2 := by
  have e : ny (leL x) 0 = b8 x := by simp [ny, leL]
  rw [e]; unfold b8; rw [BitVec.toNat_ofNat]; omega
theorem yv_div (x : BitVec 8) : yv x / 128 = ((x.toNat / 128 : Nat) : Int) := by unfold yv; omega
theorem set_same (l : List (BitVec 8)) (i : Nat) (a b : BitVec 8) : (l.set i a).set i b = l.set i b := List.set_set ..
theorem set_ny (l : List (BitVec 8)) (i : Nat) : l.set i (ny l i) = l := by
  apply List.ext_getElem?
  intro j
  rw [List.getElem?_set]
  split
  · rename_i h; subst h
    split
    · rename_i h2; simp [ny, h2]
    · rename_i h2; rw [List.getElem?_eq_none (by omega)]
  · rfl
theorem ny_set31 (l : List (BitVec 8)) (hl : l.length = 32) (a : BitVec 8) : ny (l.set 31 a) 31 = a := by simp [ny, hl]
theorem dec_enc (p : P2) (h : onB p = true) : decP (encL p) = p ∧ decE (encL p) = 0 := by
  obtain ⟨hx, hy, hc⟩ := onB_onC h
  have ey : p.y % pN = p.y := Nat.mod_eq_of_lt hy
  have ex : p.x % pN = p.x := Nat.mod_eq_of_lt hx
  have hk : encL p = (leL p.y).set 31 (ny (leL p.y) 31 ||| (ny (leL p.x) 0 <<< 7)) := by unfold encL; rw [ey, ex]
  obtain ⟨t1, t2⟩ := top_bits (ny (leL p.y) 31) (ny (leL p.x) 0) (y31_lt _ hy)
  have hn : ny (encL p) 31 = ny (leL p.y) 31 ||| (ny (leL p.x) 0 <<< 7) := by rw [hk, ny_set31 _ (leL_len _)]
  have hlow : lowB (encL p) = leL p.y := by
    unfold lowB
    rw [hn, t1, hk, set_same, set_ny]
  have hodd : oddB (encL p) = decide (p.x % 2 = 1) := by
    unfold oddB
    rw [hn, yv_div, t2, b8_par]
    congr 1
    exact propext ⟨fun h => by omega, fun h => by omega⟩
  have hle : leN (leL p.y) = p.y := leN_leL _ (Nat.lt_trans hy pN_lt)
  have hY : decY (encL p) = p.y := by
    unfold decY; rw [hlow]; unfold fdN; rw [hle, if_pos ⟨leL_len _, hy⟩]
  have hE0 : fdE pN (lowB (encL p)) = 0 := by rw [hlow]; unfold fdE; rw [hle, if_pos (leL_len _), if_pos hy]
  have hA : decA (encL p) = p.x * p.x % pN := by
    refine nF_inj (Nat.mod_lt _ pN_pos) (Nat.mod_lt _ pN_pos) ?_
    rw [decA_F, hY, nF_mod, nF_mul]
    unfold onC at hc
    have h1 := d_one (nF p.y)
    have h2 := mul_iF _ h1
    obtain ⟨u, hu⟩ : ∃ u, u = 1 + dF * (nF p.y * nF p.y) := ⟨_, rfl⟩
    rw [← hu] at h2 ⊢
    generalize iF u = ui at h2 ⊢
    have e : nF p.y * nF p.y - 1 = nF p.x * nF p.x * u := by rw [hu]; clear h2 hu; generalize dF = d at *; grind
    rw [e]; grind
  obtain ⟨s1, s2, s3⟩ := sq_root p.x
  rw [← hA] at s1 s2 s3
  have hr := sqX_lt (decA (encL p))
  obtain ⟨r, hR⟩ : ∃ r, r = sqX (decA (encL p)) := ⟨_, rfl⟩
  have hR2 := hR
  rw [← hR] at s2 s3 hr
  have hrr : nF r * nF r = nF p.x * nF p.x := by
    rw [← nF_mul, ← nF_mul]
    refine nF_eq ?_
    rw [s2, hA]
  have hroot := even_root r p.x hr hx s3 hrr
  rw [hR2] at hroot
  have hB : decB (encL p) = true := by
    unfold decB
    rw [hE0, s1, hodd, hroot]
    by_cases ho : p.x % 2 = 1
    · rw [if_pos ho, decide_eq_true ho, decide_eq_false (show ¬ pN - p.x = 0 by omega)]; rfl
    · rw [if_neg ho, decide_eq_false ho]; rfl
  refine ⟨?_, by unfold decE; rw [if_pos hB]⟩
  unfold decP
  rw [if_pos hB, hodd, hroot, hY]
  by_cases ho : p.x % 2 = 1
  · rw [if_pos ho, if_pos (decide_eq_true ho)]
    have : subP 0 (pN - p.x) = p.x := by
      unfold subP
      rw [Nat.mod_eq_of_lt (show pN - p.x < pN by omega), Nat.zero_add, show pN - (pN - p.x) = p.x by omega, ex]
    rw [this]
  · rw [if_neg ho, if_neg (by rw [decide_eq_false ho]; decide)]
end Go.Proofs.Ytejnnghfelpioaa
namespace Go.Proofs.Ytejnnghfelpioaa
open Go.RowKit
structure AF where
  x : FP
  y : FP
def AF.on (a : AF) : Prop := onC a.x a.y
def dlt (a b : AF) : FP := dF * (a.x * b.x * (a.y * b.y))
def aadd (a b : AF) : AF := ⟨(a.x * b.y + a.y * b.x) * iF (1 + dlt a b), (a.y * b.y + a.x * b.x) * iF (1 - dlt a b)⟩
def azero : AF := ⟨0, 1⟩
def aneg (a : AF) : AF := ⟨-a.x, a.y⟩
theorem AF.ext2 {a b : AF} (h1 : a.x = b.x) (h2 : a.y = b.y) : a = b := by cases a; cases b; simp only [AF.mk.injEq]; exact ⟨h1, h2⟩
theorem neg_one_sq : (-1 : FP) * -1 = 1 := by grind
theorem one_sq : (1 : FP) * 1 = 1 := by grind
theorem plus_ne {a b : AF} (ha : a.on) (hb : b.on) : 1 + dlt a b ≠ 0 := fun h => den_ne a.x a.y b.x b.y (-1) ha hb neg_one_sq (by unfold dlt at h; generalize dF * (a.x * b.x * (a.y * b.y)) = u at *; grind)
theorem minus_ne {a b : AF} (ha : a.on) (hb : b.on) : 1 - dlt a b ≠ 0 := fun h => den_ne a.x a.y b.x b.y 1 ha hb one_sq (by unfold dlt at h; generalize dF * (a.x * b.x * (a.y * b.y)) = u at *; grind)
theorem aadd_x {a b : AF} (ha : a.on) (hb : b.on) : (aadd a b).x * (1 + dlt a b) = a.x * b.y + a.y * b.x := by
  have h := mul_iF _ (plus_ne ha hb)
  show (a.x * b.y + a.y * b.x) * iF (1 + dlt a b) * (1 + dlt a b) = _
  generalize iF (1 + dlt a b) = i at *
  generalize 1 + dlt a b = u at *
  grind
theorem aadd_y {a b : AF} (ha : a.on) (hb : b.on) : (aadd a b).y * (1 - dlt a b) = a.y * b.y + a.x * b.x := by
  have h := mul_iF _ (minus_ne ha hb)
  show (a.y * b.y + a.x * b.x) * iF (1 - dlt a b) * (1 - dlt a b) = _
  generalize iF (1 - dlt a b) = i at *
  generalize 1 - dlt a b = u at *
  grind
theorem dlt_comm (a b : AF) : dlt a b = dlt b a := by unfold dlt; congr 1; grind
theorem aadd_comm (a b : AF) : aadd a b = aadd b a := by
  refine AF.ext2 ?_ ?_
  · show (a.x * b.y + a.y * b.x) * iF (1 + dlt a b) = (b.x * a.y + b.y * a.x) * iF (1 + dlt b a)
    rw [dlt_comm a b]; congr 1; grind
  · show (a.y * b.y + a.x * b.x) * iF (1 - dlt a b) = (b.y * a.y + b.x * a.x) * iF (1 - dlt b a)
    rw [dlt_comm a b]; congr 1; grind
theorem mul_ne {a b : FP} (ha : a ≠ 0) (hb : b ≠ 0) : a * b ≠ 0 := fun h => hb (F_zero_of h ha)
theorem close0 (x1 y1 x2 y2 x3 y3 d p m : FP) (h1 : y1 * y1 - x1 * x1 = 1 + d * (x1 * x1 * (y1 * y1))) (h2 : y2 * y2 - x2 * x2 = 1 + d * (x2 * x2 * (y2 * y2)))
    (hp : p = 1 + d * (x1 * x2 * (y1 * y2))) (hm : m = 1 - d * (x1 * x2 * (y1 * y2))) (hx : x3 * p = x1 * y2 + y1 * x2) (hy : y3 * m = y1 * y2 + x1 * x2) :
    p * p * (m * m) * (y3 * y3 - x3 * x3) = p * p * (m * m) * (1 + d * (x3 * x3 * (y3 * y3))) := by
  have e1 : p * p * (m * m) * (y3 * y3 - x3 * x3) = p * p * ((y3 * m) * (y3 * m)) - m * m * ((x3 * p) * (x3 * p)) := by grind
  have e2 : p * p * (m * m) * (1 + d * (x3 * x3 * (y3 * y3))) = p * p * (m * m) + d * ((x3 * p) * (x3 * p) * ((y3 * m) * (y3 * m))) := by grind
  rw [e1, e2, hx, hy, hp, hm]
  clear e1 e2 hx hy hp hm
  grind (ringSteps := 100000)
theorem aadd_on {a b : AF} (ha : a.on) (hb : b.on) : (aadd a b).on := by
  have hp := plus_ne ha hb
  have hm := minus_ne ha hb
  have := close0 a.x a.y b.x b.y (aadd a b).x (aadd a b).y dF (1 + dlt a b) (1 - dlt a b) ha hb rfl rfl (aadd_x ha hb) (aadd_y ha hb)
  exact F_cancel (mul_ne (mul_ne hp hp) (mul_ne hm hm)) this
theorem assoc_x0 (x1 y1 x2 y2 x3 y3 e : FP)
  (h1 : x1*x1*(y1*y1) = e*(y1*y1 - x1*x1 - 1)) (h2 : x2*x2*(y2*y2) = e*(y2*y2 - x2*x2 - 1)) (h3 : x3*x3*(y3*y3) = e*(y3*y3 - x3*x3 - 1)) :
  ((x1*y2+y1*x2)*(e - x1*x2*(y1*y2))*y3 + (y1*y2+x1*x2)*(e + x1*x2*(y1*y2))*x3)*((e + x2*x3*(y2*y3))*(e - x2*x3*(y2*y3)) + x1*y1*((x2*y3+y2*x3)*(y2*y3+x2*x3))*e)
  = (x1*(y2*y3+x2*x3)*(e + x2*x3*(y2*y3)) + y1*(x2*y3+y2*x3)*(e - x2*x3*(y2*y3)))*((e + x1*x2*(y1*y2))*(e - x1*x2*(y1*y2)) + (x1*y2+y1*x2)*(y1*y2+x1*x2)*(x3*y3)*e) := by
  grind (ringSteps := 100000)
theorem assoc_y0 (x1 y1 x2 y2 x3 y3 e : FP)
  (h1 : x1*x1*(y1*y1) = e*(y1*y1 - x1*x1 - 1)) (h2 : x2*x2*(y2*y2) = e*(y2*y2 - x2*x2 - 1)) (h3 : x3*x3*(y3*y3) = e*(y3*y3 - x3*x3 - 1)) :
  ((y1*y2+x1*x2)*(e + x1*x2*(y1*y2))*y3 + (x1*y2+y1*x2)*(e - x1*x2*(y1*y2))*x3)*((e + x2*x3*(y2*y3))*(e - x2*x3*(y2*y3)) - x1*y1*((x2*y3+y2*x3)*(y2*y3+x2*x3))*e)
  = (y1*(y2*y3+x2*x3)*(e + x2*x3*(y2*y3)) + x1*(x2*y3+y2*x3)*(e - x2*x3*(y2*y3)))*((e + x1*x2*(y1*y2))*(e - x1*x2*(y1*y2)) - (x1*y2+y1*x2)*(y1*y2+x1*x2)*(x3*y3)*e) := by
  grind (ringSteps := 100000)
theorem e_form (x y d e : FP) (hd : d * e = 1) (h : y * y - x * x = 1 + d * (x * x * (y * y))) : x*x*(y*y) = e*(y*y - x*x - 1) := by grind
theorem q_plus (e d t p : FP) (hd : d * e = 1) (h : p = 1 + d * t) : e * p = e + t := by grind
theorem q_minus (e d t p : FP) (hd : d * e = 1) (h : p = 1 - d * t) : e * p = e - t := by grind
theorem fin_x (ax ay cx cy u v r s d e p1 m1 p2 m2 : FP) (hd : d * e = 1)
   (X : (u * p1 * (e * m1) * cy + v * m1 * (e * p1) * cx) * (e * p2 * (e * m2) + ax * ay * (r * p2 * (s * m2)) * e) = (ax * (s * m2) * (e * p2) + ay * (r * p2) * (e * m2)) * (e * p1 * (e * m1) + u * p1 * (v * m1) * (cx * cy) * e)) :
   e * e * e * (p1 * m1 * (p2 * m2)) * ((u * cy + v * cx) * (1 + d * (ax * r * (ay * s)))) = e * e * e * (p1 * m1 * (p2 * m2)) * ((ax * s + ay * r) * (1 + d * (u * cx * (v * cy)))) := by
  have e1 : e * e * e * (p1 * m1 * (p2 * m2)) * ((u * cy + v * cx) * (1 + d * (ax * r * (ay * s)))) = (u * p1 * (e * m1) * cy + v * m1 * (e * p1) * cx) * (e * p2 * (e * m2) + ax * ay * (r * p2 * (s * m2)) * e) := by clear X; grind
  have e2 : e * e * e * (p1 * m1 * (p2 * m2)) * ((ax * s + ay * r) * (1 + d * (u * cx * (v * cy)))) = (ax * (s * m2) * (e * p2) + ay * (r * p2) * (e * m2)) * (e * p1 * (e * m1) + u * p1 * (v * m1) * (cx * cy) * e) := by clear X e1; grind
  rw [e1, e2, X]
theorem fin_y (ax ay cx cy u v r s d e p1 m1 p2 m2 : FP) (hd : d * e = 1)
   (X : (v * m1 * (e * p1) * cy + u * p1 * (e * m1) * cx) * (e * p2 * (e * m2) - ax * ay * (r * p2 * (s * m2)) * e) = (ay * (s * m2) * (e * p2) + ax * (r * p2) * (e * m2)) * (e * p1 * (e * m1) - u * p1 * (v * m1) * (cx * cy) * e)) :
   e * e * e * (p1 * m1 * (p2 * m2)) * ((v * cy + u * cx) * (1 - d * (ax * r * (ay * s)))) = e * e * e * (p1 * m1 * (p2 * m2)) * ((ay * s + ax * r) * (1 - d * (u * cx * (v * cy)))) := by
  have e1 : e * e * e * (p1 * m1 * (p2 * m2)) * ((v * cy + u * cx) * (1 - d * (ax * r * (ay * s)))) = (v * m1 * (e * p1) * cy + u * p1 * (e * m1) * cx) * (e * p2 * (e * m2) - ax * ay * (r * p2 * (s * m2)) * e) := by clear X; grind
  have e2 : e * e * e * (p1 * m1 * (p2 * m2)) * ((ay * s + ax * r) * (1 - d * (u * cx * (v * cy)))) = (ay * (s * m2) * (e * p2) + ax * (r * p2) * (e * m2)) * (e * p1 * (e * m1) - u * p1 * (v * m1) * (cx * cy) * e) := by clear X e1; grind
  rw [e1, e2, X]
theorem assoc_k (ax ay bx bY cx cy u v r s d e p1 m1 p2 m2 : FP) (hd : d * e = 1)
   (ha : ax*ax*(ay*ay) = e*(ay*ay - ax*ax - 1)) (hb : bx*bx*(bY*bY) = e*(bY*bY - bx*bx - 1)) (hc : cx*cx*(cy*cy) = e*(cy*cy - cx*cx - 1))
   (hp1 : p1 = 1 + d * (ax * bx * (ay * bY))) (hm1 : m1 = 1 - d * (ax * bx * (ay * bY))) (hp2 : p2 = 1 + d * (bx * cx * (bY * cy))) (hm2 : m2 = 1 - d * (bx * cx * (bY * cy)))
   (hu : u * p1 = ax * bY + ay * bx) (hv : v * m1 = ay * bY + ax * bx) (hr : r * p2 = bx * cy + bY * cx) (hs : s * m2 = bY * cy + bx * cx) :
   e * e * e * (p1 * m1 * (p2 * m2)) * ((u * cy + v * cx) * (1 + d * (ax * r * (ay * s)))) = e * e * e * (p1 * m1 * (p2 * m2)) * ((ax * s + ay * r) * (1 + d * (u * cx * (v * cy)))) ∧
   e * e * e * (p1 * m1 * (p2 * m2)) * ((v * cy + u * cx) * (1 - d * (ax * r * (ay * s)))) = e * e * e * (p1 * m1 * (p2 * m2)) * ((ay * s + ax * r) * (1 - d * (u * cx * (v * cy)))) := by
  have q1 := q_plus e d _ p1 hd hp1
  have q2 := q_minus e d _ m1 hd hm1
  have q3 := q_plus e d _ p2 hd hp2
  have q4 := q_minus e d _ m2 hd hm2
  have X := assoc_x0 ax ay bx bY cx cy e ha hb hc
  have Y := assoc_y0 ax ay bx bY cx cy e ha hb hc
  rw [← q1, ← q2, ← q3, ← q4, ← hu, ← hv, ← hr, ← hs] at X Y
  exact ⟨fin_x _ _ _ _ _ _ _ _ _ _ _ _ _ _ hd X, fin_y _ _ _ _ _ _ _ _ _ _ _ _ _ _ hd Y⟩
theorem aadd_assoc {a b c : AF} (ha : a.on) (hb : b.on) (hc : c.on) : aadd (aadd a b) c = aadd a (aadd b c) := by
  have hab := aadd_on ha hb
  have hbc := aadd_on hb hc
  have hd := mul_iF dF dF_ne
  have he : iF dF ≠ 0 := fun h => by rw [h, Fin.mul_zero] at hd; exact one_ne hd.symm
  obtain ⟨X, Y⟩ := assoc_k a.x a.y b.x b.y c.x c.y (aadd a b).x (aadd a b).y (aadd b c).x (aadd b c).y dF (iF dF) (1 + dlt a b) (1 - dlt a b) (1 + dlt b c) (1 - dlt b c) hd (e_form _ _ _ _ hd ha) (e_form _ _ _ _ hd hb) (e_form _ _ _ _ hd hc) rfl rfl rfl rfl (aadd_x ha hb) (aadd_y ha hb) (aadd_x hb hc) (aadd_y hb hc)
  have hk := mul_ne (mul_ne (mul_ne he he) he) (mul_ne (mul_ne (plus_ne ha hb) (minus_ne ha hb)) (mul_ne (plus_ne hb hc) (minus_ne hb hc)))
  have X2 := F_cancel hk X
  have Y2 := F_cancel hk Y
  have l1 := aadd_x hab hc
  have l2 := aadd_y hab hc
  have r1 := aadd_x ha hbc
  have r2 := aadd_y ha hbc
  have n1 := mul_ne (plus_ne hab hc) (plus_ne ha hbc)
  have n2 := mul_ne (minus_ne hab hc) (minus_ne ha hbc)
  refine AF.ext2 (F_cancel n1 ?_) (F_cancel n2 ?_)
  · show (1 + dlt (aadd a b) c) * (1 + dlt a (aadd b c)) * _ = (1 + dlt (aadd a b) c) * (1 + dlt a (aadd b c)) * _
    have e1 : ∀ P Q L R : FP, L * P = R → P * Q * L = R * Q := fun P Q L R h => by rw [← h]; grind
    have e2 : ∀ P Q L R : FP, L * Q = R → P * Q * L = R * P := fun P Q L R h => by rw [← h]; grind
    rw [e1 _ _ _ _ l1, e2 _ _ _ _ r1]
    exact X2
  · show (1 - dlt (aadd a b) c) * (1 - dlt a (aadd b c)) * _ = (1 - dlt (aadd a b) c) * (1 - dlt a (aadd b c)) * _
    have e1 : ∀ P Q L R : FP, L * P = R → P * Q * L = R * Q := fun P Q L R h => by rw [← h]; grind
    have e2 : ∀ P Q L R : FP, L * Q = R → P * Q * L = R * P := fun P Q L R h => by rw [← h]; grind
    rw [e1 _ _ _ _ l2, e2 _ _ _ _ r2]
    exact Y2
structure Rep (q : QF) (a : AF) : Prop where
  z : q.z ≠ 0
  x : q.x = a.x * q.z
  y : q.y = a.y * q.z
  t : q.t = a.x * a.y * q.z
theorem rep_sum {p q : QF} {a b : AF} (hp : Rep p a) (hq : Rep q b) (ha : a.on) (hb : b.on) : Rep (qsum p q) (aadd a b) := by
  have n1 := plus_ne ha hb
  have n2 := minus_ne ha hb
  have sx := aadd_x ha hb
  have sy := aadd_y ha hb
  have zz := mul_ne hp.z hq.z
  have two := two_ne
  have e0 : (p.y + p.x) * (q.y + q.x) - (p.y - p.x) * (q.y - q.x) = (1 + 1) * (p.z * q.z) * (a.x * b.y + a.y * b.x) := by rw [hp.x, hp.y, hq.x, hq.y]; clear sx sy n1 n2 zz two; grind
  have e1 : (p.y + p.x) * (q.y + q.x) + (p.y - p.x) * (q.y - q.x) = (1 + 1) * (p.z * q.z) * (a.y * b.y + a.x * b.x) := by rw [hp.x, hp.y, hq.x, hq.y]; clear sx sy n1 n2 zz two e0; grind
  have e2 : p.z * q.z + p.z * q.z - (p.t * q.t * dF + p.t * q.t * dF) = (1 + 1) * (p.z * q.z) * (1 - dlt a b) := by rw [hp.t, hq.t]; unfold dlt; clear sx sy n1 n2 zz two e0 e1; generalize dF = d; grind
  have e3 : p.z * q.z + p.z * q.z + (p.t * q.t * dF + p.t * q.t * dF) = (1 + 1) * (p.z * q.z) * (1 + dlt a b) := by rw [hp.t, hq.t]; unfold dlt; clear sx sy n1 n2 zz two e0 e1 e2; generalize dF = d; grind
  have hk : (1 + 1) * (p.z * q.z) ≠ 0 := mul_ne two zz
  have hq2 : qsum p q = qfrom ((1 + 1) * (p.z * q.z) * (a.x * b.y + a.y * b.x)) ((1 + 1) * (p.z * q.z) * (1 - dlt a b)) ((1 + 1) * (p.z * q.z) * (1 + dlt a b)) ((1 + 1) * (p.z * q.z) * (a.y * b.y + a.x * b.x)) := by
    unfold qsum; rw [e0, e1, e2, e3]
  rw [hq2, ← sx, ← sy]
  generalize (1 + 1) * (p.z * q.z) = k at hk ⊢
  generalize 1 + dlt a b = u at n1 ⊢
  generalize 1 - dlt a b = v at n2 ⊢
  clear e0 e1 e2 e3 hq2 sx sy zz two hp hq
  refine ⟨mul_ne (mul_ne hk n2) (mul_ne hk n1), ?_, ?_, ?_⟩ <;> simp only [qfrom] <;> grind
theorem rep_twice {p : QF} {a : AF} (hp : Rep p a) (ha : a.on) : Rep (qtwice p) (aadd a a) := by
  have n1 := plus_ne ha ha
  have n2 := minus_ne ha ha
  have sx := aadd_x ha ha
  have sy := aadd_y ha ha
  have zz := mul_ne hp.z hp.z
  have hc : a.y * a.y - a.x * a.x = 1 + dlt a a := by
    have : a.y * a.y - a.x * a.x = 1 + dF * (a.x * a.x * (a.y * a.y)) := ha
    exact this
  have e0 : p.x * p.x + p.y * p.y - (p.x + p.y) * (p.x + p.y) = -(p.z * p.z) * (a.x * a.y + a.y * a.x) := by rw [hp.x, hp.y]; clear sx sy n1 n2 zz hc; grind
  have e1 : p.x * p.x + p.y * p.y = (p.z * p.z) * (a.y * a.y + a.x * a.x) := by rw [hp.x, hp.y]; clear sx sy n1 n2 zz e0 hc; grind
  have e2 : p.x * p.x - p.y * p.y = -(p.z * p.z) * (1 + dlt a a) := by rw [hp.x, hp.y, ← hc]; clear sx sy n1 n2 zz e0 e1 hc; grind
  have e3 : p.z * p.z + p.z * p.z + (p.x * p.x - p.y * p.y) = (p.z * p.z) * (1 - dlt a a) := by rw [e2]; clear sx sy n1 n2 zz e0 e1 e2 hc; generalize dlt a a = d; grind
  have hq2 : qtwice p = qfrom (-(p.z * p.z) * (a.x * a.y + a.y * a.x)) ((p.z * p.z) * (1 - dlt a a)) (-(p.z * p.z) * (1 + dlt a a)) ((p.z * p.z) * (a.y * a.y + a.x * a.x)) := by
    unfold qtwice; rw [e0, e3, e2, e1]
  rw [hq2, ← sx, ← sy]
  have zn : -(p.z * p.z) ≠ 0 := fun h => zz (by generalize p.z * p.z = k at *; grind)
  generalize p.z * p.z = k at zz zn ⊢
  generalize 1 + dlt a a = u at n1 ⊢
  generalize 1 - dlt a a = v at n2 ⊢
  clear e0 e1 e2 e3 hq2 sx sy hp hc
  refine ⟨mul_ne (mul_ne zz n2) (mul_ne zn n1), ?_, ?_, ?_⟩ <;> simp only [qfrom] <;> grind
theorem az_law (o z d : FP) (h1 : z = 0) (h2 : o * o = o) : o * o - z * z = o + d * (z * z * (o * o)) := by grind
theorem azero_on : azero.on := az_law 1 0 dF rfl (Fin.one_mul 1)
theorem neg_law (x : FP) : -x * -x = x * x := by grind
theorem aneg_on {a : AF} (h : a.on) : (aneg a).on := by
  show a.y * a.y - -a.x * -a.x = 1 + dF * (-a.x * -a.x * (a.y * a.y))
  rw [neg_law]; exact h
theorem iF_one : iF 1 = 1 := by
  have h := mul_iF (1 : FP) one_ne
  rwa [Fin.one_mul] at h
theorem F_sub0 (u : FP) : u - 0 = u := by grind
theorem aadd_zero (a : AF) : aadd a azero = a := by
  have hd : dlt a azero = 0 := by
    show dF * (a.x * 0 * (a.y * 1)) = 0
    rw [Fin.mul_zero, Fin.zero_mul, Fin.mul_zero]
  refine AF.ext2 ?_ ?_
  · show (a.x * 1 + a.y * 0) * iF (1 + dlt a azero) = a.x
    rw [hd, Fin.add_zero, iF_one, Fin.mul_one, Fin.mul_zero, Fin.add_zero, Fin.mul_one]
  · show (a.y * 1 + a.x * 0) * iF (1 - dlt a azero) = a.y
    rw [hd, F_sub0, iF_one, Fin.mul_one, Fin.mul_zero, Fin.add_zero, Fin.mul_one]
theorem zero_aadd (a : AF) : aadd azero a = a := by rw [aadd_comm, aadd_zero]
theorem aadd_neg {a : AF} (h : a.on) : aadd a (aneg a) = azero := by
  have hn := aneg_on h
  have h2 := mul_iF _ (minus_ne h hn)
  have hc : 1 - dlt a (aneg a) = a.y * a.y - a.x * a.x := by
    have h' : a.y * a.y - a.x * a.x = 1 + dF * (a.x * a.x * (a.y * a.y)) := h
    rw [h']
    show 1 - dF * (a.x * -a.x * (a.y * a.y)) = _
    generalize dF = d; grind
  refine AF.ext2 ?_ ?_
  · show (a.x * a.y + a.y * -a.x) * iF (1 + dlt a (aneg a)) = 0
    have e : a.x * a.y + a.y * -a.x = 0 := by grind
    rw [e, Fin.zero_mul]
  · show (a.y * a.y + a.x * -a.x) * iF (1 - dlt a (aneg a)) = 1
    have e : a.y * a.y + a.x * -a.x = 1 - dlt a (aneg a) := by rw [hc]; generalize a.x = x; generalize a.y = y; grind
    rw [e]; exact h2
def amul (a : AF) : Nat → AF
  | 0 => azero
  | n + 1 => aadd (amul a n) a
theorem amul_on {a : AF} (h : a.on) : ∀ n, (amul a n).on
  | 0 => azero_on
  | n + 1 => aadd_on (amul_on h n) h
theorem amul_add {a : AF} (h : a.on) (m : Nat) : ∀ n, amul a (m + n) = aadd (amul a m) (amul a n)
  | 0 => (aadd_zero _).symm
  | n + 1 => by
    show aadd (amul a (m + n)) a = aadd (amul a m) (aadd (amul a n) a)
    rw [amul_add h m n, aadd_assoc (amul_on h m) (amul_on h n) h]
theorem amul_one (a : AF) : amul a 1 = a := zero_aadd a
theorem amul_mul {a : AF} (h : a.on) (m : Nat) : ∀ n, amul a (m * n) = amul (amul a m) n
  | 0 => rfl
  | n + 1 => by
    rw [Nat.mul_succ, amul_add h, amul_mul h m n]; rfl
theorem rep_none : Rep qnone azero := ⟨one_ne, by show (0 : FP) = 0 * 1; rw [Fin.zero_mul], by show (1 : FP) = 1 * 1; rw [Fin.one_mul], by show (0 : FP) = 0 * 1 * 1; rw [Fin.zero_mul, Fin.zero_mul]⟩
theorem rep_open (p : P2) : Rep (qopen p) ⟨nF p.x, nF p.y⟩ := ⟨one_ne, by show nF p.x = nF p.x * 1; rw [Fin.mul_one], by show nF p.y = nF p.y * 1; rw [Fin.mul_one], by show nF p.x * nF p.y = nF p.x * nF p.y * 1; rw [Fin.mul_one]⟩
theorem rep_mul {q : QF} {a : AF} (hq : Rep q a) (ha : a.on) (n : Nat) (hn : n < 2 ^ 256) : ∀ m, m ≤ 256 → Rep (qmul n q m) (amul a (n / 2 ^ (256 - m)))
  | 0, _ => by
    have : n / 2 ^ (256 - 0) = 0 := Nat.div_eq_of_lt hn
    rw [this]; exact rep_none
  | m + 1, hm => by
    have ih := rep_mul hq ha n hn m (by omega)
    have h2 := rep_twice ih (amul_on ha _)
    rw [← amul_add ha] at h2
    have e : n / 2 ^ (256 - (m + 1)) = n / 2 ^ (256 - m) + n / 2 ^ (256 - m) + n / 2 ^ (255 - m) % 2 := by
      rw [show 256 - (m + 1) = 255 - m by omega, show 256 - m = (255 - m) + 1 by omega, Nat.pow_succ, ← Nat.div_div_eq_div_mul]
      omega
    rw [qmul]
    split
    · rename_i hb
      rw [e, hb]
      exact rep_sum h2 hq (amul_on ha _) ha
    · rename_i hb
      rw [e, show n / 2 ^ (255 - m) % 2 = 0 by omega, Nat.add_zero]
      exact h2
theorem rep_close {q : QF} {a : AF} (h : Rep q a) : qclose q = ⟨a.x.val, a.y.val⟩ := by
  have hz := mul_iF _ h.z
  have e1 : q.x * iF q.z = a.x := by rw [h.x]; generalize iF q.z = i at *; generalize q.z = z at *; clear h; grind
  have e2 : q.y * iF q.z = a.y := by rw [h.y]; generalize iF q.z = i at *; generalize q.z = z at *; clear h e1; grind
  unfold qclose
  rw [e1, e2]
end Go.Proofs.Ytejnnghfelpioaa
namespace Go.Proofs.Ytejnnghfelpioaa
open Go.RowKit
def aP (p : P2) : AF := ⟨nF p.x, nF p.y⟩
def ofA (a : AF) : P2 := ⟨a.x.val, a.y.val⟩
theorem aP_of (a : AF) : aP (ofA a) = a := AF.ext2 (nF_back _) (nF_back _)
theorem aP_on {p : P2} (h : onB p = true) : (aP p).on := (onB_onC h).2.2
theorem onB_ofA {a : AF} (h : a.on) : onB (ofA a) = true := by
  refine onB_of a.x.isLt a.y.isLt ?_
  show onC (nF a.x.val) (nF a.y.val)
  rw [nF_back, nF_back]; exact h
theorem onB_lt {p : P2} (h : onB p = true) : LtP p := ⟨Nat.lt_trans (onB_onC h).1 pN_lt, Nat.lt_trans (onB_onC h).2.1 pN_lt⟩
theorem mulP_is {p : P2} (hp : onB p = true) (n : Nat) (hn : n < 2 ^ 256) : mulP n p = ofA (amul (aP p) n) := by
  have lp := onB_lt hp
  unfold mulP mW
  rw [if_pos hp, qW_point, qW_fold n _ (widenW_t p lp), qW_widen]
  have h := rep_mul (rep_open p) (aP_on hp) n hn 256 (Nat.le_refl _)
  rw [Nat.sub_self, Nat.pow_zero, Nat.div_one] at h
  exact rep_close h
theorem mulP_on {p : P2} (hp : onB p = true) (n : Nat) (hn : n < 2 ^ 256) : onB (mulP n p) = true := by
  rw [mulP_is hp n hn]; exact onB_ofA (amul_on (aP_on hp) n)
def oneP : P2 := ⟨0, 1⟩
def awayP (p : P2) : P2 := ⟨subP 0 p.x, p.y⟩
theorem aP_one : aP oneP = azero := AF.ext2 nF_zero nF_one
theorem aP_away (p : P2) : aP (awayP p) = aneg (aP p) := by
  refine AF.ext2 ?_ rfl
  show nF (subP 0 p.x) = -(nF p.x)
  rw [nF_sub, nF_zero]; grind
theorem away_on {p : P2} (h : onB p = true) : onB (awayP p) = true := by
  have := onB_onC h
  refine onB_of (Nat.mod_lt _ pN_pos) this.2.1 ?_
  have h2 := aneg_on (aP_on h)
  rw [← aP_away] at h2; exact h2
theorem baseP_on : onB baseP = true := by decide +kernel
theorem nmul_L : nmulP lN baseP = oneP := by
  have : (nmulP lN baseP).x = 0 ∧ (nmulP lN baseP).y = 1 := by decide +kernel
  obtain ⟨h1, h2⟩ := this
  cases h : nmulP lN baseP
  rw [h] at h1 h2
  simp only at h1 h2
  rw [h1, h2]; rfl
theorem mulP_L : mulP lN baseP = oneP := by
  rw [mulP_eval lN baseP (onB_lt baseP_on) baseP_on, nmul_L]
theorem amul_L : amul (aP baseP) lN = azero := by
  have h := mulP_is baseP_on lN (by decide +kernel)
  rw [mulP_L] at h
  have := congrArg aP h
  rw [aP_one, aP_of] at this
  exact this.symm
end Go.Proofs.Ytejnnghfelpioaa
namespace Go.Proofs.Ytejnnghfelpioaa
open Go.RowKit
theorem ip_531581 : IsP 531581 := prime_trial 531581 730 (by decide) (by decide) (by decide +kernel)
theorem ip_1224481 : IsP 1224481 := prime_trial 1224481 1107 (by decide) (by decide) (by decide +kernel)
theorem ip_l5 : IsP 1257559732178653 :=
  pockF2 (q := 1224481) (c := 1027014492) (s := 531581) (d := 2365697292) (a := 2) 64 ip_1224481 ip_531581 (by decide +kernel) (by decide +kernel) (by decide +kernel) (by decide +kernel) (by decide +kernel) (by decide +kernel) (by decide +kernel) (by decide +kernel) (by decide +kernel) (by decide +kernel) (by decide +kernel)
theorem ip_l4 : IsP 4434155615661930479 := pockF1 (q := 1257559732178653) (c := 3526) (a := 2) 64 ip_l5 (by decide +kernel) (by decide +kernel) (by decide +kernel) (by decide +kernel) (by decide +kernel) (by decide +kernel) (by decide +kernel)
theorem ip_l3 : IsP 172054593956031949258510691 := pockF1 (q := 4434155615661930479) (c := 38802110) (a := 2) 128 ip_l4 (by decide +kernel) (by decide +kernel) (by decide +kernel) (by decide +kernel) (by decide +kernel) (by decide +kernel) (by decide +kernel)
theorem ip_l2 : IsP 19757330305831588566944191468367130476339 := pockF1 (q := 172054593956031949258510691) (c := 114831751082918) (a := 2) 160 ip_l3 (by decide +kernel) (by decide +kernel) (by decide +kernel) (by decide +kernel) (by decide +kernel) (by decide +kernel) (by decide +kernel)
theorem ip_l1 : IsP 276602624281642239937218680557139826668747 := pockF1 (q := 19757330305831588566944191468367130476339) (c := 14) (a := 2) 160 ip_l2 (by decide +kernel) (by decide +kernel) (by decide +kernel) (by decide +kernel) (by decide +kernel) (by decide +kernel) (by decide +kernel)
theorem ip_L : IsP lN := pockF1 (q := 276602624281642239937218680557139826668747) (c := 26163907866482859529727157400808004) (a := 2) 256 ip_l1 (by decide +kernel) (by decide +kernel) (by decide +kernel) (by decide +kernel) (by decide +kernel) (by decide +kernel) (by decide +kernel)
theorem aadd_swap {p q r s : AF} (hp : p.on) (hq : q.on) (hr : r.on) (hs : s.on) : aadd (aadd p q) (aadd r s) = aadd (aadd p r) (aadd q s) := by
  rw [aadd_assoc hp hq (aadd_on hr hs), ← aadd_assoc hq hr hs, aadd_comm q r, aadd_assoc hr hq hs, ← aadd_assoc hp hr (aadd_on hq hs)]
theorem amul_zero (n : Nat) : amul azero n = azero := by
  induction n with
  | zero => rfl
  | succ n ih => rw [amul, ih, aadd_zero]
theorem amul_neg {a : AF} (h : a.on) : ∀ n, aadd (amul a n) (amul (aneg a) n) = azero
  | 0 => aadd_zero _
  | n + 1 => by
    show aadd (aadd (amul a n) a) (aadd (amul (aneg a) n) (aneg a)) = azero
    rw [aadd_swap (amul_on h n) h (amul_on (aneg_on h) n) (aneg_on h), amul_neg h n, aadd_neg h, aadd_zero]
theorem rep_both {p q : QF} {a b : AF} (hp : Rep p a) (hq : Rep q b) (ha : a.on) (hb : b.on) (x y : Nat) (hx : x < 2 ^ 256) (hy : y < 2 ^ 256) :
    ∀ m, m ≤ 256 → Rep (qboth x y p q (qsum p q) m) (aadd (amul a (x / 2 ^ (256 - m))) (amul b (y / 2 ^ (256 - m))))
  | 0, _ => by
    rw [show x / 2 ^ (256 - 0) = 0 from Nat.div_eq_of_lt hx, show y / 2 ^ (256 - 0) = 0 from Nat.div_eq_of_lt hy]
    show Rep qnone (aadd azero azero)
    rw [aadd_zero]; exact rep_none
  | m + 1, hm => by
    have ih := rep_both hp hq ha hb x y hx hy m (by omega)
    have oa := amul_on ha (x / 2 ^ (256 - m))
    have ob := amul_on hb (y / 2 ^ (256 - m))
    have h2 := rep_twice ih (aadd_on oa ob)
    rw [aadd_swap oa ob oa ob, ← amul_add ha, ← amul_add hb] at h2
    have e : ∀ n : Nat, n / 2 ^ (256 - (m + 1)) = n / 2 ^ (256 - m) + n / 2 ^ (256 - m) + n / 2 ^ (255 - m) % 2 := fun n => by
      rw [show 256 - (m + 1) = 255 - m by omega, show 256 - m = (255 - m) + 1 by omega, Nat.pow_succ, ← Nat.div_div_eq_div_mul]
      omega
    rw [e x, e y, qboth]
    generalize x / 2 ^ (256 - m) + x / 2 ^ (256 - m) = X at *
    generalize y / 2 ^ (256 - m) + y / 2 ^ (256 - m) = Y at *
    have oX := amul_on ha X
    have oY := amul_on hb Y
    by_cases h1 : x / 2 ^ (255 - m) % 2 = 1
    · rw [if_pos h1, h1]
      by_cases h3 : y / 2 ^ (255 - m) % 2 = 1
      · rw [if_pos h3, h3]
        have := rep_sum h2 (rep_sum hp hq ha hb) (aadd_on oX oY) (aadd_on ha hb)
        rw [aadd_swap oX oY ha hb] at this
        exact this
      · rw [if_neg h3, show y / 2 ^ (255 - m) % 2 = 0 by omega, Nat.add_zero]
        have := rep_sum h2 hp (aadd_on oX oY) ha
        have e2 := aadd_swap oX oY ha azero_on
        rw [aadd_zero, aadd_zero] at e2
        rw [e2] at this
        exact this
    · rw [if_neg h1, show x / 2 ^ (255 - m) % 2 = 0 by omega, Nat.add_zero]
      by_cases h3 : y / 2 ^ (255 - m) % 2 = 1
      · rw [if_pos h3, h3]
        have := rep_sum h2 hq (aadd_on oX oY) hb
        have e2 := aadd_swap oX oY azero_on hb
        rw [aadd_zero, zero_aadd] at e2
        rw [e2] at this
        exact this
      · rw [if_neg h3, show y / 2 ^ (255 - m) % 2 = 0 by omega, Nat.add_zero]
        exact h2
def gB : AF := aP baseP
theorem gB_on : gB.on := aP_on baseP_on
theorem amul_mod (x : Nat) : amul gB (x % lN) = amul gB x := by
  have h : amul gB x = aadd (amul gB (lN * (x / lN))) (amul gB (x % lN)) := by rw [← amul_add gB_on, Nat.div_add_mod]
  rw [h, amul_mul gB_on, show amul gB lN = azero from amul_L, amul_zero, zero_aadd]
theorem gB_ne : gB ≠ azero := fun h => by
  have := congrArg (fun a : AF => a.x.val) h
  exact absurd this (by decide +kernel)
theorem amul_inj0 (d : Nat) (h : d % lN ≠ 0) : amul gB d ≠ azero := fun e => by
  have hf := fermat lN ip_L d h
  have h1 : amul gB (d * d ^ (lN - 2)) = azero := by rw [amul_mul gB_on, e, amul_zero]
  have h2 : d * d ^ (lN - 2) = d ^ (lN - 1) := by rw [Nat.mul_comm, ← Nat.pow_succ]; congr 1
  rw [h2, ← amul_mod, hf, amul_one] at h1
  exact gB_ne h1
theorem amul_inj {m n : Nat} (hm : m < lN) (hn : n < lN) (h : amul gB m = amul gB n) : m = n := by
  apply Classical.byContradiction
  intro hne
  have key : ∀ m n : Nat, m < n → n < lN → amul gB m = amul gB n → False := fun m n h1 h2 h => by
    have e : amul gB n = aadd (amul gB m) (amul gB (n - m)) := by rw [← amul_add gB_on]; congr 1; omega
    have o1 := amul_on gB_on m
    have o2 := amul_on gB_on (n - m)
    have e2 : amul gB (n - m) = azero := by
      have e3 : aadd (aneg (amul gB m)) (amul gB n) = amul gB (n - m) := by
        rw [e, ← aadd_assoc (aneg_on o1) o1 o2, aadd_comm (aneg _), aadd_neg o1, zero_aadd]
      rw [← e3, ← h, aadd_comm (aneg _), aadd_neg o1]
    refine amul_inj0 (n - m) ?_ e2
    rw [Nat.mod_eq_of_lt (by omega)]; omega
  rcases Nat.lt_or_gt_of_ne hne with h1 | h1
  · exact key m n h1 hn h
  · exact key n m h1 hm h.symm
def verT (k msg s : List (BitVec 8)) : AF := aadd (amul gB (verN s)) (amul (aneg (aP (decP k))) (hashN [s.take 32, k, msg]))
theorem ver_rep (k msg s : List (BitVec 8)) (hk : onB (decP k) = true) : Rep (qW (verG k msg s)) (verT k msg s) := by
  have hA := away_on hk
  have hl := onB_lt hA
  have h := rep_both (rep_open baseP) (rep_open (verA k)) gB_on (aP_on hA) (verN s) (hashN [s.take 32, k, msg]) (fdN_lt _ _) (hashN_lt _) 256 (Nat.le_refl _)
  rw [Nat.sub_self, Nat.pow_zero, Nat.div_one, Nat.div_one] at h
  have ea : verA k = awayP (decP k) := rfl
  unfold verG verT
  rw [ea] at h ⊢
  rw [qW_both _ _ _ _ (widenW_t _ (onB_lt baseP_on)) (widenW_t _ hl), qW_widen, qW_widen, ← aP_away]
  exact h
theorem nF_iff (a b : Nat) : (a % pN = b % pN) ↔ nF a = nF b := ⟨nF_eq, fun h => congrArg Fin.val h⟩
theorem ver_one (x : Nat) (G : W4) (c d : F5) (T : FP) (hz : fv d ≠ 0) (h : fv c = T * fv d) : decide (val5 (mul5 (fOf x) d) % pN = val5 c % pN) = decide (nF x = T) := by
  apply decide_eq_decide.2
  rw [nF_iff]
  show fv (mul5 (fOf x) d) = fv c ↔ _
  rw [fv_mul, fv_of, h]
  constructor
  · intro e
    refine F_cancel hz ?_
    rw [Fin.mul_comm, e, Fin.mul_comm]
  · intro e; rw [e]
theorem ver_is (k msg s : List (BitVec 8)) (hk : onB (decP k) = true) : (verX k msg s && verY k msg s) = true ↔ aP (decP (s.take 32)) = verT k msg s := by
  have h := ver_rep k msg s hk
  have e1 := ver_one (decP (s.take 32)).x (verG k msg s) (verG k msg s).x (verG k msg s).z (verT k msg s).x h.z h.x
  have e2 := ver_one (decP (s.take 32)).y (verG k msg s) (verG k msg s).y (verG k msg s).z (verT k msg s).y h.z h.y
  unfold verX verY
  rw [e1, e2, Bool.and_eq_true, decide_eq_true_eq, decide_eq_true_eq]
  constructor
  · rintro ⟨h1, h2⟩; exact AF.ext2 h1 h2
  · intro e; rw [← e]; exact ⟨rfl, rfl⟩
section
variable (m msg : List (BitVec 8)) (hm : m.length = 32)
theorem lN_pN : lN < pN := by decide +kernel
theorem sigN_lt : sigN m msg < lN := Nat.mod_lt _ lN_pos
theorem pub_on : onB (mulP (opA m) baseP) = true := mulP_on baseP_on _ (opA_lt m)
theorem sgn_on : onB (mulP (hashN [opB m, msg]) baseP) = true := mulP_on baseP_on _ (hashN_lt _)
theorem aP_mul (n : Nat) (h : n < 2 ^ 256) : aP (mulP n baseP) = amul gB n := by rw [mulP_is baseP_on n h, aP_of]; rfl
include hm in
theorem opK_is : opK m = encL (mulP (opA m) baseP) := by unfold opK opA seedK; rw [if_pos hm, if_pos hm]
include hm in
theorem sigL_is : sigL m msg = sigR m msg ++ leL (sigN m msg) := by
  unfold sigL; rw [if_pos hm, Nat.mod_eq_of_lt (Nat.lt_trans (sigN_lt m msg) lN_pN)]
theorem sigR_len : (sigR m msg).length = 32 := encL_len _
theorem half_take (n : Nat) : (sigR m msg ++ leL n).take 32 = sigR m msg := by
  rw [List.take_append_of_le_length (by rw [sigR_len]; exact Nat.le_refl _), List.take_of_length_le (by rw [sigR_len]; exact Nat.le_refl _)]
theorem half_drop (n : Nat) : (sigR m msg ++ leL n).drop 32 = leL n := by
  rw [List.drop_append_of_le_length (by rw [sigR_len]; exact Nat.le_refl _), List.drop_of_length_le (by rw [sigR_len]; exact Nat.le_refl _), List.nil_append]
theorem fd_le (n : Nat) (h : n < lN) : fdN lN (leL n) = n ∧ fdE lN (leL n) = 0 := by
  have e := leN_leL n (Nat.lt_trans h lN_lt)
  unfold fdN fdE
  rw [e, if_pos ⟨leL_len _, h⟩, if_pos (leL_len _), if_pos h]
  exact ⟨rfl, rfl⟩
include hm in
theorem ver_half (n : Nat) (h : n < lN) : verB (opK m) msg (sigR m msg ++ leL n) = true ↔ amul gB n = amul gB (sigN m msg) := by
  have hA := pub_on m
  have hR := sgn_on m msg
  have hp := aP_mul (opA m) (opA_lt m)
  have hr := aP_mul (hashN [opB m, msg]) (hashN_lt _)
  obtain ⟨k1, k2⟩ := dec_enc _ hA
  obtain ⟨r1, r2⟩ := dec_enc _ hR
  rw [← opK_is m hm] at k1 k2
  have er : sigR m msg = encL (mulP (hashN [opB m, msg]) baseP) := rfl
  rw [← er] at r1 r2
  obtain ⟨f1, f2⟩ := fd_le n h
  have ok : verOk (opK m) (sigR m msg ++ leL n) = true := by
    unfold verOk
    rw [half_drop, half_take, f2, k2, r2]; rfl
  unfold verB
  rw [ok, Bool.true_and, ver_is _ _ _ (by rw [k1]; exact hA)]
  unfold verT verN
  rw [half_drop, half_take, f1, k1, r1, hp, hr]
  have oA := amul_on gB_on (opA m)
  obtain ⟨x, hx⟩ : ∃ x, x = hashN [sigR m msg, opK m, msg] := ⟨_, rfl⟩
  obtain ⟨y, hy⟩ : ∃ y, y = hashN [opB m, msg] := ⟨_, rfl⟩
  have hs : amul gB (sigN m msg) = aadd (amul gB y) (amul (amul gB (opA m)) x) := by
    unfold sigN
    rw [← hx, ← hy, amul_mod, amul_add gB_on, amul_mod, Nat.mul_comm, amul_mul gB_on]
  rw [← hx, ← hy, hs]
  have ox := amul_on oA x
  have ox2 := amul_on (aneg_on oA) x
  have on := amul_on gB_on n
  have oy := amul_on gB_on y
  have hz := amul_neg oA x
  constructor
  · intro e
    rw [e, aadd_assoc on ox2 ox, aadd_comm (amul (aneg _) x), hz, aadd_zero]
  · intro e
    rw [e, aadd_assoc oy ox ox2, hz, aadd_zero]
include hm in
theorem holds_sig : verB (opK m) msg (sigL m msg) = true := by
  rw [sigL_is m msg hm, ver_half m msg hm _ (sigN_lt m msg)]
include hm in
theorem holds_not (n : Nat) (h : n < lN) (hne : n ≠ sigN m msg) : verB (opK m) msg (sigR m msg ++ leL n) = false := by
  cases hb : verB (opK m) msg (sigR m msg ++ leL n) with
  | false => rfl
  | true => exact absurd (amul_inj h (sigN_lt m msg) ((ver_half m msg hm n h).1 hb)) hne
end
end Go.Proofs.Ytejnnghfelpioaa
namespace Go.Proofs.Ytejnnghfelpioaa
open Go.RowKit
theorem entryb (w : World) (x : Nat) : ∃ w', w' = w.alloc (.cells (cellsW x) 25) ∧ Blk 25 w' w.heap.size (cellsW x) ∧ Below w.heap.size w w' := entry1 w 25 (cellsW x)
def halfT (R : List (BitVec 8)) (n n' i : Nat) : List (BitVec 8) := R ++ ((leL n').take i ++ (leL n).drop i)
theorem halfT_len (R : List (BitVec 8)) (n n' i : Nat) (hR : R.length = 32) (hi : i ≤ 32) : (halfT R n n' i).length = 64 := by
  unfold halfT; rw [List.length_append, List.length_append, List.length_take, List.length_drop, leL_len, leL_len, hR]; omega
theorem halfT_zero (R : List (BitVec 8)) (n n' : Nat) : halfT R n n' 0 = R ++ leL n := by unfold halfT; rw [List.take_zero, List.drop_zero, List.nil_append]
theorem halfT_end (R : List (BitVec 8)) (n n' : Nat) : halfT R n n' 32 = R ++ leL n' := by
  unfold halfT; rw [List.take_of_length_le (by rw [leL_len]; omega), List.drop_of_length_le (by rw [leL_len]; omega), List.append_nil]
theorem halfT_set (R : List (BitVec 8)) (n n' i : Nat) (hR : R.length = 32) (hi : i < 32) : (cellsY (halfT R n n' i)).setIfInBounds (32 + i) (.int .u8 (yv (ny (leL n') i))) = cellsY (halfT R n n' (i + 1)) := by
  have e : (halfT R n n' i).set (32 + i) (ny (leL n') i) = halfT R n n' (i + 1) := by
    unfold halfT
    have h1 : i < (leL n').length := by rw [leL_len]; exact hi
    have h2 : i < (leL n).length := by rw [leL_len]; exact hi
    rw [List.set_append_right _ _ (by omega), hR, show 32 + i - 32 = i by omega, List.set_append_right _ _ (by rw [List.length_take]; omega), List.length_take, Nat.min_eq_left (by omega), Nat.sub_self]
    rw [List.drop_eq_getElem_cons h2, List.set_cons_zero, List.take_succ_eq_append_getElem h1, List.append_assoc]
    simp [ny, List.getD_eq_getElem?_getD, h1]
  rw [← e]
  simp [cellsY, List.map_set]
theorem half_byte (n i : Nat) (hi : i < 32) : IntKind.u8.wrap (lm n (i / 8) / 2 ^ (8 * (i % 8))) = yv (ny (leL n) i) := by
  have e : ny (leL n) i = b8 (n / 256 ^ i) := by simp [ny, leL, hi]
  rw [e, yv_b8, ← lmN_byte n i hi]
  unfold lm
  rw [IntKind.wrap_u8]
  norm_cast
set_option maxRecDepth 100000 in
set_option maxHeartbeats 8000000 in
theorem edh_bad (w : World) (vs vm : Value) (m msg : List (BitVec 8)) (x : Nat) (hr : RdY w vs m) (hl : m.length ≠ 32) :
    Calls Try.prog 3 #[vs, vm, wd x] w fun e w' => e = .returned (.bool true) ∧ Below w.heap.size w w' := by
  obtain ⟨ra, rc, rfl, hrc, hx⟩ := hr
  clear hx
  have hl2 : ¬ (m.length : Int) = 32 := by omega
  have cA := hid fun w => ealive_any w
  unfold wd
  obtain ⟨w0, hw0, k1, hbl0⟩ := entryb w x
  go_enter Try.func3, Try.ntmps3
  ((repeat ((fail_if_success (with_reducible refine Go.at_region ?_)); go_step)); refine wp_region_lit ?_)
  (refine wpList_box 25 (.tmp 2) rfl rfl (cellsW x) rfl ?_; simp only [Act.put, pvA, pv0, pv1]; (try simp only [World.size_alloc]))
  (refine wpList_plain rfl fun K hK => ?_; go_simp; refine hK _ _ ?_; clear hK K; (try simp only [Act.put, pvA, pv0, pv1]))
  refine wpList_nil ?_
  rw [← hw0]
  clear hw0
  ((repeat ((fail_if_success (with_reducible refine Go.at_region ?_)); go_step)); refine wp_region_lit ?_)
  iterate 3 (refine wpList_plain rfl fun K hK => ?_; go_simp; refine hK _ _ ?_; clear hK K; (try simp only [Act.put, pvA, pv0, pv1]))
  refine wpList_nil ?_
  ((repeat ((fail_if_success (with_reducible refine Go.at_region ?_)); go_step)); refine wp_region_lit ?_)
  (refine wpList_plain rfl fun K hK => ?_; go_simp; refine (cA.out _).mono ?_; rintro _ w1 ⟨rfl, hs1⟩; refine hK _ _ ?_; clear hK K; (try simp only [Act.put, pvA, pv0, pv1]))
  (refine wpList_plain rfl fun K hK => ?_; go_simp; refine hK _ _ ?_; clear hK K; (try simp only [Act.put, pvA, pv0, pv1]))
  refine wpList_nil ?_
  (repeat ((fail_if_success (with_reducible refine Go.at_region ?_)); go_step))
  go_ret
  exact ⟨rfl, hbl0.trans (hs1.mono hbl0.size)⟩
set_option maxRecDepth 100000 in
set_option maxHeartbeats 8000000 in
theorem edh_good (w : World) (vs vm : Value) (m msg : List (BitVec 8)) (x : Nat) (hr : RdY w vs m) (hm : RdY w vm msg) (hl : m.length = 32) (hx : x < 2 ^ 256) (hz : msg.length ≤ 140737488351232) :
    Calls Try.prog 3 #[vs, vm, wd x] w fun e w' => e = .returned (.bool true) ∧ Below w.heap.size w w' := by
  have cA := hid fun w => ealive_any w
  have cP := hid fun w h => public_any m vs w h
  have cS := hid fun w h h2 => sign_any m msg vs vm w h h2 hz
  have hE0 : opE m = 0 := by unfold opE; rw [if_pos hl]
  rw [hE0] at cP cS
  have hS := sigL_is m msg hl
  have hV := holds_sig m msg hl
  have hn := sigN_lt m msg
  have hN := hid fun n h hne => holds_not m msg hl n h hne
  have lR := hid (sigR_len m msg)
  have cV := hid fun w h => verify_any (opK m) msg (sigL m msg) vm w (opK_len m) (sigL_len m msg) h hz
  have cV2 := hid fun n w h => verify_any (opK m) msg (sigR m msg ++ leL n) vm w (opK_len m) (by rw [List.length_append, sigR_len, leL_len]) h hz
  rw [hV] at cV
  rw [hS] at cS cV
  obtain ⟨f1, f2⟩ := fd_le (sigN m msg) hn
  have cR := hid fun v w h => fLread_any (leL (sigN m msg)) v w h
  rw [f1, f2] at cR
  have cL := hid fun w => ladd_any (sigN m msg) x w (Nat.lt_trans hn lN_lt) hx
  have hn' : (sigN m msg + x) % lN < lN := Nat.mod_lt _ lN_pos
  have lK := hid (opK_len m)
  have lS := hid (sigL_len m msg)
  rw [hS] at lS
  generalize sigR m msg = R at *
  generalize sigN m msg = n at *
  generalize opK m = K at *
  generalize (n + x) % lN = n' at *
  have hq := eq_wd n' n (Nat.lt_trans hn' lN_lt) (Nat.lt_trans hn lN_lt)
  have HN := hid (hN.out n' hn')
  have HR := hid hr
  have HM := hid hm
  have lH := hid (leL_len n)
  obtain ⟨S, hSS⟩ : ∃ S, S = R ++ leL n := ⟨_, rfl⟩
  have HS := hid hSS
  rw [← hSS] at cS cV lS
  clear hSS hV hS hN f1 f2 hr hm hx hE0 hz
  have iKk := hid (iK K lK.out)
  have iSs := hid (iSg S lS.out)
  have iN := hid (iW n)
  have iN' := hid (iW n')
  have zK1 := hid (show (cellsY zKey).size = (cellsY K).size by rw [size_cellsY, size_cellsY, lK.out]; rfl)
  have zS1 := hid (show (cellsY zSig).size = (cellsY S).size by rw [size_cellsY, size_cellsY, lS.out]; rfl)
  unfold wd key at *
  obtain ⟨w0, hw0, k1, hbl0⟩ := entryb w x
  have HR0 := hid (HR.out.below hbl0)
  have h5 := hid k1
  go_enter Try.func3, Try.ntmps3
  ((repeat ((fail_if_success (with_reducible refine Go.at_region ?_)); go_step)); refine wp_region_lit ?_)
  (refine wpList_box 25 (.tmp 2) rfl rfl (cellsW x) rfl ?_; simp only [Act.put, pvA, pv0, pv1]; (try simp only [World.size_alloc]))
  (refine wpList_plain rfl fun K hK => ?_; go_simp; refine hK _ _ ?_; clear hK K; (try simp only [Act.put, pvA, pv0, pv1]))
  refine wpList_nil ?_
  rw [← hw0]
  clear hw0 k1
  have hlen : ∃ ra rc, vs = .slice ra 32 rc := by obtain ⟨ra, rc, e, _⟩ := HR.out; exact ⟨ra, rc, by rw [e, hl]⟩
  obtain ⟨ra, rc, rfl⟩ := hlen
  ((repeat ((fail_if_success (with_reducible refine Go.at_region ?_)); go_step)); refine wp_region_lit ?_)
  iterate 3 (refine wpList_plain rfl fun K hK => ?_; go_simp; refine hK _ _ ?_; clear hK K; (try simp only [Act.put, pvA, pv0, pv1]))
  refine wpList_nil ?_
  ((repeat ((fail_if_success (with_reducible refine Go.at_region ?_)); go_step)); refine wp_region_lit ?_)
  (refine wpList_plain rfl fun K hK => ?_; go_simp; refine hK _ _ ?_; clear hK K; (try simp only [Act.put, pvA, pv0, pv1]))
  (refine wpList_plain rfl fun K hK => ?_; go_simp; refine (cP.out _ HR0.out).mono ?_; rintro _ w1 ⟨rfl, hs1⟩; refine hK _ _ ?_; clear hK K; (try simp only [Act.put, pvA, pv0, pv1]))
  iterate 3 (refine wpList_plain rfl fun K hK => ?_; go_simp; refine hK _ _ ?_; clear hK K; (try simp only [Act.put, pvA, pv0, pv1]))
  (refine wpList_new 28 (cellsY zKey) rfl rfl zK ?_; intro G7 w2 hle2 hs2 hn2; (try simp only [Act.put, pvA, pv0, pv1]))
  (refine wpList_set _ _ _ rfl rfl rfl _ _ rfl rfl _ _ hn2 iKk.out zK1.out (one_cellsY _) ?_)
  (refine wpList_plain rfl fun K hK => ?_; go_simp; refine hK _ _ ?_; clear hK K; (try simp only [Act.put, pvA, pv0, pv1]))
  refine wpList_nil ?_
  have hG7 : w.heap.size ≤ G7 := by have := hbl0.size; have := hs1.size; omega
  have n57 : w.heap.size ≠ G7 := by have := h5.out.lt; have := hs1.size; omega
  have f5 := hid (((h5.out.step hs1).step hs2).other n57 (cellsY K))
  have f7 := hid (hn2.set (cellsY K))
  have hbl3 := below_set (hbl0.trans ((hs1.trans (hs2.mono hs1.size)).mono hbl0.size)) G7 hG7 (cellsY K)
  generalize w2.setRow G7 (cellsY K) = w3 at f5 f7 hbl3 ⊢
  clear hs1 hs2 hle2 hn2 h5 hbl0 HR0 cP
  have HR3 := hid (HR.out.below hbl3)
  have HM3 := hid (HM.out.below hbl3)
  ((repeat ((fail_if_success (with_reducible refine Go.at_region ?_)); go_step)); refine wp_region_lit ?_)
  iterate 2 (refine wpList_plain rfl fun K hK => ?_; go_simp; refine hK _ _ ?_; clear hK K; (try simp only [Act.put, pvA, pv0, pv1]))
  (refine wpList_plain rfl fun K hK => ?_; go_simp; refine (cS.out _ HR3.out HM3.out).mono ?_; rintro _ w4 ⟨rfl, hs4⟩; refine hK _ _ ?_; clear hK K; (try simp only [Act.put, pvA, pv0, pv1]))
  iterate 3 (refine wpList_plain rfl fun K hK => ?_; go_simp; refine hK _ _ ?_; clear hK K; (try simp only [Act.put, pvA, pv0, pv1]))
  (refine wpList_new 33 (cellsY zSig) rfl rfl zSg ?_; intro G9 w5 hle5 hs5 hn5; (try simp only [Act.put, pvA, pv0, pv1]))
  (refine wpList_set _ _ _ rfl rfl rfl _ _ rfl rfl _ _ hn5 iSs.out zS1.out (one_cellsY _) ?_)
  (refine wpList_plain rfl fun K hK => ?_; go_simp; refine hK _ _ ?_; clear hK K; (try simp only [Act.put, pvA, pv0, pv1]))
  refine wpList_nil ?_
  have hG9 : w.heap.size ≤ G9 := by have := hbl3.size; have := hs4.size; omega
  have n59 : w.heap.size ≠ G9 := by have := f5.out.lt; have := hs4.size; omega
  have n79 : G7 ≠ G9 := by have := f7.out.lt; have := hs4.size; omega
  have h5 := hid (((f5.out.step hs4).step hs5).other n59 (cellsY S))
  have h7 := hid (((f7.out.step hs4).step hs5).other n79 (cellsY S))
  have h9 := hid (hn5.set (cellsY S))
  have hbl6 := below_set (hbl3.trans ((hs4.trans (hs5.mono hs4.size)).mono hbl3.size)) G9 hG9 (cellsY S)
  generalize w5.setRow G9 (cellsY S) = w6 at h5 h7 h9 hbl6 ⊢
  clear hs4 hs5 hle5 hn5 f5 f7 hbl3 HR3 HM3 cS
  (repeat ((fail_if_success (with_reducible refine Go.at_region ?_)); go_step))
  refine list_all ?_
  iterate 7 (apply calm_on rfl; (focus (intro W hB; go_simp; exact ⟨rfl, Below.refl _ _⟩)); simp only [Act.put, pvA, pv0, pv1])
  (refine calm_whole rfl _ _ rfl _ rfl _ _ h7.out gK iKk.out ?_; simp only [Act.put, pvA, pv0, pv1])
  (apply calm_on rfl; (focus (intro W hB; go_simp; exact ⟨rfl, Below.refl _ _⟩)); simp only [Act.put, pvA, pv0, pv1])
  (refine calm_whole rfl _ _ rfl _ rfl _ _ h9.out gSig iSs.out ?_; simp only [Act.put, pvA, pv0, pv1])
  (apply calm_on rfl; (focus (intro W hB; go_simp; refine (cV.out W (HM.out.below (hbl6.trans (hB.mono hbl6.size)))).mono ?_; rintro _ _ ⟨rfl, hb'⟩; exact ⟨rfl, hb'⟩)); simp only [Act.put, pvA, pv0, pv1])
  iterate 3 (apply calm_on rfl; (focus (intro W hB; go_simp; exact ⟨rfl, Below.refl _ _⟩)); simp only [Act.put, pvA, pv0, pv1])
  (apply calm_on rfl; (focus (intro W hB; go_simp; refine (cA.out W).mono ?_; rintro _ _ ⟨rfl, hb'⟩; exact ⟨rfl, hb'⟩)); simp only [Act.put, pvA, pv0, pv1])
  iterate 2 (apply calm_on rfl; (focus (intro W hB; go_simp; exact ⟨rfl, Below.refl _ _⟩)); simp only [Act.put, pvA, pv0, pv1])
  refine calm_nil ?_
  intro w7 hs7
  (try dsimp only)
  have f5 := hid (h5.out.step hs7)
  have f7 := hid (h7.out.step hs7)
  have f9 := hid (h9.out.step hs7)
  have hbl7 := hbl6.trans (hs7.mono hbl6.size)
  clear h5 h7 h9 hbl6 hs7 cV cA
  have sl49 : ∀ (b : Nat) (w : World), (Instr.sliceAt 33 (.pointer (some ⟨b, 0, none⟩)) (some (.int .i64 32)) none none).run Try.prog w = .ok (.slice (some ⟨b, 32, none⟩) 32 32) w := fun b w => sl_from uSig sY1 32 (by decide) b 0 w
  have hd32 : S.drop 32 = leL n := by rw [HS.out, List.drop_append_of_le_length (by rw [lR.out]; exact Nat.le_refl _), List.drop_of_length_le (by rw [lR.out]; exact Nat.le_refl _), List.nil_append]
  have hrd : RdY w7 (.slice (some ⟨G9, 32, none⟩) 32 32) (leL n) := by
    have := blk_rd f9.out 32 32 32 (by rw [lS.out]; decide) (Nat.le_refl _)
    rw [hd32, List.take_of_length_le (by rw [leL_len]; decide)] at this
    exact this
  ((repeat ((fail_if_success (with_reducible refine Go.at_region ?_)); go_step)); refine wp_region_lit ?_)
  (refine wpList_plain rfl fun K hK => ?_; go_simp; refine hK _ _ ?_; clear hK K; (try simp only [Act.put, pvA, pv0, pv1]))
  (refine wpList_plain rfl fun K hK => ?_; go_simp; refine (cR.out _ _ hrd).mono ?_; rintro _ w8 ⟨rfl, hs8⟩; refine hK _ _ ?_; clear hK K; (try simp only [Act.put, pvA, pv0, pv1]))
  iterate 3 (refine wpList_plain rfl fun K hK => ?_; go_simp; refine hK _ _ ?_; clear hK K; (try simp only [Act.put, pvA, pv0, pv1]))
  (refine wpList_new 25 (cellsW 0) rfl rfl zWd ?_; intro G11 w9 hle9 hs9 hn9; (try simp only [Act.put, pvA, pv0, pv1]))
  (refine wpList_set _ _ _ rfl rfl rfl _ _ rfl rfl _ _ hn9 iN.out (by rw [size_cellsW, size_cellsW]) (one_cellsW _) ?_)
  (refine wpList_plain rfl fun K hK => ?_; go_simp; refine hK _ _ ?_; clear hK K; (try simp only [Act.put, pvA, pv0, pv1]))
  refine wpList_nil ?_
  have hG11 : w.heap.size ≤ G11 := by have := hbl7.size; have := hs8.size; omega
  have n511 : w.heap.size ≠ G11 := by have := f5.out.lt; have := hs8.size; omega
  have n711 : G7 ≠ G11 := by have := f7.out.lt; have := hs8.size; omega
  have n911 : G9 ≠ G11 := by have := f9.out.lt; have := hs8.size; omega
  have h5 := hid (((f5.out.step hs8).step hs9).other n511 (cellsW n))
  have h7 := hid (((f7.out.step hs8).step hs9).other n711 (cellsW n))
  have h9 := hid (((f9.out.step hs8).step hs9).other n911 (cellsW n))
  have h11 := hid (hn9.set (cellsW n))
  have hbl10 := below_set (hbl7.trans ((hs8.trans (hs9.mono hs8.size)).mono hbl7.size)) G11 hG11 (cellsW n)
  generalize w9.setRow G11 (cellsW n) = w10 at h5 h7 h9 h11 hbl10 ⊢
  clear hs8 hs9 hle9 hn9 f5 f7 f9 hbl7 cR sl49 hrd hd32
  ((repeat ((fail_if_success (with_reducible refine Go.at_region ?_)); go_step)); refine wp_region_lit ?_)
  iterate 2 (refine wpList_plain rfl fun K hK => ?_; go_simp; refine hK _ _ ?_; clear hK K; (try simp only [Act.put, pvA, pv0, pv1]))
  refine wpList_nil ?_
  ((repeat ((fail_if_success (with_reducible refine Go.at_region ?_)); go_step)); refine wp_region_lit ?_)
  (refine wpList_get _ _ rfl rfl _ rfl _ _ h11.out gWd iN.out ?_; simp only [Act.put, pvA, pv0, pv1])
  (refine wpList_get _ _ rfl rfl _ rfl _ _ h5.out gWd (iW x) ?_; simp only [Act.put, pvA, pv0, pv1])
  (refine wpList_plain rfl fun K hK => ?_; go_simp; refine (cL.out _).mono ?_; rintro _ w11 ⟨rfl, hs11⟩; refine hK _ _ ?_; clear hK K; (try simp only [Act.put, pvA, pv0, pv1]))
  (refine wpList_new 25 (cellsW 0) rfl rfl zWd ?_; intro G13 w12 hle12 hs12 hn12; (try simp only [Act.put, pvA, pv0, pv1]))
  (refine wpList_set _ _ _ rfl rfl rfl _ _ rfl rfl _ _ hn12 iN'.out (by rw [size_cellsW, size_cellsW]) (one_cellsW _) ?_)
  refine wpList_nil ?_
  have hG13 : w.heap.size ≤ G13 := by have := hbl10.size; have := hs11.size; omega
  have n713 : G7 ≠ G13 := by have := h7.out.lt; have := hs11.size; omega
  have n913 : G9 ≠ G13 := by have := h9.out.lt; have := hs11.size; omega
  have n1113 : G11 ≠ G13 := by have := h11.out.lt; have := hs11.size; omega
  have f7 := hid (((h7.out.step hs11).step hs12).other n713 (cellsW n'))
  have f9 := hid (((h9.out.step hs11).step hs12).other n913 (cellsW n'))
  have f11 := hid (((h11.out.step hs11).step hs12).other n1113 (cellsW n'))
  have f13 := hid (hn12.set (cellsW n'))
  have hbl13 := below_set (hbl10.trans ((hs11.trans (hs12.mono hs11.size)).mono hbl10.size)) G13 hG13 (cellsW n')
  generalize w12.setRow G13 (cellsW n') = w13 at f7 f9 f11 f13 hbl13 ⊢
  clear hs11 hs12 hle12 hn12 h5 h7 h9 h11 hbl10 cL
  ((repeat ((fail_if_success (with_reducible refine Go.at_region ?_)); go_step)); refine wp_region_lit ?_)
  (refine wpList_get _ _ rfl rfl _ rfl _ _ f13.out gWd iN'.out ?_; simp only [Act.put, pvA, pv0, pv1])
  (refine wpList_get _ _ rfl rfl _ rfl _ _ f11.out gWd iN.out ?_; simp only [Act.put, pvA, pv0, pv1])
  by_cases hne : n' = n
  · rw [decide_eq_true hne] at hq
    clear hne HN cV2
    (refine wpList_plain rfl fun K hK => ?_; go_simp; refine hK _ _ ?_; clear hK K; (try simp only [Act.put, pvA, pv0, pv1]))
    refine wpList_nil ?_
    ((repeat ((fail_if_success (with_reducible refine Go.at_region ?_)); go_step)); refine wp_region_lit ?_)
    (refine wpList_plain rfl fun K hK => ?_; go_simp; refine hK _ _ ?_; clear hK K; (try simp only [Act.put, pvA, pv0, pv1]))
    refine wpList_nil ?_
    (repeat ((fail_if_success (with_reducible refine Go.at_region ?_)); go_step))
    go_ret
    exact ⟨rfl, hbl13⟩
  · have hf := HN.out hne
    rw [decide_eq_false hne] at hq
    have cV3 := hid fun w h => cV2.out n' w h
    rw [hf] at cV3
    clear cV2 HN hf hne
    (refine wpList_plain rfl fun K hK => ?_; go_simp; refine hK _ _ ?_; clear hK K; (try simp only [Act.put, pvA, pv0, pv1]))
    refine wpList_nil ?_
    clear hq
    ((repeat ((fail_if_success (with_reducible refine Go.at_region ?_)); go_step)); refine wp_region_lit ?_)
    (refine wpList_get _ _ rfl rfl _ rfl _ _ f9.out gSig iSs.out ?_; simp only [Act.put, pvA, pv0, pv1])
    (refine wpList_new 33 (cellsY zSig) rfl rfl zSg ?_; intro G14 w14 hle14 hs14 hn14; (try simp only [Act.put, pvA, pv0, pv1]))
    (refine wpList_set _ _ _ rfl rfl rfl _ _ rfl rfl _ _ hn14 iSs.out zS1.out (one_cellsY _) ?_)
    refine wpList_nil ?_
    have hG14 : w.heap.size ≤ G14 := by have := hbl13.size; omega
    have n714 : G7 ≠ G14 := by have := f7.out.lt; omega
    have n1314 : G13 ≠ G14 := by have := f13.out.lt; omega
    have h7 := hid ((f7.out.step hs14).other n714 (cellsY S))
    have h13 := hid ((f13.out.step hs14).other n1314 (cellsY S))
    have h14 := hn14.set (cellsY S)
    have hbl15 := below_set (hbl13.trans (hs14.mono hbl13.size)) G14 hG14 (cellsY S)
    have e0 : S = halfT R n n' 0 := by rw [halfT_zero, HS.out]
    generalize w14.setRow G14 (cellsY S) = w15 at h7 h13 h14 hbl15 ⊢
    rw [e0] at h14
    replace h14 := hid h14
    clear hs14 hle14 hn14 f7 f9 f11 f13 hbl13 e0 HS iSs lS zS1
    ((repeat ((fail_if_success (with_reducible refine Go.at_region ?_)); go_step)); refine wp_region_lit ?_)
    (refine wpList_plain rfl fun K hK => ?_; go_simp; refine hK _ _ ?_; clear hK K; (try simp only [Act.put, pvA, pv0, pv1]))
    refine wpList_nil ?_
    go_wp2
    go_loopw [15] (fun iv wr => ∃ i : Nat, i ≤ 32 ∧ iv = .int .i64 (i : Int) ∧ Hid (Blk 28 wr G7 (cellsY K)) ∧ Hid (Blk 25 wr G13 (cellsW n')) ∧ Hid (Blk 33 wr G14 (cellsY (halfT R n n' i))) ∧ Below w.heap.size w wr)
      (fun iv _ => 32 - (intOf iv).toNat)
    case atStart => exact ⟨0, by omega, rfl, h7, h13, h14, hbl15⟩
    case round =>
      clear h7 h13 h14 hbl15
      obtain ⟨i, hi, rfl, h7, h13, h14, hb⟩ := hrel
      by_cases hlt : i < 32
      · have c13 : wr.cell? ⟨G13, i / 8, none⟩ = some (.int .u64 (lm n' (i / 8))) := h13.out.cell (i / 8) _ (by
          have : i / 8 < 4 := by omega
          rcases (by omega : i / 8 = 0 ∨ i / 8 = 1 ∨ i / 8 = 2 ∨ i / 8 = 3) with e | e | e | e <;> rw [e] <;> rfl)
        have hq := half_byte n' i hlt
        have hset := hid (halfT_set R n n' i lR.out hlt)
        have hlen := hid (halfT_len R n n' i lR.out hi)
        have hg7 := hid ((h7.out).other n714 (cellsY (halfT R n n' (i + 1))))
        have hg13 := hid ((h13.out).other n1314 (cellsY (halfT R n n' (i + 1))))
        have hg14 := hid ((h14.out).set (cellsY (halfT R n n' (i + 1))))
        have hgb := below_set hb G14 hG14 (cellsY (halfT R n n' (i + 1)))
        go_wp2_with (refine wpList_setcell 5 (.tmp 78) (.tmp 77) rfl rfl rfl G14 (32 + i) (.int .u8 (yv (ny (leL n') i))) rfl rfl 33 (cellsY (halfT R n n' i)) h14.out (by rw [size_cellsY, hlen.out]; omega) iOne8 rfl ?_)
        rw [hset.out]
        generalize wr.setRow G14 (cellsY (halfT R n n' (i + 1))) = wy at hg7 hg13 hg14 hgb ⊢
        clear h7 h13 h14 hb c13 hset hlen hq
        go_wp2
        go_roundw
        case rel => exact ⟨i + 1, by omega, by go_num, hg7, hg13, hg14, hgb⟩
        case measure => simp [intOf]; omega
      · obtain rfl : i = 32 := by omega
        rw [halfT_end] at h14
        have iT := hid (iSg (R ++ leL n') (by rw [List.length_append, lR.out, leL_len]))
        have hMr := HM.out.below hb
        go_wp2_with (first | (refine wpList_get _ _ rfl rfl _ rfl _ _ h7.out gK iKk.out ?_; simp only [Act.put, pvA, pv0, pv1]) | (refine wpList_get _ _ rfl rfl _ rfl _ _ h14.out gSig iT.out ?_; simp only [Act.put, pvA, pv0, pv1]) | (go_at_call 9; refine (cV3.out _ hMr).mono ?_; rintro _ w16 ⟨rfl, hs16⟩))
        go_ret
        exact ⟨rfl, hb.trans (hs16.mono hb.size)⟩
theorem walk_EdHolds (w : World) (v0 : Value) (y0 : List (BitVec 8)) (r0 : RdY w v0 y0) (z0 : y0.length ≤ 140737488351232) (v1 : Value) (y1 : List (BitVec 8)) (r1 : RdY w v1 y1) (z1 : y1.length ≤ 140737488351232)
    (x2 : List Int) (l2 : x2.length = 4) (w2 : ∀ y ∈ x2, (Lit.int .u64 y).wf = true) :
    Calls Try.prog 3 #[v0, v1, .agg (x2.map (Value.int .u64)).toArray] w fun e w' => e = .returned (.bool true) ∧ Below w.heap.size w w' := by
  obtain ⟨x, hx, ex⟩ := word_arg x2 l2 w2
  rw [ex]
  by_cases h : y0.length = 32
  · exact edh_good w v0 v1 y0 y1 x r0 r1 h hx z1
  · exact edh_bad w v0 v1 y0 y1 x r0 h
end Go.Proofs.Ytejnnghfelpioaa
