import Derived.Test.YtfidbiabgmioaaaStepL
import Derived.Test.YtfidbiabgmioaaaWordC
/-! word.step. -/
set_option maxRecDepth 4000
set_option linter.unusedVariables false
set_option linter.unusedSimpArgs false
namespace Go.Proofs.Ytfidbiabgmioaaa
open Go.RowKit

theorem win_div (Z k i n : Nat) (h : i ≤ n) : win Z k (n + 1) / 2 ^ (64 * i) % 2 ^ 64 = lmN Z (k + i) := by
  unfold win lmN
  have e : 2 ^ (64 * (n + 1)) = 2 ^ (64 * i) * (2 ^ 64 * 2 ^ (64 * (n - i))) := by rw [← Nat.pow_add, ← Nat.pow_add]; congr 1; omega
  have e0 : Z / 2 ^ (64 * (k + i)) = Z / 2 ^ (64 * k) / 2 ^ (64 * i) := by rw [Nat.div_div_eq_div_mul, ← Nat.pow_add, ← Nat.mul_add]
  rw [e0]
  generalize Z / 2 ^ (64 * k) = A
  have e1 := congrArg (fun x => A % x / 2 ^ (64 * i) % 2 ^ 64) e
  refine e1.trans ?_
  show A % (2 ^ (64 * i) * (2 ^ 64 * 2 ^ (64 * (n - i)))) / 2 ^ (64 * i) % 2 ^ 64 = _
  generalize 2 ^ (64 * (n - i)) = T
  generalize 2 ^ (64 * i) = S
  have e2 := Nat.mod_mul_right_div_self A S (2 ^ 64 * T)
  have e3 := Nat.mod_mul_right_mod (A / S) (2 ^ 64) T
  exact (congrArg (fun x => x % 2 ^ 64) e2).trans e3
theorem lmN_win (Z k i n : Nat) (h : i ≤ n) : lmN (win Z k (n + 1)) i = lmN Z (k + i) := win_div Z k i n h
theorem win_top (Z k n : Nat) : win Z k (n + 1) / 2 ^ (64 * n) = lmN Z (k + n) := by
  have h := win_div Z k n n (Nat.le_refl _)
  have h2 : win Z k (n + 1) / 2 ^ (64 * n) < 2 ^ 64 := by
    rw [Nat.div_lt_iff_lt_mul (Nat.pow_pos (by omega)), Nat.mul_comm, ← pow64_succ]
    exact win_lt _ _ _
  rw [Nat.mod_eq_of_lt h2] at h; exact h
theorem win_top2 (Z k n : Nat) : win Z k (n + 2) / 2 ^ (64 * n) = lmN Z (k + n + 1) * 2 ^ 64 + lmN Z (k + n) := by
  rw [div_succ (win Z k (n + 2)) n, lmN_win Z k n (n + 1) (by omega)]
  have := win_top Z k (n + 1)
  rw [show n + 1 + 1 = n + 2 from rfl] at this
  rw [this]; rfl
theorem step_fits (G v c hi lo l2 cc : Nat) (hG : G < 2 ^ 64) (hv : v < 2 ^ 64) (hc : c < 2 ^ 64) (hl : l2 < 2 ^ 64) (h1 : G * v = lo + 2 ^ 64 * hi) (h2 : lo + c = l2 + 2 ^ 64 * cc) : hi + cc < 2 ^ 64 := by
  have := mul64_le G v hG hv
  omega
/-- What is left, at last. -/
theorem step_done (Z Z' k n V G : Nat) (hT : Turn Z Z' k (n + 1)) (hw : win Z' k (n + 1) + G * V = win Z k (n + 1)) (hV : 0 < V) (hq : win Z k (n + 1) / V ≤ G) :
    G = win Z k (n + 1) / V ∧ Z' + 2 ^ (64 * k) * (G * V) = Z := by
  refine ⟨Nat.le_antisymm ?_ hq, ?_⟩
  · rw [Nat.le_div_iff_mul_le hV]; omega
  · have h1 := hT.eq
    rw [← hw, Nat.mul_add] at h1
    omega
theorem step_again (Z Z' k n V G : Nat) (hw : win Z' k (n + 1) + G * V = win Z k (n + 1) + 2 ^ (64 * (n + 1)) * 1) (hV : 0 < V) : win Z k (n + 1) / V < G := by
  rw [Nat.div_lt_iff_lt_mul hV]
  have := win_lt Z' k (n + 1)
  omega
theorem step_back (Z Z1 Z2 k n V G c : Nat) (hG : 1 ≤ G) (hc : c ≤ 1) (hw : win Z1 k (n + 1) + G * V = win Z k (n + 1) + 2 ^ (64 * (n + 1)) * 1) (ha : win Z2 k (n + 1) + 2 ^ (64 * (n + 1)) * c = win Z1 k (n + 1) + V) :
    win Z2 k (n + 1) + (G - 1) * V = win Z k (n + 1) + 2 ^ (64 * (n + 1)) * (1 - c) := by
  obtain ⟨H, rfl⟩ : ∃ H, G = H + 1 := ⟨G - 1, by omega⟩
  rw [Nat.add_sub_cancel]
  rw [Nat.add_mul, Nat.one_mul] at hw
  have h01 : c = 0 ∨ c = 1 := by omega
  rcases h01 with rfl | rfl
  · rw [Nat.mul_zero] at ha; omega
  · rw [Nat.sub_self, Nat.mul_zero]; omega

def StI (g k N n Z V vb : Nat) (w wr : World) (Z' : Nat) : Prop := ArrM 22 N wr g Z' ∧ ArrM 22 n wr vb V ∧ Below g w wr

theorem StI.lt {g k N n Z V vb : Nat} {w wr : World} {Z' : Nat} (h : StI g k N n Z V vb w wr Z') : g < wr.heap.size := h.1.lt
theorem StI.next {g k N n Z V vb : Nat} {w wr wn : World} {Z' : Nat} (h : StI g k N n Z V vb w wr Z') (hb : Below wr.heap.size wr wn) : StI g k N n Z V vb w wn Z' :=
  ⟨h.1.below hb h.1.lt, h.2.1.below hb h.2.1.lt, h.2.2.trans (hb.mono (Nat.le_of_lt h.1.lt))⟩
theorem StI.put {g k N n Z V vb : Nat} {w wr : World} {Z' : Nat} (h : StI g k N n Z V vb w wr Z') (hvg : vb < g) (j v : Nat) (hv : v < 2 ^ 64) : StI g k N n Z V vb w (wr.setCell ⟨g, j, none⟩ (.int .u64 (v : Int))) (setL Z' j v) :=
  ⟨h.1.set j v hv, h.2.1.other (by show vb ≠ g; omega) _, h.2.2.setCell (p := ⟨g, j, none⟩) (Nat.le_refl _) _⟩
theorem StI.ext {g k N n Z V vb : Nat} {w wr : World} {Z' : Nat} (h : StI g k N n Z V vb w wr Z') (y : World) : StI g k N n Z V vb w (wr.ext y) Z' := h.next (wr.ext_below y)

set_option maxRecDepth 100000 in
set_option maxHeartbeats 20000000 in
theorem step_any (g k N Z vb m V cx : Nat) (w : World) (hX : ArrM 22 N w g Z) (hVb : ArrM 22 (m + 2) w vb V) (hvg : vb < g) (hm : m ≤ 7) (hk : k + m + 3 ≤ N) (hN : N ≤ 16) (hc : m + 3 ≤ cx)
    (hV1 : V < 2 ^ (64 * (m + 2))) (hV2 : 0 < lmN V (m + 1)) (hlt : win Z k (m + 3) < V * 2 ^ 64) :
    Calls Try.prog 134 #[.slice (some ⟨g, k, none⟩) ((m + 3 : Nat)) cx, .slice (some ⟨vb, 0, none⟩) ((m + 2 : Nat)) ((m + 2 : Nat))] w fun e w' => ∃ Z', e = .returned (.int .u64 ((win Z k (m + 3) / V : Nat) : Int)) ∧ ArrM 22 N w' g Z' ∧ Z' + 2 ^ (64 * k) * (win Z k (m + 3) / V * V) = Z ∧ Below g w w' := by
  have hVpos : 0 < V := by
    rcases Nat.eq_zero_or_pos V with h | h
    · subst h; simp [lmN] at hV2
    · exact h
  have c1 := hX.cell (k + (m + 2)) (by omega)
  have c2 := hVb.cell (m + 1) (by omega)
  have c3 := hX.cell (k + (m + 1)) (by omega)
  have l1 := hX.lt
  have l2 := hVb.lt
  have gz2 := lmN_lt Z (k + (m + 2))
  have gz1 := lmN_lt Z (k + (m + 1))
  have gv1 := lmN_lt V (m + 1)
  have gv0 := lmN_lt V m
  have hqb := hid (show win Z k (m + 3) / V < 2 ^ 64 by rw [Nat.div_lt_iff_lt_mul hVpos, Nat.mul_comm]; exact hlt)
  have HI := hid (show StI g k N (m + 2) Z V vb w w Z from ⟨hX, hVb, Below.refl _ _⟩)
  have HV1 := hid hV1
  have HVp := hid hVpos
  have HLT := hid hlt
  clear hV1 hVpos hlt hX hVb
  go_enter Try.func134, Try.ntmps134
  go_wp2_with fail
  (refine wp_region_ext (by kernel_rfl) (by kernel_rfl) ?_; (repeat (go_big_quiet_step (first | fail))); refine wpQuiet_nil ?_; rintro _ ⟨xw, rfl⟩)
  by_cases htop : lmN Z (k + (m + 2)) < lmN V (m + 1)
  · have c1' := c1
    have HT2 := hid (win_top2 Z k (m + 1))
    have hsum : win Z k (m + 3) / 2 ^ (64 * (m + 1)) = lmN Z (k + (m + 2)) * 2 ^ 64 + lmN Z (k + (m + 1)) := win_top2 Z k (m + 1)
    have hD := hid (fun w => div64_any (lmN Z (k + (m + 2))) (lmN Z (k + (m + 1))) (lmN V (m + 1)) htop gz1 gv1 w)
    rw [← hsum] at hD
    have hg0 := hid (guess_top (win Z k (m + 3)) V (m + 1) _ rfl HVp.out hV2 HV1.out)
    have hdm := Nat.div_add_mod (win Z k (m + 3) / 2 ^ (64 * (m + 1))) (lmN V (m + 1))
    have hml := Nat.mod_lt (win Z k (m + 3) / 2 ^ (64 * (m + 1))) hV2
    have hgl : win Z k (m + 3) / 2 ^ (64 * (m + 1)) / lmN V (m + 1) < 2 ^ 64 := by
      rw [Nat.div_lt_iff_lt_mul hV2, hsum]
      have : (lmN Z (k + (m + 2)) + 1) * 2 ^ 64 ≤ lmN V (m + 1) * 2 ^ 64 := Nat.mul_le_mul_right _ htop
      rw [Nat.mul_comm (2 ^ 64)]
      omega
    obtain ⟨G0, hG0⟩ : ∃ G, G = win Z k (m + 3) / 2 ^ (64 * (m + 1)) / lmN V (m + 1) := ⟨_, rfl⟩
    obtain ⟨R0, hR0⟩ : ∃ R, R = win Z k (m + 3) / 2 ^ (64 * (m + 1)) % lmN V (m + 1) := ⟨_, rfl⟩
    rw [← hG0, ← hR0] at hD hdm
    rw [← hG0] at hg0 hgl
    rw [← hR0] at hml
    rw [Nat.mul_comm] at hdm
    have HDM := hid hdm.symm
    clear hG0 hR0 hdm hsum HT2 c1'
    have lx1 := (w.ext_below xw).size
    have hcc1 := (w.cell?_ext xw g (k + (m + 2)) l1).trans c1
    have hcc2 := (w.cell?_ext xw vb (m + 1) l2).trans c2
    have hcc3 := (w.cell?_ext xw g (k + (m + 1)) l1).trans c3
    have hI2 : Hid (StI g k N (m + 2) Z V vb w (w.ext xw) Z) := hid ⟨HI.out.1.ext xw, HI.out.2.1.ext xw, World.ext_below_of HI.out.2.2 (by omega) xw⟩
    have ll1 : g < (w.ext xw).heap.size := by omega
    have ll2 : vb < (w.ext xw).heap.size := by omega
    clear c1 c2 c3 lx1 HI
    go_wp2_with fail
    generalize w.ext xw = w1 at hcc1 hcc2 hcc3 hI2 ll1 ll2 ⊢
    (refine wp_region_ext (by kernel_rfl) (by kernel_rfl) ?_; (repeat (go_big_quiet_step (first | (go_at_call 132; with_reducible refine Calls.ext_of (hD.out _))))); refine wpQuiet_nil ?_; rintro _ ⟨xw, rfl⟩)
    have hI3 : Hid (StI g k N (m + 2) Z V vb w (w1.ext xw) Z) := hid ⟨hI2.out.1.ext xw, hI2.out.2.1.ext xw, World.ext_below_of hI2.out.2.2 (by omega) xw⟩
    have ll1' := World.size_le_ext w1 xw _ ll1
    have ll2' := World.size_le_ext w1 xw _ ll2
    clear hI2 ll1 ll2 hcc1 hcc2 hcc3 hD
    go_wp2_with fail
    generalize w1.ext xw = w2 at hI3 ll1' ll2' ⊢
    simp only [decide_eq_true htop, show m + 2 - 1 = m + 1 from rfl]
    go_loopw [6, 8] (fun gv rv wr => ∃ G R : Nat, gv = .int .u64 (G : Int) ∧ rv = .int .u64 (R : Int) ∧ G < 2 ^ 64 ∧ R < 2 ^ 64 ∧ Hid (win Z k (m + 3) / V ≤ G ∧ win Z k (m + 3) / 2 ^ (64 * (m + 1)) = G * lmN V (m + 1) + R) ∧ Hid (StI g k N (m + 2) Z V vb w wr Z))
      (fun gv _ _ => (intOf gv).toNat)
    case atStart => exact ⟨G0, R0, rfl, rfl, hgl, by omega, hid ⟨hg0.out, HDM.out⟩, hI3⟩
    case round =>
      clear hgl hg0 hml HDM hI3 ll1' ll2'
      obtain ⟨G, R, rfl, rfl, bG, bR, hQ, hI⟩ := hrel
      obtain ⟨mhi, mlo, m1, m2, m3, m4⟩ := mul64_nat G (lmN V m) bG (lmN_lt _ _)
      have M4 := hid m4
      have HVB := hid hI.out.2.1
      have cv := HVB.out.cell m (by omega)
      have lv := HVB.out.lt
      clear m4
      go_wp2_with fail
      refine (M4.out _).mono ?_
      rintro e w3 ⟨rfl, hb3⟩
      have hI2 := hid (hI.out.next hb3)
      have cx0 := hI2.out.1.cell (k + m) (by omega)
      have cv1 := hI2.out.2.1.cell (m + 1) (by omega)
      have l1 := hI2.out.1.lt
      have l2 := hI2.out.2.1.lt
      have gx0 := lmN_lt Z (k + m)
      have hX0 := hid (show lmN (win Z k (m + 3)) m = lmN Z (k + m) from lmN_win Z k m (m + 2) (by omega))
      clear hI HVB cv lv hb3
      by_cases ha : mhi < R
      · obtain ⟨H, hH⟩ : ∃ H, H = G := ⟨G, rfl⟩
        subst hH
        have hHq := hid hQ.out.1
        have hIH := hI2
        clear hQ hI2 cx0 cv1 m3 M4
        go_wp2_with fail
        (try simp only [show m + 2 - 1 = m + 1 from rfl])
        go_loopw [13, 14, 95] (fun bv cv iv wr5 => ∃ i b c Z1 : Nat, i ≤ m + 2 ∧ b ≤ 1 ∧ c < 2 ^ 64 ∧ bv = .int .u64 (b : Int) ∧ cv = .int .u64 (c : Int) ∧ iv = .int .i64 (i : Int) ∧ Hid (Turn Z Z1 k i ∧ Mul Z Z1 k V H i b c) ∧ Hid (StI g k N (m + 2) Z V vb w wr5 Z1))
          (fun _ _ iv _ => m + 2 - (intOf iv).toNat)
        case atStart => exact ⟨0, 0, 0, Z, by omega, by omega, by omega, rfl, rfl, rfl, hid ⟨Turn.start Z k, Mul.start Z k V H⟩, hIH⟩
        case round =>
          clear hIH
          obtain ⟨i, b, c, Z1, hi, hb1, hc1, rfl, rfl, rfl, hTM, hI5⟩ := hrel
          by_cases hlt5 : i < m + 2
          · obtain ⟨ahi, alo, a1, a2, a3, a4⟩ := mul64_nat H (lmN V i) bG (lmN_lt _ _)
            obtain ⟨u1, v1, p1, p2, p3, p4⟩ := add64_nat0 alo c a2 hc1
            obtain ⟨u2, v2, r1, r2, r3, r4⟩ := sub64_nat (lmN Z1 (k + i)) u1 b (lmN_lt _ _) p1 hb1
            have hcs := step_fits H (lmN V i) c ahi alo u1 v1 bG (lmN_lt _ _) hc1 p1 a3 p3
            have HTM2 := hid (And.intro (hTM.out.1.set u2 r1) (hTM.out.2.step (hTM.out.1.up i (Nat.le_refl _)) r1 a3 p3 r3))
            have A4 := hid a4
            have cv5 := hI5.out.2.1.cell i hlt5
            have lv5 := hI5.out.2.1.lt
            clear a3 p3 r3 a4 hTM
            go_wp2_with fail
            refine (A4.out _).mono ?_
            rintro e w6 ⟨rfl, hb6⟩
            have hI6 := hid (hI5.out.next hb6)
            have cx6 := hI6.out.1.cell (k + i) (by omega)
            have fx6 := hI6.out.1.free (k + i)
            have lx6 := hI6.out.1.lt
            clear hI5 cv5 lv5 hb6 A4
            go_wp2_with fail
            go_roundw
            case rel => exact ⟨i + 1, v2, ahi + v1, setL Z1 (k + i) u2, by omega, r2, hcs, rfl, by go_num, by go_num, HTM2, hid (hI6.out.put hvg (k + i) u2 r1)⟩
            case measure => simp [intOf]; omega
          · obtain rfl : i = m + 2 := by omega
            obtain ⟨u3, v3, r1, r2, r3, r4⟩ := sub64_nat (lmN Z1 (k + (m + 2))) c b (lmN_lt _ _) hc1 hb1
            have HT3 := hid (hTM.out.1.set u3 r1)
            have HW3 := hid (hTM.out.2.last HV1.out (hTM.out.1.up (m + 2) (Nat.le_refl _)) r1 r3)
            have cx6 := hI5.out.1.cell (k + (m + 2)) (by omega)
            have fx6 := hI5.out.1.free (k + (m + 2))
            have lx6 := hI5.out.1.lt
            clear hTM hlt5 hi r3
            go_wp2_with fail
            have hI7 := hid (hI5.out.put hvg (k + (m + 2)) u3 r1)
            generalize wr.setCell ⟨g, k + (m + 2), none⟩ (.int .u64 (u3 : Int)) = w7 at hI7 ⊢
            clear hI5 cx6 fx6 lx6 r4
            go_loopw [6, 13] (fun gv bv wr7 => ∃ G3 b3 Z3 : Nat, G3 < 2 ^ 64 ∧ b3 ≤ 1 ∧ gv = .int .u64 (G3 : Int) ∧ bv = .int .u64 (b3 : Int) ∧ Hid (Turn Z Z3 k (m + 3) ∧ win Z3 k (m + 3) + G3 * V = win Z k (m + 3) + 2 ^ (64 * (m + 3)) * b3 ∧ win Z k (m + 3) / V ≤ G3) ∧ Hid (StI g k N (m + 2) Z V vb w wr7 Z3))
              (fun gv _ _ => (intOf gv).toNat)
            case atStart => exact ⟨H, v3, setL Z1 (k + (m + 2)) u3, bG, r2, rfl, rfl, hid ⟨HT3.out, HW3.out, hHq.out⟩, hI7⟩
            case round =>
              clear hI7 HT3 HW3
              obtain ⟨G3, b3, Z3, bG3, hb3, rfl, rfl, hF, hI8⟩ := hrel
              have hcase : b3 = 0 ∨ b3 = 1 := by omega
              rcases hcase with rfl | rfl
              · have hfin := step_done Z Z3 k (m + 2) V G3 hF.out.1 hF.out.2.1 HVp.out hF.out.2.2
                have HF1 := hid hfin.1
                have HF2 := hid hfin.2
                clear hfin hF
                go_wp2_with fail
                go_ret
                exact ⟨Z3, by rw [← HF1.out]; rfl, hI8.out.1, by rw [← HF1.out]; exact HF2.out, hI8.out.2.2⟩
              · have hag := step_again Z Z3 k (m + 2) V G3 hF.out.2.1 HVp.out
                obtain ⟨J, hJ⟩ : ∃ J, G3 = J + 1 := ⟨G3 - 1, by have := Nat.lt_of_le_of_lt (Nat.zero_le _) hag; omega⟩
                have hJi : (G3 : Int) - 1 = (J : Int) := by omega
                have hJ1 : 1 ≤ G3 := by omega
                have hJl : J < G3 := by omega
                have HJ := hid hJ
                have HAG := hid (show win Z k (m + 3) / V ≤ J from by have := hag; rw [hJ] at this; exact Nat.le_of_lt_succ this)
                clear hag hJ
                go_wp2_with fail
                go_loopw [19, 148] (fun cv iv wr8 => ∃ i c Z4 : Nat, i ≤ m + 2 ∧ c ≤ 1 ∧ cv = .int .u64 (c : Int) ∧ iv = .int .i64 (i : Int) ∧ Hid (Turn Z3 Z4 k i ∧ Adb Z3 Z4 k V i c) ∧ Hid (StI g k N (m + 2) Z V vb w wr8 Z4))
                  (fun _ iv _ => m + 2 - (intOf iv).toNat)
                case atStart => exact ⟨0, 0, Z3, by omega, by omega, rfl, rfl, hid ⟨Turn.start Z3 k, Adb.start Z3 k V⟩, hI8⟩
                case round =>
                  clear hI8
                  obtain ⟨i, c, Z4, hi, hc4, rfl, rfl, hTA, hI9⟩ := hrel
                  by_cases hlt9 : i < m + 2
                  · obtain ⟨u, v, p1, p2, p3, p4⟩ := add64_nat (lmN Z4 (k + i)) (lmN V i) c (lmN_lt _ _) (lmN_lt _ _) hc4
                    have HTA2 := hid (And.intro (hTA.out.1.set u p1) (hTA.out.2.step (hTA.out.1.up i (Nat.le_refl _)) p1 p3))
                    have cx9 := hI9.out.1.cell (k + i) (by omega)
                    have fx9 := hI9.out.1.free (k + i)
                    have lx9 := hI9.out.1.lt
                    have cv9 := hI9.out.2.1.cell i hlt9
                    have lv9 := hI9.out.2.1.lt
                    clear p3 hTA
                    go_wp2_with fail
                    (refine wp_region_ext_float 16 14 [0, 1, 2, 3, 4, 5, 6, 7, 8, 9, 10, 11, 12, 13, 15] [_, _, _, _, _, _, _, _, _, _, _, _, _, _, _] _ _ _ rfl rfl rfl rfl (by kernel_rfl) (by kernel_rfl) ?_; (repeat (go_big_quiet_step (first | fail))); refine wpQuiet_nil ?_; refine ⟨?_, ?_⟩; rotate_left; rintro _ ⟨xw, rfl⟩; rotate_left; (repeat (go_big_quiet_step (first | fail))); refine wpQuiet_nil ?_; rintro _ ⟨xw, rfl⟩)
                    all_goals
                      go_wp2_with fail
                      go_roundw
                      case rel => exact ⟨i + 1, v, setL Z4 (k + i) u, by omega, p2, rfl, by go_num, HTA2, hid ((hI9.out.ext xw).put hvg (k + i) u p1)⟩
                      case measure => simp [intOf]; omega
                  · obtain rfl : i = m + 2 := by omega
                    obtain ⟨u, v, p1, p2, p3, p4⟩ := add64_nat (lmN Z4 (k + (m + 2))) 0 c (lmN_lt _ _) (by omega) hc4
                    have HT5 := hid (hF.out.1.trans (hTA.out.1.set u p1))
                    have HW5 := hid (step_back Z Z3 (setL Z4 (k + (m + 2)) u) k (m + 2) V G3 v hJ1 p2 hF.out.2.1 (hTA.out.2.last HV1.out (hTA.out.1.up (m + 2) (Nat.le_refl _)) p1 p3))
                    have cx9 := hI9.out.1.cell (k + (m + 2)) (by omega)
                    have fx9 := hI9.out.1.free (k + (m + 2))
                    have lx9 := hI9.out.1.lt
                    have hv01 : (1 : Int) - (v : Int) = ((1 - v : Nat) : Int) := by omega
                    have p5 : ∀ w, (callFunc 101 #[.int .u64 ((lmN Z4 (k + (m + 2)) : Nat) : Int), .int .u64 0, .int .u64 (c : Int)]).run Try.prog w = .ok (.value (.tuple #[.int .u64 (u : Int), .int .u64 (v : Int)])) w := p4
                    clear p3 hTA hlt9 hi hF p4
                    go_wp2_with fail
                    go_roundw
                    case rel => exact ⟨J, 1 - v, setL Z4 (k + (m + 2)) u, by omega, by omega, by go_num, by go_num, hid ⟨HT5.out, by have := HW5.out; rw [HJ.out, Nat.add_sub_cancel] at this; exact this, HAG.out⟩, hid (hI9.out.put hvg (k + (m + 2)) u p1)⟩
                    case measure => simp [intOf]; omega
      · by_cases hb : mhi = R ∧ mlo ≤ lmN Z (k + m)
        · obtain ⟨hb1, hb2⟩ := hb
          subst hb1
          obtain ⟨H, hH⟩ : ∃ H, H = G := ⟨G, rfl⟩
          subst hH
          have hHq := hid hQ.out.1
          have hIH := hI2
          clear hQ hI2 cv1 m3 M4
          go_wp2_with fail
          (try simp only [show m + 2 - 1 = m + 1 from rfl])
          go_loopw [13, 14, 95] (fun bv cv iv wr5 => ∃ i b c Z1 : Nat, i ≤ m + 2 ∧ b ≤ 1 ∧ c < 2 ^ 64 ∧ bv = .int .u64 (b : Int) ∧ cv = .int .u64 (c : Int) ∧ iv = .int .i64 (i : Int) ∧ Hid (Turn Z Z1 k i ∧ Mul Z Z1 k V H i b c) ∧ Hid (StI g k N (m + 2) Z V vb w wr5 Z1))
            (fun _ _ iv _ => m + 2 - (intOf iv).toNat)
          case atStart => exact ⟨0, 0, 0, Z, by omega, by omega, by omega, rfl, rfl, rfl, hid ⟨Turn.start Z k, Mul.start Z k V H⟩, hIH⟩
          case round =>
            clear hIH
            obtain ⟨i, b, c, Z1, hi, hb1, hc1, rfl, rfl, rfl, hTM, hI5⟩ := hrel
            by_cases hlt5 : i < m + 2
            · obtain ⟨ahi, alo, a1, a2, a3, a4⟩ := mul64_nat H (lmN V i) bG (lmN_lt _ _)
              obtain ⟨u1, v1, p1, p2, p3, p4⟩ := add64_nat0 alo c a2 hc1
              obtain ⟨u2, v2, r1, r2, r3, r4⟩ := sub64_nat (lmN Z1 (k + i)) u1 b (lmN_lt _ _) p1 hb1
              have hcs := step_fits H (lmN V i) c ahi alo u1 v1 bG (lmN_lt _ _) hc1 p1 a3 p3
              have HTM2 := hid (And.intro (hTM.out.1.set u2 r1) (hTM.out.2.step (hTM.out.1.up i (Nat.le_refl _)) r1 a3 p3 r3))
              have A4 := hid a4
              have cv5 := hI5.out.2.1.cell i hlt5
              have lv5 := hI5.out.2.1.lt
              clear a3 p3 r3 a4 hTM
              go_wp2_with fail
              refine (A4.out _).mono ?_
              rintro e w6 ⟨rfl, hb6⟩
              have hI6 := hid (hI5.out.next hb6)
              have cx6 := hI6.out.1.cell (k + i) (by omega)
              have fx6 := hI6.out.1.free (k + i)
              have lx6 := hI6.out.1.lt
              clear hI5 cv5 lv5 hb6 A4
              go_wp2_with fail
              go_roundw
              case rel => exact ⟨i + 1, v2, ahi + v1, setL Z1 (k + i) u2, by omega, r2, hcs, rfl, by go_num, by go_num, HTM2, hid (hI6.out.put hvg (k + i) u2 r1)⟩
              case measure => simp [intOf]; omega
            · obtain rfl : i = m + 2 := by omega
              obtain ⟨u3, v3, r1, r2, r3, r4⟩ := sub64_nat (lmN Z1 (k + (m + 2))) c b (lmN_lt _ _) hc1 hb1
              have HT3 := hid (hTM.out.1.set u3 r1)
              have HW3 := hid (hTM.out.2.last HV1.out (hTM.out.1.up (m + 2) (Nat.le_refl _)) r1 r3)
              have cx6 := hI5.out.1.cell (k + (m + 2)) (by omega)
              have fx6 := hI5.out.1.free (k + (m + 2))
              have lx6 := hI5.out.1.lt
              clear hTM hlt5 hi r3
              go_wp2_with fail
              have hI7 := hid (hI5.out.put hvg (k + (m + 2)) u3 r1)
              generalize wr.setCell ⟨g, k + (m + 2), none⟩ (.int .u64 (u3 : Int)) = w7 at hI7 ⊢
              clear hI5 cx6 fx6 lx6 r4
              go_loopw [6, 13] (fun gv bv wr7 => ∃ G3 b3 Z3 : Nat, G3 < 2 ^ 64 ∧ b3 ≤ 1 ∧ gv = .int .u64 (G3 : Int) ∧ bv = .int .u64 (b3 : Int) ∧ Hid (Turn Z Z3 k (m + 3) ∧ win Z3 k (m + 3) + G3 * V = win Z k (m + 3) + 2 ^ (64 * (m + 3)) * b3 ∧ win Z k (m + 3) / V ≤ G3) ∧ Hid (StI g k N (m + 2) Z V vb w wr7 Z3))
                (fun gv _ _ => (intOf gv).toNat)
              case atStart => exact ⟨H, v3, setL Z1 (k + (m + 2)) u3, bG, r2, rfl, rfl, hid ⟨HT3.out, HW3.out, hHq.out⟩, hI7⟩
              case round =>
                clear hI7 HT3 HW3
                obtain ⟨G3, b3, Z3, bG3, hb3, rfl, rfl, hF, hI8⟩ := hrel
                have hcase : b3 = 0 ∨ b3 = 1 := by omega
                rcases hcase with rfl | rfl
                · have hfin := step_done Z Z3 k (m + 2) V G3 hF.out.1 hF.out.2.1 HVp.out hF.out.2.2
                  have HF1 := hid hfin.1
                  have HF2 := hid hfin.2
                  clear hfin hF
                  go_wp2_with fail
                  go_ret
                  exact ⟨Z3, by rw [← HF1.out]; rfl, hI8.out.1, by rw [← HF1.out]; exact HF2.out, hI8.out.2.2⟩
                · have hag := step_again Z Z3 k (m + 2) V G3 hF.out.2.1 HVp.out
                  obtain ⟨J, hJ⟩ : ∃ J, G3 = J + 1 := ⟨G3 - 1, by have := Nat.lt_of_le_of_lt (Nat.zero_le _) hag; omega⟩
                  have hJi : (G3 : Int) - 1 = (J : Int) := by omega
                  have hJ1 : 1 ≤ G3 := by omega
                  have hJl : J < G3 := by omega
                  have HJ := hid hJ
                  have HAG := hid (show win Z k (m + 3) / V ≤ J from by have := hag; rw [hJ] at this; exact Nat.le_of_lt_succ this)
                  clear hag hJ
                  go_wp2_with fail
                  go_loopw [19, 148] (fun cv iv wr8 => ∃ i c Z4 : Nat, i ≤ m + 2 ∧ c ≤ 1 ∧ cv = .int .u64 (c : Int) ∧ iv = .int .i64 (i : Int) ∧ Hid (Turn Z3 Z4 k i ∧ Adb Z3 Z4 k V i c) ∧ Hid (StI g k N (m + 2) Z V vb w wr8 Z4))
                    (fun _ iv _ => m + 2 - (intOf iv).toNat)
                  case atStart => exact ⟨0, 0, Z3, by omega, by omega, rfl, rfl, hid ⟨Turn.start Z3 k, Adb.start Z3 k V⟩, hI8⟩
                  case round =>
                    clear hI8
                    obtain ⟨i, c, Z4, hi, hc4, rfl, rfl, hTA, hI9⟩ := hrel
                    by_cases hlt9 : i < m + 2
                    · obtain ⟨u, v, p1, p2, p3, p4⟩ := add64_nat (lmN Z4 (k + i)) (lmN V i) c (lmN_lt _ _) (lmN_lt _ _) hc4
                      have HTA2 := hid (And.intro (hTA.out.1.set u p1) (hTA.out.2.step (hTA.out.1.up i (Nat.le_refl _)) p1 p3))
                      have cx9 := hI9.out.1.cell (k + i) (by omega)
                      have fx9 := hI9.out.1.free (k + i)
                      have lx9 := hI9.out.1.lt
                      have cv9 := hI9.out.2.1.cell i hlt9
                      have lv9 := hI9.out.2.1.lt
                      clear p3 hTA
                      go_wp2_with fail
                      (refine wp_region_ext_float 16 14 [0, 1, 2, 3, 4, 5, 6, 7, 8, 9, 10, 11, 12, 13, 15] [_, _, _, _, _, _, _, _, _, _, _, _, _, _, _] _ _ _ rfl rfl rfl rfl (by kernel_rfl) (by kernel_rfl) ?_; (repeat (go_big_quiet_step (first | fail))); refine wpQuiet_nil ?_; refine ⟨?_, ?_⟩; rotate_left; rintro _ ⟨xw, rfl⟩; rotate_left; (repeat (go_big_quiet_step (first | fail))); refine wpQuiet_nil ?_; rintro _ ⟨xw, rfl⟩)
                      all_goals
                        go_wp2_with fail
                        go_roundw
                        case rel => exact ⟨i + 1, v, setL Z4 (k + i) u, by omega, p2, rfl, by go_num, HTA2, hid ((hI9.out.ext xw).put hvg (k + i) u p1)⟩
                        case measure => simp [intOf]; omega
                    · obtain rfl : i = m + 2 := by omega
                      obtain ⟨u, v, p1, p2, p3, p4⟩ := add64_nat (lmN Z4 (k + (m + 2))) 0 c (lmN_lt _ _) (by omega) hc4
                      have HT5 := hid (hF.out.1.trans (hTA.out.1.set u p1))
                      have HW5 := hid (step_back Z Z3 (setL Z4 (k + (m + 2)) u) k (m + 2) V G3 v hJ1 p2 hF.out.2.1 (hTA.out.2.last HV1.out (hTA.out.1.up (m + 2) (Nat.le_refl _)) p1 p3))
                      have cx9 := hI9.out.1.cell (k + (m + 2)) (by omega)
                      have fx9 := hI9.out.1.free (k + (m + 2))
                      have lx9 := hI9.out.1.lt
                      have hv01 : (1 : Int) - (v : Int) = ((1 - v : Nat) : Int) := by omega
                      have p5 : ∀ w, (callFunc 101 #[.int .u64 ((lmN Z4 (k + (m + 2)) : Nat) : Int), .int .u64 0, .int .u64 (c : Int)]).run Try.prog w = .ok (.value (.tuple #[.int .u64 (u : Int), .int .u64 (v : Int)])) w := p4
                      clear p3 hTA hlt9 hi hF p4
                      go_wp2_with fail
                      go_roundw
                      case rel => exact ⟨J, 1 - v, setL Z4 (k + (m + 2)) u, by omega, by omega, by go_num, by go_num, hid ⟨HT5.out, by have := HW5.out; rw [HJ.out, Nat.add_sub_cancel] at this; exact this, HAG.out⟩, hid (hI9.out.put hvg (k + (m + 2)) u p1)⟩
                      case measure => simp [intOf]; omega
        · have hgt : R * 2 ^ 64 + lmN (win Z k (m + 3)) m < G * lmN V m := by rw [hX0.out, m3]; omega
          have hVt : V / 2 ^ (64 * (m + 1)) = lmN V (m + 1) := by
            unfold lmN
            rw [Nat.mod_eq_of_lt]
            rw [Nat.div_lt_iff_lt_mul (Nat.pow_pos (by omega)), Nat.mul_comm, ← pow64_succ]
            exact HV1.out
          have hmore := guess_more (win Z k (m + 3)) V m _ G R rfl HVp.out (by rw [hVt]; exact hQ.out.2) hgt
          obtain ⟨H, hH⟩ : ∃ H, G = H + 1 := ⟨G - 1, by have := Nat.lt_of_le_of_lt (Nat.zero_le _) hmore; omega⟩
          obtain ⟨u, v, p1, p2, p3, p4⟩ := add64_nat0 R (lmN V (m + 1)) bR gv1
          have hHq := hid (show win Z k (m + 3) / V ≤ H by rw [hH] at hmore; exact Nat.le_of_lt_succ hmore)
          have hHs := hid (show v = 0 → win Z k (m + 3) / 2 ^ (64 * (m + 1)) = H * lmN V (m + 1) + u from fun hv => by
            rw [hv] at p3
            rw [hQ.out.2, hH, Nat.add_mul, Nat.one_mul]; omega)
          have hHi : (G : Int) - 1 = (H : Int) := by omega
          have hGH : H < G := by omega
          have hG1 : 1 ≤ G := by omega
          have bGG := bG
          have bG : H < 2 ^ 64 := by omega
          have hjoin : ¬ mhi = R ∨ (mhi = R ∧ ¬ mlo ≤ lmN Z (k + m)) := by omega
          clear hQ hmore hgt hVt m3 M4 p3 hb hH
          have hv01 : v = 0 ∨ v = 1 := by omega
          rcases hjoin with he | ⟨he, he2⟩
          · rcases hv01 with hv0 | hv1
            · have p5 : ∀ w, (callFunc 101 #[.int .u64 (R : Int), .int .u64 ((lmN V (m + 1) : Nat) : Int), .int .u64 0]).run Try.prog w = .ok (.value (.tuple #[.int .u64 (u : Int), .int .u64 0])) w := fun w => by rw [p4 w, hv0]; rfl
              have hHs2 := hid (hHs.out hv0)
              clear p4 hv0 hHs
              go_wp2_with fail
              go_roundw
              case rel => exact ⟨H, u, by go_num, rfl, bG, p1, hid ⟨hHq.out, hHs2.out⟩, hI2⟩
              case measure => simp [intOf]; omega
            · have p5 : ∀ w, (callFunc 101 #[.int .u64 (R : Int), .int .u64 ((lmN V (m + 1) : Nat) : Int), .int .u64 0]).run Try.prog w = .ok (.value (.tuple #[.int .u64 (u : Int), .int .u64 1])) w := fun w => by rw [p4 w, hv1]; rfl
              have hIH := hI2
              clear hI2 hHs p4 hv1
              go_wp2_with fail
              (try simp only [show m + 2 - 1 = m + 1 from rfl])
              go_loopw [13, 14, 95] (fun bv cv iv wr5 => ∃ i b c Z1 : Nat, i ≤ m + 2 ∧ b ≤ 1 ∧ c < 2 ^ 64 ∧ bv = .int .u64 (b : Int) ∧ cv = .int .u64 (c : Int) ∧ iv = .int .i64 (i : Int) ∧ Hid (Turn Z Z1 k i ∧ Mul Z Z1 k V H i b c) ∧ Hid (StI g k N (m + 2) Z V vb w wr5 Z1))
                (fun _ _ iv _ => m + 2 - (intOf iv).toNat)
              case atStart => exact ⟨0, 0, 0, Z, by omega, by omega, by omega, rfl, rfl, rfl, hid ⟨Turn.start Z k, Mul.start Z k V H⟩, hIH⟩
              case round =>
                clear hIH
                obtain ⟨i, b, c, Z1, hi, hb1, hc1, rfl, rfl, rfl, hTM, hI5⟩ := hrel
                by_cases hlt5 : i < m + 2
                · obtain ⟨ahi, alo, a1, a2, a3, a4⟩ := mul64_nat H (lmN V i) bG (lmN_lt _ _)
                  obtain ⟨u1, v1, p1, p2, p3, p4⟩ := add64_nat0 alo c a2 hc1
                  obtain ⟨u2, v2, r1, r2, r3, r4⟩ := sub64_nat (lmN Z1 (k + i)) u1 b (lmN_lt _ _) p1 hb1
                  have hcs := step_fits H (lmN V i) c ahi alo u1 v1 bG (lmN_lt _ _) hc1 p1 a3 p3
                  have HTM2 := hid (And.intro (hTM.out.1.set u2 r1) (hTM.out.2.step (hTM.out.1.up i (Nat.le_refl _)) r1 a3 p3 r3))
                  have A4 := hid a4
                  have cv5 := hI5.out.2.1.cell i hlt5
                  have lv5 := hI5.out.2.1.lt
                  clear a3 p3 r3 a4 hTM
                  go_wp2_with fail
                  refine (A4.out _).mono ?_
                  rintro e w6 ⟨rfl, hb6⟩
                  have hI6 := hid (hI5.out.next hb6)
                  have cx6 := hI6.out.1.cell (k + i) (by omega)
                  have fx6 := hI6.out.1.free (k + i)
                  have lx6 := hI6.out.1.lt
                  clear hI5 cv5 lv5 hb6 A4
                  go_wp2_with fail
                  go_roundw
                  case rel => exact ⟨i + 1, v2, ahi + v1, setL Z1 (k + i) u2, by omega, r2, hcs, rfl, by go_num, by go_num, HTM2, hid (hI6.out.put hvg (k + i) u2 r1)⟩
                  case measure => simp [intOf]; omega
                · obtain rfl : i = m + 2 := by omega
                  obtain ⟨u3, v3, r1, r2, r3, r4⟩ := sub64_nat (lmN Z1 (k + (m + 2))) c b (lmN_lt _ _) hc1 hb1
                  have HT3 := hid (hTM.out.1.set u3 r1)
                  have HW3 := hid (hTM.out.2.last HV1.out (hTM.out.1.up (m + 2) (Nat.le_refl _)) r1 r3)
                  have cx6 := hI5.out.1.cell (k + (m + 2)) (by omega)
                  have fx6 := hI5.out.1.free (k + (m + 2))
                  have lx6 := hI5.out.1.lt
                  clear hTM hlt5 hi r3
                  go_wp2_with fail
                  have hI7 := hid (hI5.out.put hvg (k + (m + 2)) u3 r1)
                  generalize wr.setCell ⟨g, k + (m + 2), none⟩ (.int .u64 (u3 : Int)) = w7 at hI7 ⊢
                  clear hI5 cx6 fx6 lx6 r4
                  go_loopw [6, 13] (fun gv bv wr7 => ∃ G3 b3 Z3 : Nat, G3 < 2 ^ 64 ∧ b3 ≤ 1 ∧ gv = .int .u64 (G3 : Int) ∧ bv = .int .u64 (b3 : Int) ∧ Hid (Turn Z Z3 k (m + 3) ∧ win Z3 k (m + 3) + G3 * V = win Z k (m + 3) + 2 ^ (64 * (m + 3)) * b3 ∧ win Z k (m + 3) / V ≤ G3) ∧ Hid (StI g k N (m + 2) Z V vb w wr7 Z3))
                    (fun gv _ _ => (intOf gv).toNat)
                  case atStart => exact ⟨H, v3, setL Z1 (k + (m + 2)) u3, bG, r2, rfl, rfl, hid ⟨HT3.out, HW3.out, hHq.out⟩, hI7⟩
                  case round =>
                    clear hI7 HT3 HW3
                    obtain ⟨G3, b3, Z3, bG3, hb3, rfl, rfl, hF, hI8⟩ := hrel
                    have hcase : b3 = 0 ∨ b3 = 1 := by omega
                    rcases hcase with rfl | rfl
                    · have hfin := step_done Z Z3 k (m + 2) V G3 hF.out.1 hF.out.2.1 HVp.out hF.out.2.2
                      have HF1 := hid hfin.1
                      have HF2 := hid hfin.2
                      clear hfin hF
                      go_wp2_with fail
                      go_ret
                      exact ⟨Z3, by rw [← HF1.out]; rfl, hI8.out.1, by rw [← HF1.out]; exact HF2.out, hI8.out.2.2⟩
                    · have hag := step_again Z Z3 k (m + 2) V G3 hF.out.2.1 HVp.out
                      obtain ⟨J, hJ⟩ : ∃ J, G3 = J + 1 := ⟨G3 - 1, by have := Nat.lt_of_le_of_lt (Nat.zero_le _) hag; omega⟩
                      have hJi : (G3 : Int) - 1 = (J : Int) := by omega
                      have hJ1 : 1 ≤ G3 := by omega
                      have hJl : J < G3 := by omega
                      have HJ := hid hJ
                      have HAG := hid (show win Z k (m + 3) / V ≤ J from by have := hag; rw [hJ] at this; exact Nat.le_of_lt_succ this)
                      clear hag hJ
                      go_wp2_with fail
                      go_loopw [19, 148] (fun cv iv wr8 => ∃ i c Z4 : Nat, i ≤ m + 2 ∧ c ≤ 1 ∧ cv = .int .u64 (c : Int) ∧ iv = .int .i64 (i : Int) ∧ Hid (Turn Z3 Z4 k i ∧ Adb Z3 Z4 k V i c) ∧ Hid (StI g k N (m + 2) Z V vb w wr8 Z4))
                        (fun _ iv _ => m + 2 - (intOf iv).toNat)
                      case atStart => exact ⟨0, 0, Z3, by omega, by omega, rfl, rfl, hid ⟨Turn.start Z3 k, Adb.start Z3 k V⟩, hI8⟩
                      case round =>
                        clear hI8
                        obtain ⟨i, c, Z4, hi, hc4, rfl, rfl, hTA, hI9⟩ := hrel
                        by_cases hlt9 : i < m + 2
                        · obtain ⟨u, v, p1, p2, p3, p4⟩ := add64_nat (lmN Z4 (k + i)) (lmN V i) c (lmN_lt _ _) (lmN_lt _ _) hc4
                          have HTA2 := hid (And.intro (hTA.out.1.set u p1) (hTA.out.2.step (hTA.out.1.up i (Nat.le_refl _)) p1 p3))
                          have cx9 := hI9.out.1.cell (k + i) (by omega)
                          have fx9 := hI9.out.1.free (k + i)
                          have lx9 := hI9.out.1.lt
                          have cv9 := hI9.out.2.1.cell i hlt9
                          have lv9 := hI9.out.2.1.lt
                          clear p3 hTA
                          go_wp2_with fail
                          (refine wp_region_ext_float 16 14 [0, 1, 2, 3, 4, 5, 6, 7, 8, 9, 10, 11, 12, 13, 15] [_, _, _, _, _, _, _, _, _, _, _, _, _, _, _] _ _ _ rfl rfl rfl rfl (by kernel_rfl) (by kernel_rfl) ?_; (repeat (go_big_quiet_step (first | fail))); refine wpQuiet_nil ?_; refine ⟨?_, ?_⟩; rotate_left; rintro _ ⟨xw, rfl⟩; rotate_left; (repeat (go_big_quiet_step (first | fail))); refine wpQuiet_nil ?_; rintro _ ⟨xw, rfl⟩)
                          all_goals
                            go_wp2_with fail
                            go_roundw
                            case rel => exact ⟨i + 1, v, setL Z4 (k + i) u, by omega, p2, rfl, by go_num, HTA2, hid ((hI9.out.ext xw).put hvg (k + i) u p1)⟩
                            case measure => simp [intOf]; omega
                        · obtain rfl : i = m + 2 := by omega
                          obtain ⟨u, v, p1, p2, p3, p4⟩ := add64_nat (lmN Z4 (k + (m + 2))) 0 c (lmN_lt _ _) (by omega) hc4
                          have HT5 := hid (hF.out.1.trans (hTA.out.1.set u p1))
                          have HW5 := hid (step_back Z Z3 (setL Z4 (k + (m + 2)) u) k (m + 2) V G3 v hJ1 p2 hF.out.2.1 (hTA.out.2.last HV1.out (hTA.out.1.up (m + 2) (Nat.le_refl _)) p1 p3))
                          have cx9 := hI9.out.1.cell (k + (m + 2)) (by omega)
                          have fx9 := hI9.out.1.free (k + (m + 2))
                          have lx9 := hI9.out.1.lt
                          have hv01 : (1 : Int) - (v : Int) = ((1 - v : Nat) : Int) := by omega
                          have p5 : ∀ w, (callFunc 101 #[.int .u64 ((lmN Z4 (k + (m + 2)) : Nat) : Int), .int .u64 0, .int .u64 (c : Int)]).run Try.prog w = .ok (.value (.tuple #[.int .u64 (u : Int), .int .u64 (v : Int)])) w := p4
                          clear p3 hTA hlt9 hi hF p4
                          go_wp2_with fail
                          go_roundw
                          case rel => exact ⟨J, 1 - v, setL Z4 (k + (m + 2)) u, by omega, by omega, by go_num, by go_num, hid ⟨HT5.out, by have := HW5.out; rw [HJ.out, Nat.add_sub_cancel] at this; exact this, HAG.out⟩, hid (hI9.out.put hvg (k + (m + 2)) u p1)⟩
                          case measure => simp [intOf]; omega
          · subst he
            rcases hv01 with hv0 | hv1
            · have p5 : ∀ w, (callFunc 101 #[.int .u64 (mhi : Int), .int .u64 ((lmN V (m + 1) : Nat) : Int), .int .u64 0]).run Try.prog w = .ok (.value (.tuple #[.int .u64 (u : Int), .int .u64 0])) w := fun w => by rw [p4 w, hv0]; rfl
              have hHs2 := hid (hHs.out hv0)
              clear p4 hv0 hHs
              go_wp2_with fail
              go_roundw
              case rel => exact ⟨H, u, by go_num, rfl, bG, p1, hid ⟨hHq.out, hHs2.out⟩, hI2⟩
              case measure => simp [intOf]; omega
            · have p5 : ∀ w, (callFunc 101 #[.int .u64 (mhi : Int), .int .u64 ((lmN V (m + 1) : Nat) : Int), .int .u64 0]).run Try.prog w = .ok (.value (.tuple #[.int .u64 (u : Int), .int .u64 1])) w := fun w => by rw [p4 w, hv1]; rfl
              have hIH := hI2
              clear hI2 hHs p4 hv1
              go_wp2_with fail
              (try simp only [show m + 2 - 1 = m + 1 from rfl])
              go_loopw [13, 14, 95] (fun bv cv iv wr5 => ∃ i b c Z1 : Nat, i ≤ m + 2 ∧ b ≤ 1 ∧ c < 2 ^ 64 ∧ bv = .int .u64 (b : Int) ∧ cv = .int .u64 (c : Int) ∧ iv = .int .i64 (i : Int) ∧ Hid (Turn Z Z1 k i ∧ Mul Z Z1 k V H i b c) ∧ Hid (StI g k N (m + 2) Z V vb w wr5 Z1))
                (fun _ _ iv _ => m + 2 - (intOf iv).toNat)
              case atStart => exact ⟨0, 0, 0, Z, by omega, by omega, by omega, rfl, rfl, rfl, hid ⟨Turn.start Z k, Mul.start Z k V H⟩, hIH⟩
              case round =>
                clear hIH
                obtain ⟨i, b, c, Z1, hi, hb1, hc1, rfl, rfl, rfl, hTM, hI5⟩ := hrel
                by_cases hlt5 : i < m + 2
                · obtain ⟨ahi, alo, a1, a2, a3, a4⟩ := mul64_nat H (lmN V i) bG (lmN_lt _ _)
                  obtain ⟨u1, v1, p1, p2, p3, p4⟩ := add64_nat0 alo c a2 hc1
                  obtain ⟨u2, v2, r1, r2, r3, r4⟩ := sub64_nat (lmN Z1 (k + i)) u1 b (lmN_lt _ _) p1 hb1
                  have hcs := step_fits H (lmN V i) c ahi alo u1 v1 bG (lmN_lt _ _) hc1 p1 a3 p3
                  have HTM2 := hid (And.intro (hTM.out.1.set u2 r1) (hTM.out.2.step (hTM.out.1.up i (Nat.le_refl _)) r1 a3 p3 r3))
                  have A4 := hid a4
                  have cv5 := hI5.out.2.1.cell i hlt5
                  have lv5 := hI5.out.2.1.lt
                  clear a3 p3 r3 a4 hTM
                  go_wp2_with fail
                  refine (A4.out _).mono ?_
                  rintro e w6 ⟨rfl, hb6⟩
                  have hI6 := hid (hI5.out.next hb6)
                  have cx6 := hI6.out.1.cell (k + i) (by omega)
                  have fx6 := hI6.out.1.free (k + i)
                  have lx6 := hI6.out.1.lt
                  clear hI5 cv5 lv5 hb6 A4
                  go_wp2_with fail
                  go_roundw
                  case rel => exact ⟨i + 1, v2, ahi + v1, setL Z1 (k + i) u2, by omega, r2, hcs, rfl, by go_num, by go_num, HTM2, hid (hI6.out.put hvg (k + i) u2 r1)⟩
                  case measure => simp [intOf]; omega
                · obtain rfl : i = m + 2 := by omega
                  obtain ⟨u3, v3, r1, r2, r3, r4⟩ := sub64_nat (lmN Z1 (k + (m + 2))) c b (lmN_lt _ _) hc1 hb1
                  have HT3 := hid (hTM.out.1.set u3 r1)
                  have HW3 := hid (hTM.out.2.last HV1.out (hTM.out.1.up (m + 2) (Nat.le_refl _)) r1 r3)
                  have cx6 := hI5.out.1.cell (k + (m + 2)) (by omega)
                  have fx6 := hI5.out.1.free (k + (m + 2))
                  have lx6 := hI5.out.1.lt
                  clear hTM hlt5 hi r3
                  go_wp2_with fail
                  have hI7 := hid (hI5.out.put hvg (k + (m + 2)) u3 r1)
                  generalize wr.setCell ⟨g, k + (m + 2), none⟩ (.int .u64 (u3 : Int)) = w7 at hI7 ⊢
                  clear hI5 cx6 fx6 lx6 r4
                  go_loopw [6, 13] (fun gv bv wr7 => ∃ G3 b3 Z3 : Nat, G3 < 2 ^ 64 ∧ b3 ≤ 1 ∧ gv = .int .u64 (G3 : Int) ∧ bv = .int .u64 (b3 : Int) ∧ Hid (Turn Z Z3 k (m + 3) ∧ win Z3 k (m + 3) + G3 * V = win Z k (m + 3) + 2 ^ (64 * (m + 3)) * b3 ∧ win Z k (m + 3) / V ≤ G3) ∧ Hid (StI g k N (m + 2) Z V vb w wr7 Z3))
                    (fun gv _ _ => (intOf gv).toNat)
                  case atStart => exact ⟨H, v3, setL Z1 (k + (m + 2)) u3, bG, r2, rfl, rfl, hid ⟨HT3.out, HW3.out, hHq.out⟩, hI7⟩
                  case round =>
                    clear hI7 HT3 HW3
                    obtain ⟨G3, b3, Z3, bG3, hb3, rfl, rfl, hF, hI8⟩ := hrel
                    have hcase : b3 = 0 ∨ b3 = 1 := by omega
                    rcases hcase with rfl | rfl
                    · have hfin := step_done Z Z3 k (m + 2) V G3 hF.out.1 hF.out.2.1 HVp.out hF.out.2.2
                      have HF1 := hid hfin.1
                      have HF2 := hid hfin.2
                      clear hfin hF
                      go_wp2_with fail
                      go_ret
                      exact ⟨Z3, by rw [← HF1.out]; rfl, hI8.out.1, by rw [← HF1.out]; exact HF2.out, hI8.out.2.2⟩
                    · have hag := step_again Z Z3 k (m + 2) V G3 hF.out.2.1 HVp.out
                      obtain ⟨J, hJ⟩ : ∃ J, G3 = J + 1 := ⟨G3 - 1, by have := Nat.lt_of_le_of_lt (Nat.zero_le _) hag; omega⟩
                      have hJi : (G3 : Int) - 1 = (J : Int) := by omega
                      have hJ1 : 1 ≤ G3 := by omega
                      have hJl : J < G3 := by omega
                      have HJ := hid hJ
                      have HAG := hid (show win Z k (m + 3) / V ≤ J from by have := hag; rw [hJ] at this; exact Nat.le_of_lt_succ this)
                      clear hag hJ
                      go_wp2_with fail
                      go_loopw [19, 148] (fun cv iv wr8 => ∃ i c Z4 : Nat, i ≤ m + 2 ∧ c ≤ 1 ∧ cv = .int .u64 (c : Int) ∧ iv = .int .i64 (i : Int) ∧ Hid (Turn Z3 Z4 k i ∧ Adb Z3 Z4 k V i c) ∧ Hid (StI g k N (m + 2) Z V vb w wr8 Z4))
                        (fun _ iv _ => m + 2 - (intOf iv).toNat)
                      case atStart => exact ⟨0, 0, Z3, by omega, by omega, rfl, rfl, hid ⟨Turn.start Z3 k, Adb.start Z3 k V⟩, hI8⟩
                      case round =>
                        clear hI8
                        obtain ⟨i, c, Z4, hi, hc4, rfl, rfl, hTA, hI9⟩ := hrel
                        by_cases hlt9 : i < m + 2
                        · obtain ⟨u, v, p1, p2, p3, p4⟩ := add64_nat (lmN Z4 (k + i)) (lmN V i) c (lmN_lt _ _) (lmN_lt _ _) hc4
                          have HTA2 := hid (And.intro (hTA.out.1.set u p1) (hTA.out.2.step (hTA.out.1.up i (Nat.le_refl _)) p1 p3))
                          have cx9 := hI9.out.1.cell (k + i) (by omega)
                          have fx9 := hI9.out.1.free (k + i)
                          have lx9 := hI9.out.1.lt
                          have cv9 := hI9.out.2.1.cell i hlt9
                          have lv9 := hI9.out.2.1.lt
                          clear p3 hTA
                          go_wp2_with fail
                          (refine wp_region_ext_float 16 14 [0, 1, 2, 3, 4, 5, 6, 7, 8, 9, 10, 11, 12, 13, 15] [_, _, _, _, _, _, _, _, _, _, _, _, _, _, _] _ _ _ rfl rfl rfl rfl (by kernel_rfl) (by kernel_rfl) ?_; (repeat (go_big_quiet_step (first | fail))); refine wpQuiet_nil ?_; refine ⟨?_, ?_⟩; rotate_left; rintro _ ⟨xw, rfl⟩; rotate_left; (repeat (go_big_quiet_step (first | fail))); refine wpQuiet_nil ?_; rintro _ ⟨xw, rfl⟩)
                          all_goals
                            go_wp2_with fail
                            go_roundw
                            case rel => exact ⟨i + 1, v, setL Z4 (k + i) u, by omega, p2, rfl, by go_num, HTA2, hid ((hI9.out.ext xw).put hvg (k + i) u p1)⟩
                            case measure => simp [intOf]; omega
                        · obtain rfl : i = m + 2 := by omega
                          obtain ⟨u, v, p1, p2, p3, p4⟩ := add64_nat (lmN Z4 (k + (m + 2))) 0 c (lmN_lt _ _) (by omega) hc4
                          have HT5 := hid (hF.out.1.trans (hTA.out.1.set u p1))
                          have HW5 := hid (step_back Z Z3 (setL Z4 (k + (m + 2)) u) k (m + 2) V G3 v hJ1 p2 hF.out.2.1 (hTA.out.2.last HV1.out (hTA.out.1.up (m + 2) (Nat.le_refl _)) p1 p3))
                          have cx9 := hI9.out.1.cell (k + (m + 2)) (by omega)
                          have fx9 := hI9.out.1.free (k + (m + 2))
                          have lx9 := hI9.out.1.lt
                          have hv01 : (1 : Int) - (v : Int) = ((1 - v : Nat) : Int) := by omega
                          have p5 : ∀ w, (callFunc 101 #[.int .u64 ((lmN Z4 (k + (m + 2)) : Nat) : Int), .int .u64 0, .int .u64 (c : Int)]).run Try.prog w = .ok (.value (.tuple #[.int .u64 (u : Int), .int .u64 (v : Int)])) w := p4
                          clear p3 hTA hlt9 hi hF p4
                          go_wp2_with fail
                          go_roundw
                          case rel => exact ⟨J, 1 - v, setL Z4 (k + (m + 2)) u, by omega, by omega, by go_num, by go_num, hid ⟨HT5.out, by have := HW5.out; rw [HJ.out, Nat.add_sub_cancel] at this; exact this, HAG.out⟩, hid (hI9.out.put hvg (k + (m + 2)) u p1)⟩
                          case measure => simp [intOf]; omega
  · obtain ⟨H, hH⟩ : ∃ H : Nat, H = 18446744073709551615 := ⟨_, rfl⟩
    have hHi : (18446744073709551615 : Int) = (H : Int) := by omega
    have bG : H < 2 ^ 64 := by omega
    have hHq := hid (show win Z k (m + 3) / V ≤ H by have := hqb.out; omega)
    have hIH := hid (HI.out.ext xw)
    have hge : ¬ lmN Z (k + (m + 2)) < lmN V (m + 1) := htop
    rw [hHi]
    clear hH hHi c1 c2 c3 HI hqb l1 l2
    simp only [decide_eq_false hge, show m + 2 - 1 = m + 1 from rfl]
    clear hge htop
    generalize w.ext xw = w1 at hIH ⊢
    go_wp2_with fail
    (try simp only [show m + 2 - 1 = m + 1 from rfl])
    go_loopw [13, 14, 95] (fun bv cv iv wr5 => ∃ i b c Z1 : Nat, i ≤ m + 2 ∧ b ≤ 1 ∧ c < 2 ^ 64 ∧ bv = .int .u64 (b : Int) ∧ cv = .int .u64 (c : Int) ∧ iv = .int .i64 (i : Int) ∧ Hid (Turn Z Z1 k i ∧ Mul Z Z1 k V H i b c) ∧ Hid (StI g k N (m + 2) Z V vb w wr5 Z1))
      (fun _ _ iv _ => m + 2 - (intOf iv).toNat)
    case atStart => exact ⟨0, 0, 0, Z, by omega, by omega, by omega, rfl, rfl, rfl, hid ⟨Turn.start Z k, Mul.start Z k V H⟩, hIH⟩
    case round =>
      clear hIH
      obtain ⟨i, b, c, Z1, hi, hb1, hc1, rfl, rfl, rfl, hTM, hI5⟩ := hrel
      by_cases hlt5 : i < m + 2
      · obtain ⟨ahi, alo, a1, a2, a3, a4⟩ := mul64_nat H (lmN V i) bG (lmN_lt _ _)
        obtain ⟨u1, v1, p1, p2, p3, p4⟩ := add64_nat0 alo c a2 hc1
        obtain ⟨u2, v2, r1, r2, r3, r4⟩ := sub64_nat (lmN Z1 (k + i)) u1 b (lmN_lt _ _) p1 hb1
        have hcs := step_fits H (lmN V i) c ahi alo u1 v1 bG (lmN_lt _ _) hc1 p1 a3 p3
        have HTM2 := hid (And.intro (hTM.out.1.set u2 r1) (hTM.out.2.step (hTM.out.1.up i (Nat.le_refl _)) r1 a3 p3 r3))
        have A4 := hid a4
        have cv5 := hI5.out.2.1.cell i hlt5
        have lv5 := hI5.out.2.1.lt
        clear a3 p3 r3 a4 hTM
        go_wp2_with fail
        refine (A4.out _).mono ?_
        rintro e w6 ⟨rfl, hb6⟩
        have hI6 := hid (hI5.out.next hb6)
        have cx6 := hI6.out.1.cell (k + i) (by omega)
        have fx6 := hI6.out.1.free (k + i)
        have lx6 := hI6.out.1.lt
        clear hI5 cv5 lv5 hb6 A4
        go_wp2_with fail
        go_roundw
        case rel => exact ⟨i + 1, v2, ahi + v1, setL Z1 (k + i) u2, by omega, r2, hcs, rfl, by go_num, by go_num, HTM2, hid (hI6.out.put hvg (k + i) u2 r1)⟩
        case measure => simp [intOf]; omega
      · obtain rfl : i = m + 2 := by omega
        obtain ⟨u3, v3, r1, r2, r3, r4⟩ := sub64_nat (lmN Z1 (k + (m + 2))) c b (lmN_lt _ _) hc1 hb1
        have HT3 := hid (hTM.out.1.set u3 r1)
        have HW3 := hid (hTM.out.2.last HV1.out (hTM.out.1.up (m + 2) (Nat.le_refl _)) r1 r3)
        have cx6 := hI5.out.1.cell (k + (m + 2)) (by omega)
        have fx6 := hI5.out.1.free (k + (m + 2))
        have lx6 := hI5.out.1.lt
        clear hTM hlt5 hi r3
        go_wp2_with fail
        have hI7 := hid (hI5.out.put hvg (k + (m + 2)) u3 r1)
        generalize wr.setCell ⟨g, k + (m + 2), none⟩ (.int .u64 (u3 : Int)) = w7 at hI7 ⊢
        clear hI5 cx6 fx6 lx6 r4
        go_loopw [6, 13] (fun gv bv wr7 => ∃ G3 b3 Z3 : Nat, G3 < 2 ^ 64 ∧ b3 ≤ 1 ∧ gv = .int .u64 (G3 : Int) ∧ bv = .int .u64 (b3 : Int) ∧ Hid (Turn Z Z3 k (m + 3) ∧ win Z3 k (m + 3) + G3 * V = win Z k (m + 3) + 2 ^ (64 * (m + 3)) * b3 ∧ win Z k (m + 3) / V ≤ G3) ∧ Hid (StI g k N (m + 2) Z V vb w wr7 Z3))
          (fun gv _ _ => (intOf gv).toNat)
        case atStart => exact ⟨H, v3, setL Z1 (k + (m + 2)) u3, bG, r2, rfl, rfl, hid ⟨HT3.out, HW3.out, hHq.out⟩, hI7⟩
        case round =>
          clear hI7 HT3 HW3
          obtain ⟨G3, b3, Z3, bG3, hb3, rfl, rfl, hF, hI8⟩ := hrel
          have hcase : b3 = 0 ∨ b3 = 1 := by omega
          rcases hcase with rfl | rfl
          · have hfin := step_done Z Z3 k (m + 2) V G3 hF.out.1 hF.out.2.1 HVp.out hF.out.2.2
            have HF1 := hid hfin.1
            have HF2 := hid hfin.2
            clear hfin hF
            go_wp2_with fail
            go_ret
            exact ⟨Z3, by rw [← HF1.out]; rfl, hI8.out.1, by rw [← HF1.out]; exact HF2.out, hI8.out.2.2⟩
          · have hag := step_again Z Z3 k (m + 2) V G3 hF.out.2.1 HVp.out
            obtain ⟨J, hJ⟩ : ∃ J, G3 = J + 1 := ⟨G3 - 1, by have := Nat.lt_of_le_of_lt (Nat.zero_le _) hag; omega⟩
            have hJi : (G3 : Int) - 1 = (J : Int) := by omega
            have hJ1 : 1 ≤ G3 := by omega
            have hJl : J < G3 := by omega
            have HJ := hid hJ
            have HAG := hid (show win Z k (m + 3) / V ≤ J from by have := hag; rw [hJ] at this; exact Nat.le_of_lt_succ this)
            clear hag hJ
            go_wp2_with fail
            go_loopw [19, 148] (fun cv iv wr8 => ∃ i c Z4 : Nat, i ≤ m + 2 ∧ c ≤ 1 ∧ cv = .int .u64 (c : Int) ∧ iv = .int .i64 (i : Int) ∧ Hid (Turn Z3 Z4 k i ∧ Adb Z3 Z4 k V i c) ∧ Hid (StI g k N (m + 2) Z V vb w wr8 Z4))
              (fun _ iv _ => m + 2 - (intOf iv).toNat)
            case atStart => exact ⟨0, 0, Z3, by omega, by omega, rfl, rfl, hid ⟨Turn.start Z3 k, Adb.start Z3 k V⟩, hI8⟩
            case round =>
              clear hI8
              obtain ⟨i, c, Z4, hi, hc4, rfl, rfl, hTA, hI9⟩ := hrel
              by_cases hlt9 : i < m + 2
              · obtain ⟨u, v, p1, p2, p3, p4⟩ := add64_nat (lmN Z4 (k + i)) (lmN V i) c (lmN_lt _ _) (lmN_lt _ _) hc4
                have HTA2 := hid (And.intro (hTA.out.1.set u p1) (hTA.out.2.step (hTA.out.1.up i (Nat.le_refl _)) p1 p3))
                have cx9 := hI9.out.1.cell (k + i) (by omega)
                have fx9 := hI9.out.1.free (k + i)
                have lx9 := hI9.out.1.lt
                have cv9 := hI9.out.2.1.cell i hlt9
                have lv9 := hI9.out.2.1.lt
                clear p3 hTA
                go_wp2_with fail
                (refine wp_region_ext_float 16 14 [0, 1, 2, 3, 4, 5, 6, 7, 8, 9, 10, 11, 12, 13, 15] [_, _, _, _, _, _, _, _, _, _, _, _, _, _, _] _ _ _ rfl rfl rfl rfl (by kernel_rfl) (by kernel_rfl) ?_; (repeat (go_big_quiet_step (first | fail))); refine wpQuiet_nil ?_; refine ⟨?_, ?_⟩; rotate_left; rintro _ ⟨xw, rfl⟩; rotate_left; (repeat (go_big_quiet_step (first | fail))); refine wpQuiet_nil ?_; rintro _ ⟨xw, rfl⟩)
                all_goals
                  go_wp2_with fail
                  go_roundw
                  case rel => exact ⟨i + 1, v, setL Z4 (k + i) u, by omega, p2, rfl, by go_num, HTA2, hid ((hI9.out.ext xw).put hvg (k + i) u p1)⟩
                  case measure => simp [intOf]; omega
              · obtain rfl : i = m + 2 := by omega
                obtain ⟨u, v, p1, p2, p3, p4⟩ := add64_nat (lmN Z4 (k + (m + 2))) 0 c (lmN_lt _ _) (by omega) hc4
                have HT5 := hid (hF.out.1.trans (hTA.out.1.set u p1))
                have HW5 := hid (step_back Z Z3 (setL Z4 (k + (m + 2)) u) k (m + 2) V G3 v hJ1 p2 hF.out.2.1 (hTA.out.2.last HV1.out (hTA.out.1.up (m + 2) (Nat.le_refl _)) p1 p3))
                have cx9 := hI9.out.1.cell (k + (m + 2)) (by omega)
                have fx9 := hI9.out.1.free (k + (m + 2))
                have lx9 := hI9.out.1.lt
                have hv01 : (1 : Int) - (v : Int) = ((1 - v : Nat) : Int) := by omega
                have p5 : ∀ w, (callFunc 101 #[.int .u64 ((lmN Z4 (k + (m + 2)) : Nat) : Int), .int .u64 0, .int .u64 (c : Int)]).run Try.prog w = .ok (.value (.tuple #[.int .u64 (u : Int), .int .u64 (v : Int)])) w := p4
                clear p3 hTA hlt9 hi hF p4
                go_wp2_with fail
                go_roundw
                case rel => exact ⟨J, 1 - v, setL Z4 (k + (m + 2)) u, by omega, by omega, by go_num, by go_num, hid ⟨HT5.out, by have := HW5.out; rw [HJ.out, Nat.add_sub_cancel] at this; exact this, HAG.out⟩, hid (hI9.out.put hvg (k + (m + 2)) u p1)⟩
                case measure => simp [intOf]; omega
end Go.Proofs.Ytfidbiabgmioaaa
