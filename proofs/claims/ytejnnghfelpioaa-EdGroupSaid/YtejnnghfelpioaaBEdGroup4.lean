import Derived.RangeFuncNested
import Derived.RangeFuncBox
import Derived.RangeFuncBound
import Derived.RangeFuncCalls
import Derived.RangeFuncLeaves
import Derived.RangeFuncWrites
import Derived.Shelf.Abstract
import Derived.OwnWalkIn
import Derived.TacticsInMore
import Derived.LoopNIn
import Derived.LoopIn
import Derived.Test.YtejnnghfelpioaaBEdGroup3
set_option maxRecDepth 4000
set_option linter.unusedVariables false
set_option linter.unusedSimpArgs false
namespace Go.Proofs.Ytejnnghfelpioaa
open Go.RowKit
theorem lowS (s : Nat) : bits .and .u64 ((s % 2 ^ 64 : Nat) : Int) 2251799813685247 = ((s % 2251799813685248 : Nat) : Int) := by
  rw [lowA _ (Nat.mod_lt _ (by decide))]; congr 1; omega
set_option maxRecDepth 100000 in
set_option maxHeartbeats 20000000 in
theorem mul5_any (f g : F5) (w : World) (hf : T5 f) (hg : T5 g) : Calls Try.prog 29 #[fe f, fe g] w fun e w' => e = .returned (fe (mul5 f g)) ∧ Below w.heap.size w w' := by
  have hprd := prd5_ok f g hf hg
  have hcok := car5_prd f g hf hg
  obtain ⟨h0, h1, h2, h3, h4⟩ := hf
  obtain ⟨y0, y1, y2, y3, y4⟩ := hg
  obtain ⟨a0, a1, a2, a3, a4⟩ := f
  obtain ⟨b0, b1, b2, b3, b4⟩ := g
  simp only at h0 h1 h2 h3 h4 y0 y1 y2 y3 y4
  have m00 := m104 h0 y0
  have m01 := m109 h1 y4
  have m02 := m109 h2 y3
  have m03 := m109 h3 y2
  have m04 := m109 h4 y1
  obtain ⟨s00, es00⟩ : ∃ s, s = 0 + a0 * b0 := ⟨_, rfl⟩
  have c00 := hid (show ∀ w, Calls Try.prog 56 #[w128 0, .int .u64 (a0 : Int), .int .u64 (b0 : Int)] w fun e w' => e = .returned (w128 s00) ∧ Below w.heap.size w w' from fun w => by rw [es00]; exact w128add_any 0 a0 b0 w (by omega) (by omega) (by omega))
  obtain ⟨s01, es01⟩ : ∃ s, s = s00 + a1 * (19 * b4) := ⟨_, rfl⟩
  have c01 := hid (show ∀ w, Calls Try.prog 56 #[w128 s00, .int .u64 (a1 : Int), .int .u64 (19 * (b4 : Int))] w fun e w' => e = .returned (w128 s01) ∧ Below w.heap.size w w' from fun w => by rw [es01]; exact w128add_any s00 a1 (19 * b4) w (by omega) (by omega) (by omega))
  obtain ⟨s02, es02⟩ : ∃ s, s = s01 + a2 * (19 * b3) := ⟨_, rfl⟩
  have c02 := hid (show ∀ w, Calls Try.prog 56 #[w128 s01, .int .u64 (a2 : Int), .int .u64 (19 * (b3 : Int))] w fun e w' => e = .returned (w128 s02) ∧ Below w.heap.size w w' from fun w => by rw [es02]; exact w128add_any s01 a2 (19 * b3) w (by omega) (by omega) (by omega))
  obtain ⟨s03, es03⟩ : ∃ s, s = s02 + a3 * (19 * b2) := ⟨_, rfl⟩
  have c03 := hid (show ∀ w, Calls Try.prog 56 #[w128 s02, .int .u64 (a3 : Int), .int .u64 (19 * (b2 : Int))] w fun e w' => e = .returned (w128 s03) ∧ Below w.heap.size w w' from fun w => by rw [es03]; exact w128add_any s02 a3 (19 * b2) w (by omega) (by omega) (by omega))
  obtain ⟨s04, es04⟩ : ∃ s, s = s03 + a4 * (19 * b1) := ⟨_, rfl⟩
  have c04 := hid (show ∀ w, Calls Try.prog 56 #[w128 s03, .int .u64 (a4 : Int), .int .u64 (19 * (b1 : Int))] w fun e w' => e = .returned (w128 s04) ∧ Below w.heap.size w w' from fun w => by rw [es04]; exact w128add_any s03 a4 (19 * b1) w (by omega) (by omega) (by omega))
  have m10 := m104 h0 y1
  have m11 := m104 h1 y0
  have m12 := m109 h2 y4
  have m13 := m109 h3 y3
  have m14 := m109 h4 y2
  obtain ⟨s10, es10⟩ : ∃ s, s = 0 + a0 * b1 := ⟨_, rfl⟩
  have c10 := hid (show ∀ w, Calls Try.prog 56 #[w128 0, .int .u64 (a0 : Int), .int .u64 (b1 : Int)] w fun e w' => e = .returned (w128 s10) ∧ Below w.heap.size w w' from fun w => by rw [es10]; exact w128add_any 0 a0 b1 w (by omega) (by omega) (by omega))
  obtain ⟨s11, es11⟩ : ∃ s, s = s10 + a1 * b0 := ⟨_, rfl⟩
  have c11 := hid (show ∀ w, Calls Try.prog 56 #[w128 s10, .int .u64 (a1 : Int), .int .u64 (b0 : Int)] w fun e w' => e = .returned (w128 s11) ∧ Below w.heap.size w w' from fun w => by rw [es11]; exact w128add_any s10 a1 b0 w (by omega) (by omega) (by omega))
  obtain ⟨s12, es12⟩ : ∃ s, s = s11 + a2 * (19 * b4) := ⟨_, rfl⟩
  have c12 := hid (show ∀ w, Calls Try.prog 56 #[w128 s11, .int .u64 (a2 : Int), .int .u64 (19 * (b4 : Int))] w fun e w' => e = .returned (w128 s12) ∧ Below w.heap.size w w' from fun w => by rw [es12]; exact w128add_any s11 a2 (19 * b4) w (by omega) (by omega) (by omega))
  obtain ⟨s13, es13⟩ : ∃ s, s = s12 + a3 * (19 * b3) := ⟨_, rfl⟩
  have c13 := hid (show ∀ w, Calls Try.prog 56 #[w128 s12, .int .u64 (a3 : Int), .int .u64 (19 * (b3 : Int))] w fun e w' => e = .returned (w128 s13) ∧ Below w.heap.size w w' from fun w => by rw [es13]; exact w128add_any s12 a3 (19 * b3) w (by omega) (by omega) (by omega))
  obtain ⟨s14, es14⟩ : ∃ s, s = s13 + a4 * (19 * b2) := ⟨_, rfl⟩
  have c14 := hid (show ∀ w, Calls Try.prog 56 #[w128 s13, .int .u64 (a4 : Int), .int .u64 (19 * (b2 : Int))] w fun e w' => e = .returned (w128 s14) ∧ Below w.heap.size w w' from fun w => by rw [es14]; exact w128add_any s13 a4 (19 * b2) w (by omega) (by omega) (by omega))
  have m20 := m104 h0 y2
  have m21 := m104 h1 y1
  have m22 := m104 h2 y0
  have m23 := m109 h3 y4
  have m24 := m109 h4 y3
  obtain ⟨s20, es20⟩ : ∃ s, s = 0 + a0 * b2 := ⟨_, rfl⟩
  have c20 := hid (show ∀ w, Calls Try.prog 56 #[w128 0, .int .u64 (a0 : Int), .int .u64 (b2 : Int)] w fun e w' => e = .returned (w128 s20) ∧ Below w.heap.size w w' from fun w => by rw [es20]; exact w128add_any 0 a0 b2 w (by omega) (by omega) (by omega))
  obtain ⟨s21, es21⟩ : ∃ s, s = s20 + a1 * b1 := ⟨_, rfl⟩
  have c21 := hid (show ∀ w, Calls Try.prog 56 #[w128 s20, .int .u64 (a1 : Int), .int .u64 (b1 : Int)] w fun e w' => e = .returned (w128 s21) ∧ Below w.heap.size w w' from fun w => by rw [es21]; exact w128add_any s20 a1 b1 w (by omega) (by omega) (by omega))
  obtain ⟨s22, es22⟩ : ∃ s, s = s21 + a2 * b0 := ⟨_, rfl⟩
  have c22 := hid (show ∀ w, Calls Try.prog 56 #[w128 s21, .int .u64 (a2 : Int), .int .u64 (b0 : Int)] w fun e w' => e = .returned (w128 s22) ∧ Below w.heap.size w w' from fun w => by rw [es22]; exact w128add_any s21 a2 b0 w (by omega) (by omega) (by omega))
  obtain ⟨s23, es23⟩ : ∃ s, s = s22 + a3 * (19 * b4) := ⟨_, rfl⟩
  have c23 := hid (show ∀ w, Calls Try.prog 56 #[w128 s22, .int .u64 (a3 : Int), .int .u64 (19 * (b4 : Int))] w fun e w' => e = .returned (w128 s23) ∧ Below w.heap.size w w' from fun w => by rw [es23]; exact w128add_any s22 a3 (19 * b4) w (by omega) (by omega) (by omega))
  obtain ⟨s24, es24⟩ : ∃ s, s = s23 + a4 * (19 * b3) := ⟨_, rfl⟩
  have c24 := hid (show ∀ w, Calls Try.prog 56 #[w128 s23, .int .u64 (a4 : Int), .int .u64 (19 * (b3 : Int))] w fun e w' => e = .returned (w128 s24) ∧ Below w.heap.size w w' from fun w => by rw [es24]; exact w128add_any s23 a4 (19 * b3) w (by omega) (by omega) (by omega))
  have m30 := m104 h0 y3
  have m31 := m104 h1 y2
  have m32 := m104 h2 y1
  have m33 := m104 h3 y0
  have m34 := m109 h4 y4
  obtain ⟨s30, es30⟩ : ∃ s, s = 0 + a0 * b3 := ⟨_, rfl⟩
  have c30 := hid (show ∀ w, Calls Try.prog 56 #[w128 0, .int .u64 (a0 : Int), .int .u64 (b3 : Int)] w fun e w' => e = .returned (w128 s30) ∧ Below w.heap.size w w' from fun w => by rw [es30]; exact w128add_any 0 a0 b3 w (by omega) (by omega) (by omega))
  obtain ⟨s31, es31⟩ : ∃ s, s = s30 + a1 * b2 := ⟨_, rfl⟩
  have c31 := hid (show ∀ w, Calls Try.prog 56 #[w128 s30, .int .u64 (a1 : Int), .int .u64 (b2 : Int)] w fun e w' => e = .returned (w128 s31) ∧ Below w.heap.size w w' from fun w => by rw [es31]; exact w128add_any s30 a1 b2 w (by omega) (by omega) (by omega))
  obtain ⟨s32, es32⟩ : ∃ s, s = s31 + a2 * b1 := ⟨_, rfl⟩
  have c32 := hid (show ∀ w, Calls Try.prog 56 #[w128 s31, .int .u64 (a2 : Int), .int .u64 (b1 : Int)] w fun e w' => e = .returned (w128 s32) ∧ Below w.heap.size w w' from fun w => by rw [es32]; exact w128add_any s31 a2 b1 w (by omega) (by omega) (by omega))
  obtain ⟨s33, es33⟩ : ∃ s, s = s32 + a3 * b0 := ⟨_, rfl⟩
  have c33 := hid (show ∀ w, Calls Try.prog 56 #[w128 s32, .int .u64 (a3 : Int), .int .u64 (b0 : Int)] w fun e w' => e = .returned (w128 s33) ∧ Below w.heap.size w w' from fun w => by rw [es33]; exact w128add_any s32 a3 b0 w (by omega) (by omega) (by omega))
  obtain ⟨s34, es34⟩ : ∃ s, s = s33 + a4 * (19 * b4) := ⟨_, rfl⟩
  have c34 := hid (show ∀ w, Calls Try.prog 56 #[w128 s33, .int .u64 (a4 : Int), .int .u64 (19 * (b4 : Int))] w fun e w' => e = .returned (w128 s34) ∧ Below w.heap.size w w' from fun w => by rw [es34]; exact w128add_any s33 a4 (19 * b4) w (by omega) (by omega) (by omega))
  have m40 := m104 h0 y4
  have m41 := m104 h1 y3
  have m42 := m104 h2 y2
  have m43 := m104 h3 y1
  have m44 := m104 h4 y0
  obtain ⟨s40, es40⟩ : ∃ s, s = 0 + a0 * b4 := ⟨_, rfl⟩
  have c40 := hid (show ∀ w, Calls Try.prog 56 #[w128 0, .int .u64 (a0 : Int), .int .u64 (b4 : Int)] w fun e w' => e = .returned (w128 s40) ∧ Below w.heap.size w w' from fun w => by rw [es40]; exact w128add_any 0 a0 b4 w (by omega) (by omega) (by omega))
  obtain ⟨s41, es41⟩ : ∃ s, s = s40 + a1 * b3 := ⟨_, rfl⟩
  have c41 := hid (show ∀ w, Calls Try.prog 56 #[w128 s40, .int .u64 (a1 : Int), .int .u64 (b3 : Int)] w fun e w' => e = .returned (w128 s41) ∧ Below w.heap.size w w' from fun w => by rw [es41]; exact w128add_any s40 a1 b3 w (by omega) (by omega) (by omega))
  obtain ⟨s42, es42⟩ : ∃ s, s = s41 + a2 * b2 := ⟨_, rfl⟩
  have c42 := hid (show ∀ w, Calls Try.prog 56 #[w128 s41, .int .u64 (a2 : Int), .int .u64 (b2 : Int)] w fun e w' => e = .returned (w128 s42) ∧ Below w.heap.size w w' from fun w => by rw [es42]; exact w128add_any s41 a2 b2 w (by omega) (by omega) (by omega))
  obtain ⟨s43, es43⟩ : ∃ s, s = s42 + a3 * b1 := ⟨_, rfl⟩
  have c43 := hid (show ∀ w, Calls Try.prog 56 #[w128 s42, .int .u64 (a3 : Int), .int .u64 (b1 : Int)] w fun e w' => e = .returned (w128 s43) ∧ Below w.heap.size w w' from fun w => by rw [es43]; exact w128add_any s42 a3 b1 w (by omega) (by omega) (by omega))
  obtain ⟨s44, es44⟩ : ∃ s, s = s43 + a4 * b0 := ⟨_, rfl⟩
  have c44 := hid (show ∀ w, Calls Try.prog 56 #[w128 s43, .int .u64 (a4 : Int), .int .u64 (b0 : Int)] w fun e w' => e = .returned (w128 s44) ∧ Below w.heap.size w w' from fun w => by rw [es44]; exact w128add_any s43 a4 b0 w (by omega) (by omega) (by omega))
  have l0 : s04 < 2 ^ 112 := by omega
  have v0 := hid fun w => above_any s04 w l0
  obtain ⟨lo0, hlo00⟩ : ∃ s, s = s04 % 2 ^ 64 := ⟨_, rfl⟩
  have hlo0 := hid hlo00
  obtain ⟨lw0, hlw0⟩ : ∃ s, s = s04 % 2251799813685248 := ⟨_, rfl⟩
  obtain ⟨up0, hup0⟩ : ∃ s, s = s04 / 2251799813685248 := ⟨_, rfl⟩
  have zz0 := lowS s04
  rw [← hlo00, ← hlw0] at zz0
  rw [← hup0] at v0
  have l1 : s14 < 2 ^ 112 := by omega
  have v1 := hid fun w => above_any s14 w l1
  obtain ⟨lo1, hlo10⟩ : ∃ s, s = s14 % 2 ^ 64 := ⟨_, rfl⟩
  have hlo1 := hid hlo10
  obtain ⟨lw1, hlw1⟩ : ∃ s, s = s14 % 2251799813685248 := ⟨_, rfl⟩
  obtain ⟨up1, hup1⟩ : ∃ s, s = s14 / 2251799813685248 := ⟨_, rfl⟩
  have zz1 := lowS s14
  rw [← hlo10, ← hlw1] at zz1
  rw [← hup1] at v1
  have l2 : s24 < 2 ^ 112 := by omega
  have v2 := hid fun w => above_any s24 w l2
  obtain ⟨lo2, hlo20⟩ : ∃ s, s = s24 % 2 ^ 64 := ⟨_, rfl⟩
  have hlo2 := hid hlo20
  obtain ⟨lw2, hlw2⟩ : ∃ s, s = s24 % 2251799813685248 := ⟨_, rfl⟩
  obtain ⟨up2, hup2⟩ : ∃ s, s = s24 / 2251799813685248 := ⟨_, rfl⟩
  have zz2 := lowS s24
  rw [← hlo20, ← hlw2] at zz2
  rw [← hup2] at v2
  have l3 : s34 < 2 ^ 112 := by omega
  have v3 := hid fun w => above_any s34 w l3
  obtain ⟨lo3, hlo30⟩ : ∃ s, s = s34 % 2 ^ 64 := ⟨_, rfl⟩
  have hlo3 := hid hlo30
  obtain ⟨lw3, hlw3⟩ : ∃ s, s = s34 % 2251799813685248 := ⟨_, rfl⟩
  obtain ⟨up3, hup3⟩ : ∃ s, s = s34 / 2251799813685248 := ⟨_, rfl⟩
  have zz3 := lowS s34
  rw [← hlo30, ← hlw3] at zz3
  rw [← hup3] at v3
  have l4 : s44 < 2 ^ 112 := by omega
  have v4 := hid fun w => above_any s44 w l4
  obtain ⟨lo4, hlo40⟩ : ∃ s, s = s44 % 2 ^ 64 := ⟨_, rfl⟩
  have hlo4 := hid hlo40
  obtain ⟨lw4, hlw4⟩ : ∃ s, s = s44 % 2251799813685248 := ⟨_, rfl⟩
  obtain ⟨up4, hup4⟩ : ∃ s, s = s44 / 2251799813685248 := ⟨_, rfl⟩
  have zz4 := lowS s44
  rw [← hlo40, ← hlw4] at zz4
  rw [← hup4] at v4
  have hres : mul5 ⟨a0, a1, a2, a3, a4⟩ ⟨b0, b1, b2, b3, b4⟩ = car5 (car5 ⟨s04, s14, s24, s34, s44⟩) := by
    unfold mul5 prd5
    simp only
    rw [es04, es03, es02, es01, es00, Nat.zero_add]
    rw [es14, es13, es12, es11, es10, Nat.zero_add]
    rw [es24, es23, es22, es21, es20, Nat.zero_add]
    rw [es34, es33, es32, es31, es30, Nat.zero_add]
    rw [es44, es43, es42, es41, es40, Nat.zero_add]
  have hpr : prd5 ⟨a0, a1, a2, a3, a4⟩ ⟨b0, b1, b2, b3, b4⟩ = ⟨s04, s14, s24, s34, s44⟩ := by
    unfold prd5
    simp only
    rw [es04, es03, es02, es01, es00, Nat.zero_add]
    rw [es14, es13, es12, es11, es10, Nat.zero_add]
    rw [es24, es23, es22, es21, es20, Nat.zero_add]
    rw [es34, es33, es32, es31, es30, Nat.zero_add]
    rw [es44, es43, es42, es41, es40, Nat.zero_add]
  rw [hpr] at hcok
  rw [hres]
  have hC := hid fun w => car5_any _ w (hcok.mono (by decide))
  obtain ⟨q0, eq0⟩ : ∃ q, q = lw0 + 19 * up4 := ⟨_, rfl⟩
  obtain ⟨q1, eq1⟩ : ∃ q, q = lw1 + up0 := ⟨_, rfl⟩
  obtain ⟨q2, eq2⟩ : ∃ q, q = lw2 + up1 := ⟨_, rfl⟩
  obtain ⟨q3, eq3⟩ : ∃ q, q = lw3 + up2 := ⟨_, rfl⟩
  obtain ⟨q4, eq4⟩ : ∃ q, q = lw4 + up3 := ⟨_, rfl⟩
  have hq : car5 ⟨s04, s14, s24, s34, s44⟩ = ⟨q0, q1, q2, q3, q4⟩ := by unfold car5; simp only; rw [← hlw0, ← hlw1, ← hlw2, ← hlw3, ← hlw4, ← hup0, ← hup1, ← hup2, ← hup3, ← hup4, ← eq0, ← eq1, ← eq2, ← eq3, ← eq4]
  rw [hq] at hC hcok ⊢
  obtain ⟨r, hr⟩ : ∃ r, r = car5 ⟨q0, q1, q2, q3, q4⟩ := ⟨_, rfl⟩
  rw [← hr] at hC ⊢
  obtain ⟨k0, k1, k2, k3, k4⟩ := hcok
  simp only at k0 k1 k2 k3 k4
  have n0 : up0 < 2 ^ 61 := by omega
  have n1 : up1 < 2 ^ 61 := by omega
  have n2 : up2 < 2 ^ 61 := by omega
  have n3 : up3 < 2 ^ 61 := by omega
  have n4 : up4 < 2 ^ 61 := by omega
  clear hr hq hres hpr hprd es00 m00 es01 m01 es02 m02 es03 m03 es04 m04 es10 m10 es11 m11 es12 m12 es13 m13 es14 m14 es20 m20 es21 m21 es22 m22 es23 m23 es24 m24 es30 m30 es31 m31 es32 m32 es33 m33 es34 m34 es40 m40 es41 m41 es42 m42 es43 m43 es44 m44
  have E0 : (lw0 : Int) + 19 * (up4 : Int) = (q0 : Int) := by rw [eq0]; rfl
  have E1 : (lw1 : Int) + (up0 : Int) = (q1 : Int) := by rw [eq1]; rfl
  have E2 : (lw2 : Int) + (up1 : Int) = (q2 : Int) := by rw [eq2]; rfl
  have E3 : (lw3 : Int) + (up2 : Int) = (q3 : Int) := by rw [eq3]; rfl
  have E4 : (lw4 : Int) + (up3 : Int) = (q4 : Int) := by rw [eq4]; rfl
  have wr1 : IntKind.u64.wrap (19 * (b1 : Int)) = 19 * (b1 : Int) := by rw [IntKind.wrap_u64]; omega
  have wr2 : IntKind.u64.wrap (19 * (b2 : Int)) = 19 * (b2 : Int) := by rw [IntKind.wrap_u64]; omega
  have wr3 : IntKind.u64.wrap (19 * (b3 : Int)) = 19 * (b3 : Int) := by rw [IntKind.wrap_u64]; omega
  have wr4 : IntKind.u64.wrap (19 * (b4 : Int)) = 19 * (b4 : Int) := by rw [IntKind.wrap_u64]; omega
  have wq0 : IntKind.u64.wrap (19 * (up4 : Int)) = 19 * (up4 : Int) := by rw [IntKind.wrap_u64]; omega
  have hbu := hid (show Try.prog.built 64 [(0, .int .u64 (q0 : Int)), (1, .int .u64 (q1 : Int)), (2, .int .u64 (q2 : Int)), (3, .int .u64 (q3 : Int)), (4, .int .u64 (q4 : Int))] = some (cells5 ⟨q0, q1, q2, q3, q4⟩) by kernel_rfl)
  have we0 : IntKind.u64.wrap (q0 : Int) = (q0 : Int) := by rw [IntKind.wrap_u64]; omega
  have we1 : IntKind.u64.wrap (q1 : Int) = (q1 : Int) := by rw [IntKind.wrap_u64]; omega
  have we2 : IntKind.u64.wrap (q2 : Int) = (q2 : Int) := by rw [IntKind.wrap_u64]; omega
  have we3 : IntKind.u64.wrap (q3 : Int) = (q3 : Int) := by rw [IntKind.wrap_u64]; omega
  have we4 : IntKind.u64.wrap (q4 : Int) = (q4 : Int) := by rw [IntKind.wrap_u64]; omega
  clear l0 hlo00 hlw0 hup0 eq0 n0 k0 h0 y0 l1 hlo10 hlw1 hup1 eq1 n1 k1 h1 y1 l2 hlo20 hlw2 hup2 eq2 n2 k2 h2 y2 l3 hlo30 hlw3 hup3 eq3 n3 k3 h3 y3 l4 hlo40 hlw4 hup4 eq4 n4 k4 h4 y4
  unfold fe w128 at *
  obtain ⟨w0, hw0, k2, k3, k4, hbl0⟩ := entry3 w 64 (cells5 ⟨a0, a1, a2, a3, a4⟩) 64 (cells5 ⟨b0, b1, b2, b3, b4⟩) 64 (cells5 zero5)
  have hb2_0 := hid k2
  have hb3_0 := hid k3
  have hb4_0 := hid k4
  clear k2 k3 k4
  go_enter Try.func29, Try.ntmps29
  (repeat ((fail_if_success (with_reducible refine Go.at_region ?_)); go_step))
  refine wp_region_lit ?_
  (refine wpList_box 64 (.tmp 0) rfl rfl (cells5 ⟨a0, a1, a2, a3, a4⟩) rfl ?_; simp only [Act.put, pvA, pv0, pv1]; (try simp only [World.size_alloc]))
  (refine wpList_box 64 (.tmp 1) rfl rfl (cells5 ⟨b0, b1, b2, b3, b4⟩) rfl ?_; simp only [Act.put, pvA, pv0, pv1]; (try simp only [World.size_alloc]))
  (refine wpList_alloc_new rfl 64 rfl (cells5 zero5) z5 ?_; simp only [Act.put, pvA, pv0, pv1]; (try simp only [World.size_alloc]))
  refine wpList_nil ?_
  rw [← hw0]
  clear hw0
  (repeat ((fail_if_success (with_reducible refine Go.at_region ?_)); go_step))
  refine draw_all (by kernel_rfl) (by kernel_rfl) (by kernel_rfl) ?_
  (apply calm_on rfl; (focus (intro W hB; go_simp; exact ⟨rfl, Below.refl _ _⟩)); simp only [Act.put, pvA, pv0, pv1])
  (refine calm_cell rfl _ _ rfl _ _ rfl _ _ hb3_0.out (.int .u64 (b1 : Int)) rfl o64 ?_; simp only [Act.put, pvA, pv0, pv1])
  iterate 2 (apply calm_on rfl; (focus (intro W hB; go_simp; exact ⟨rfl, Below.refl _ _⟩)); simp only [Act.put, pvA, pv0, pv1])
  (refine calm_cell rfl _ _ rfl _ _ rfl _ _ hb3_0.out (.int .u64 (b2 : Int)) rfl o64 ?_; simp only [Act.put, pvA, pv0, pv1])
  iterate 2 (apply calm_on rfl; (focus (intro W hB; go_simp; exact ⟨rfl, Below.refl _ _⟩)); simp only [Act.put, pvA, pv0, pv1])
  (refine calm_cell rfl _ _ rfl _ _ rfl _ _ hb3_0.out (.int .u64 (b3 : Int)) rfl o64 ?_; simp only [Act.put, pvA, pv0, pv1])
  iterate 2 (apply calm_on rfl; (focus (intro W hB; go_simp; exact ⟨rfl, Below.refl _ _⟩)); simp only [Act.put, pvA, pv0, pv1])
  (refine calm_cell rfl _ _ rfl _ _ rfl _ _ hb3_0.out (.int .u64 (b4 : Int)) rfl o64 ?_; simp only [Act.put, pvA, pv0, pv1])
  iterate 5 (apply calm_on rfl; (focus (intro W hB; go_simp; exact ⟨rfl, Below.refl _ _⟩)); simp only [Act.put, pvA, pv0, pv1])
  refine calm_nil ?_
  intro w1 hs1
  have hb2_1 := hid (hb2_0.out.step hs1)
  have hb3_1 := hid (hb3_0.out.step hs1)
  have hb4_1 := hid (hb4_0.out.step hs1)
  have hbl1 := hbl0.trans (hs1.mono hbl0.size)
  clear hs1 hbl0 hb2_0 hb3_0 hb4_0
  (repeat ((fail_if_success (with_reducible refine Go.at_region ?_)); go_step))
  refine draw_new1 22 _ rfl 91 (cells2 0) 9 rfl rfl rfl (by simp) z2 (by kernel_rfl) (by kernel_rfl) (by kernel_rfl) ?_
  simp only [List.take_succ_cons, List.take_zero]
  (refine calm_build rfl 91 _ rfl (cells2 0) (by first | (simp only [List.map_toArray, List.map_cons, List.map_nil]; exact b2_zero) | exact b2_zero) ?_; simp only [Act.put, pvA, pv0, pv1])
  (apply calm_on rfl; (focus (intro W hB; go_simp; exact ⟨rfl, Below.refl _ _⟩)); simp only [Act.put, pvA, pv0, pv1])
  (refine calm_cell rfl _ _ rfl _ _ rfl _ _ hb2_1.out (.int .u64 (a0 : Int)) rfl o64 ?_; simp only [Act.put, pvA, pv0, pv1])
  (apply calm_on rfl; (focus (intro W hB; go_simp; exact ⟨rfl, Below.refl _ _⟩)); simp only [Act.put, pvA, pv0, pv1])
  (refine calm_cell rfl _ _ rfl _ _ rfl _ _ hb3_1.out (.int .u64 (b0 : Int)) rfl o64 ?_; simp only [Act.put, pvA, pv0, pv1])
  (apply calm_on rfl; (focus (intro W hB; go_simp; refine (c00.out W).mono ?_; rintro _ _ ⟨rfl, hb'⟩; exact ⟨rfl, hb'⟩)); simp only [Act.put, pvA, pv0, pv1])
  (apply calm_on rfl; (focus (intro W hB; go_simp; exact ⟨rfl, Below.refl _ _⟩)); simp only [Act.put, pvA, pv0, pv1])
  (refine calm_cell rfl _ _ rfl _ _ rfl _ _ hb2_1.out (.int .u64 (a1 : Int)) rfl o64 ?_; simp only [Act.put, pvA, pv0, pv1])
  (apply calm_on rfl; (focus (intro W hB; go_simp; exact ⟨rfl, Below.refl _ _⟩)); simp only [Act.put, pvA, pv0, pv1])
  (apply calm_on rfl; (focus (intro W hB; go_simp; refine (c01.out W).mono ?_; rintro _ _ ⟨rfl, hb'⟩; exact ⟨rfl, hb'⟩)); simp only [Act.put, pvA, pv0, pv1])
  (apply calm_on rfl; (focus (intro W hB; go_simp; exact ⟨rfl, Below.refl _ _⟩)); simp only [Act.put, pvA, pv0, pv1])
  (refine calm_cell rfl _ _ rfl _ _ rfl _ _ hb2_1.out (.int .u64 (a2 : Int)) rfl o64 ?_; simp only [Act.put, pvA, pv0, pv1])
  (apply calm_on rfl; (focus (intro W hB; go_simp; exact ⟨rfl, Below.refl _ _⟩)); simp only [Act.put, pvA, pv0, pv1])
  (apply calm_on rfl; (focus (intro W hB; go_simp; refine (c02.out W).mono ?_; rintro _ _ ⟨rfl, hb'⟩; exact ⟨rfl, hb'⟩)); simp only [Act.put, pvA, pv0, pv1])
  (apply calm_on rfl; (focus (intro W hB; go_simp; exact ⟨rfl, Below.refl _ _⟩)); simp only [Act.put, pvA, pv0, pv1])
  (refine calm_cell rfl _ _ rfl _ _ rfl _ _ hb2_1.out (.int .u64 (a3 : Int)) rfl o64 ?_; simp only [Act.put, pvA, pv0, pv1])
  (apply calm_on rfl; (focus (intro W hB; go_simp; exact ⟨rfl, Below.refl _ _⟩)); simp only [Act.put, pvA, pv0, pv1])
  (apply calm_on rfl; (focus (intro W hB; go_simp; refine (c03.out W).mono ?_; rintro _ _ ⟨rfl, hb'⟩; exact ⟨rfl, hb'⟩)); simp only [Act.put, pvA, pv0, pv1])
  (apply calm_on rfl; (focus (intro W hB; go_simp; exact ⟨rfl, Below.refl _ _⟩)); simp only [Act.put, pvA, pv0, pv1])
  (refine calm_cell rfl _ _ rfl _ _ rfl _ _ hb2_1.out (.int .u64 (a4 : Int)) rfl o64 ?_; simp only [Act.put, pvA, pv0, pv1])
  (apply calm_on rfl; (focus (intro W hB; go_simp; exact ⟨rfl, Below.refl _ _⟩)); simp only [Act.put, pvA, pv0, pv1])
  (apply calm_on rfl; (focus (intro W hB; go_simp; refine (c04.out W).mono ?_; rintro _ _ ⟨rfl, hb'⟩; exact ⟨rfl, hb'⟩)); simp only [Act.put, pvA, pv0, pv1])
  refine calm_nil ?_
  intro b9 wx2 hle9 hx2 hn9
  simp only [List.drop_succ_cons, List.drop_zero]
  (try simp only [Act.put, pvA, pv0, pv1])
  have fb2 := hb2_1.out.step hx2
  have fb3 := hb3_1.out.step hx2
  have fb4 := hb4_1.out.step hx2
  have hbb := hbl1.trans (hx2.mono hbl1.size)
  have fb9 := hn9
  have ne2_9 : w.heap.size ≠ b9 := by have := hb2_1.out.lt; omega
  have ne3_9 : (w.heap.size + 1) ≠ b9 := by have := hb3_1.out.lt; omega
  have ne4_9 : (w.heap.size + 1 + 1) ≠ b9 := by have := hb4_1.out.lt; omega
  have ge9 : w.heap.size ≤ b9 := Nat.le_trans hbl1.size hle9
  refine wpList_set _ _ _ rfl rfl rfl _ _ rfl rfl _ _ fb9 (i2 s04) rfl (one_cells2 s04) ?_
  replace fb2 := fb2.other ne2_9 (cells2 s04)
  replace fb3 := fb3.other ne3_9 (cells2 s04)
  replace fb4 := fb4.other ne4_9 (cells2 s04)
  replace fb9 := fb9.set (cells2 s04)
  replace hbb := below_set hbb b9 (ge9) (cells2 s04)
  refine wpList_nil ?_
  obtain ⟨w2, hw⟩ : ∃ z, z = (wx2.setRow b9 (cells2 s04)) := ⟨_, rfl⟩
  rw [← hw] at hbb fb2 fb3 fb4 fb9 ⊢
  have hb2_2 := hid fb2
  have hb3_2 := hid fb3
  have hb4_2 := hid fb4
  have hb9_2 := hid fb9
  have hbl2 := hbb
  clear hw hbb fb2 fb3 fb4 fb9 hx2 hbl1 hb2_1 hb3_1 hb4_1 hle9 hn9
  (repeat ((fail_if_success (with_reducible refine Go.at_region ?_)); go_step))
  refine draw_new1 23 _ rfl 91 (cells2 0) 10 rfl rfl rfl (by simp) z2 (by kernel_rfl) (by kernel_rfl) (by kernel_rfl) ?_
  simp only [List.take_succ_cons, List.take_zero]
  (refine calm_build rfl 91 _ rfl (cells2 0) (by first | (simp only [List.map_toArray, List.map_cons, List.map_nil]; exact b2_zero) | exact b2_zero) ?_; simp only [Act.put, pvA, pv0, pv1])
  (apply calm_on rfl; (focus (intro W hB; go_simp; exact ⟨rfl, Below.refl _ _⟩)); simp only [Act.put, pvA, pv0, pv1])
  (refine calm_cell rfl _ _ rfl _ _ rfl _ _ hb2_2.out (.int .u64 (a0 : Int)) rfl o64 ?_; simp only [Act.put, pvA, pv0, pv1])
  (apply calm_on rfl; (focus (intro W hB; go_simp; exact ⟨rfl, Below.refl _ _⟩)); simp only [Act.put, pvA, pv0, pv1])
  (refine calm_cell rfl _ _ rfl _ _ rfl _ _ hb3_2.out (.int .u64 (b1 : Int)) rfl o64 ?_; simp only [Act.put, pvA, pv0, pv1])
  (apply calm_on rfl; (focus (intro W hB; go_simp; refine (c10.out W).mono ?_; rintro _ _ ⟨rfl, hb'⟩; exact ⟨rfl, hb'⟩)); simp only [Act.put, pvA, pv0, pv1])
  (apply calm_on rfl; (focus (intro W hB; go_simp; exact ⟨rfl, Below.refl _ _⟩)); simp only [Act.put, pvA, pv0, pv1])
  (refine calm_cell rfl _ _ rfl _ _ rfl _ _ hb2_2.out (.int .u64 (a1 : Int)) rfl o64 ?_; simp only [Act.put, pvA, pv0, pv1])
  (apply calm_on rfl; (focus (intro W hB; go_simp; exact ⟨rfl, Below.refl _ _⟩)); simp only [Act.put, pvA, pv0, pv1])
  (refine calm_cell rfl _ _ rfl _ _ rfl _ _ hb3_2.out (.int .u64 (b0 : Int)) rfl o64 ?_; simp only [Act.put, pvA, pv0, pv1])
  (apply calm_on rfl; (focus (intro W hB; go_simp; refine (c11.out W).mono ?_; rintro _ _ ⟨rfl, hb'⟩; exact ⟨rfl, hb'⟩)); simp only [Act.put, pvA, pv0, pv1])
  (apply calm_on rfl; (focus (intro W hB; go_simp; exact ⟨rfl, Below.refl _ _⟩)); simp only [Act.put, pvA, pv0, pv1])
  (refine calm_cell rfl _ _ rfl _ _ rfl _ _ hb2_2.out (.int .u64 (a2 : Int)) rfl o64 ?_; simp only [Act.put, pvA, pv0, pv1])
  (apply calm_on rfl; (focus (intro W hB; go_simp; exact ⟨rfl, Below.refl _ _⟩)); simp only [Act.put, pvA, pv0, pv1])
  (apply calm_on rfl; (focus (intro W hB; go_simp; refine (c12.out W).mono ?_; rintro _ _ ⟨rfl, hb'⟩; exact ⟨rfl, hb'⟩)); simp only [Act.put, pvA, pv0, pv1])
  (apply calm_on rfl; (focus (intro W hB; go_simp; exact ⟨rfl, Below.refl _ _⟩)); simp only [Act.put, pvA, pv0, pv1])
  (refine calm_cell rfl _ _ rfl _ _ rfl _ _ hb2_2.out (.int .u64 (a3 : Int)) rfl o64 ?_; simp only [Act.put, pvA, pv0, pv1])
  (apply calm_on rfl; (focus (intro W hB; go_simp; exact ⟨rfl, Below.refl _ _⟩)); simp only [Act.put, pvA, pv0, pv1])
  (apply calm_on rfl; (focus (intro W hB; go_simp; refine (c13.out W).mono ?_; rintro _ _ ⟨rfl, hb'⟩; exact ⟨rfl, hb'⟩)); simp only [Act.put, pvA, pv0, pv1])
  (apply calm_on rfl; (focus (intro W hB; go_simp; exact ⟨rfl, Below.refl _ _⟩)); simp only [Act.put, pvA, pv0, pv1])
  (refine calm_cell rfl _ _ rfl _ _ rfl _ _ hb2_2.out (.int .u64 (a4 : Int)) rfl o64 ?_; simp only [Act.put, pvA, pv0, pv1])
  (apply calm_on rfl; (focus (intro W hB; go_simp; exact ⟨rfl, Below.refl _ _⟩)); simp only [Act.put, pvA, pv0, pv1])
  (apply calm_on rfl; (focus (intro W hB; go_simp; refine (c14.out W).mono ?_; rintro _ _ ⟨rfl, hb'⟩; exact ⟨rfl, hb'⟩)); simp only [Act.put, pvA, pv0, pv1])
  refine calm_nil ?_
  intro b10 wx3 hle10 hx3 hn10
  simp only [List.drop_succ_cons, List.drop_zero]
  (try simp only [Act.put, pvA, pv0, pv1])
  have fb2 := hb2_2.out.step hx3
  have fb3 := hb3_2.out.step hx3
  have fb4 := hb4_2.out.step hx3
  have fb9 := hb9_2.out.step hx3
  have hbb := hbl2.trans (hx3.mono hbl2.size)
  have fb10 := hn10
  have ne2_10 : w.heap.size ≠ b10 := by have := hb2_2.out.lt; omega
  have ne3_10 : (w.heap.size + 1) ≠ b10 := by have := hb3_2.out.lt; omega
  have ne4_10 : (w.heap.size + 1 + 1) ≠ b10 := by have := hb4_2.out.lt; omega
  have ne9_10 : b9 ≠ b10 := by have := hb9_2.out.lt; omega
  have ge10 : w.heap.size ≤ b10 := Nat.le_trans hbl2.size hle10
  refine wpList_set _ _ _ rfl rfl rfl _ _ rfl rfl _ _ fb10 (i2 s14) rfl (one_cells2 s14) ?_
  replace fb2 := fb2.other ne2_10 (cells2 s14)
  replace fb3 := fb3.other ne3_10 (cells2 s14)
  replace fb4 := fb4.other ne4_10 (cells2 s14)
  replace fb9 := fb9.other ne9_10 (cells2 s14)
  replace fb10 := fb10.set (cells2 s14)
  replace hbb := below_set hbb b10 (ge10) (cells2 s14)
  refine wpList_nil ?_
  obtain ⟨w3, hw⟩ : ∃ z, z = (wx3.setRow b10 (cells2 s14)) := ⟨_, rfl⟩
  rw [← hw] at hbb fb2 fb3 fb4 fb9 fb10 ⊢
  have hb2_3 := hid fb2
  have hb3_3 := hid fb3
  have hb4_3 := hid fb4
  have hb9_3 := hid fb9
  have hb10_3 := hid fb10
  have hbl3 := hbb
  clear hw hbb fb2 fb3 fb4 fb9 fb10 hx3 hbl2 hb2_2 hb3_2 hb4_2 hb9_2 hle10 hn10
  (repeat ((fail_if_success (with_reducible refine Go.at_region ?_)); go_step))
  refine draw_new1 24 _ rfl 91 (cells2 0) 11 rfl rfl rfl (by simp) z2 (by kernel_rfl) (by kernel_rfl) (by kernel_rfl) ?_
  simp only [List.take_succ_cons, List.take_zero]
  (refine calm_build rfl 91 _ rfl (cells2 0) (by first | (simp only [List.map_toArray, List.map_cons, List.map_nil]; exact b2_zero) | exact b2_zero) ?_; simp only [Act.put, pvA, pv0, pv1])
  (apply calm_on rfl; (focus (intro W hB; go_simp; exact ⟨rfl, Below.refl _ _⟩)); simp only [Act.put, pvA, pv0, pv1])
  (refine calm_cell rfl _ _ rfl _ _ rfl _ _ hb2_3.out (.int .u64 (a0 : Int)) rfl o64 ?_; simp only [Act.put, pvA, pv0, pv1])
  (apply calm_on rfl; (focus (intro W hB; go_simp; exact ⟨rfl, Below.refl _ _⟩)); simp only [Act.put, pvA, pv0, pv1])
  (refine calm_cell rfl _ _ rfl _ _ rfl _ _ hb3_3.out (.int .u64 (b2 : Int)) rfl o64 ?_; simp only [Act.put, pvA, pv0, pv1])
  (apply calm_on rfl; (focus (intro W hB; go_simp; refine (c20.out W).mono ?_; rintro _ _ ⟨rfl, hb'⟩; exact ⟨rfl, hb'⟩)); simp only [Act.put, pvA, pv0, pv1])
  (apply calm_on rfl; (focus (intro W hB; go_simp; exact ⟨rfl, Below.refl _ _⟩)); simp only [Act.put, pvA, pv0, pv1])
  (refine calm_cell rfl _ _ rfl _ _ rfl _ _ hb2_3.out (.int .u64 (a1 : Int)) rfl o64 ?_; simp only [Act.put, pvA, pv0, pv1])
  (apply calm_on rfl; (focus (intro W hB; go_simp; exact ⟨rfl, Below.refl _ _⟩)); simp only [Act.put, pvA, pv0, pv1])
  (refine calm_cell rfl _ _ rfl _ _ rfl _ _ hb3_3.out (.int .u64 (b1 : Int)) rfl o64 ?_; simp only [Act.put, pvA, pv0, pv1])
  (apply calm_on rfl; (focus (intro W hB; go_simp; refine (c21.out W).mono ?_; rintro _ _ ⟨rfl, hb'⟩; exact ⟨rfl, hb'⟩)); simp only [Act.put, pvA, pv0, pv1])
  (apply calm_on rfl; (focus (intro W hB; go_simp; exact ⟨rfl, Below.refl _ _⟩)); simp only [Act.put, pvA, pv0, pv1])
  (refine calm_cell rfl _ _ rfl _ _ rfl _ _ hb2_3.out (.int .u64 (a2 : Int)) rfl o64 ?_; simp only [Act.put, pvA, pv0, pv1])
  (apply calm_on rfl; (focus (intro W hB; go_simp; exact ⟨rfl, Below.refl _ _⟩)); simp only [Act.put, pvA, pv0, pv1])
  (refine calm_cell rfl _ _ rfl _ _ rfl _ _ hb3_3.out (.int .u64 (b0 : Int)) rfl o64 ?_; simp only [Act.put, pvA, pv0, pv1])
  (apply calm_on rfl; (focus (intro W hB; go_simp; refine (c22.out W).mono ?_; rintro _ _ ⟨rfl, hb'⟩; exact ⟨rfl, hb'⟩)); simp only [Act.put, pvA, pv0, pv1])
  (apply calm_on rfl; (focus (intro W hB; go_simp; exact ⟨rfl, Below.refl _ _⟩)); simp only [Act.put, pvA, pv0, pv1])
  (refine calm_cell rfl _ _ rfl _ _ rfl _ _ hb2_3.out (.int .u64 (a3 : Int)) rfl o64 ?_; simp only [Act.put, pvA, pv0, pv1])
  (apply calm_on rfl; (focus (intro W hB; go_simp; exact ⟨rfl, Below.refl _ _⟩)); simp only [Act.put, pvA, pv0, pv1])
  (apply calm_on rfl; (focus (intro W hB; go_simp; refine (c23.out W).mono ?_; rintro _ _ ⟨rfl, hb'⟩; exact ⟨rfl, hb'⟩)); simp only [Act.put, pvA, pv0, pv1])
  (apply calm_on rfl; (focus (intro W hB; go_simp; exact ⟨rfl, Below.refl _ _⟩)); simp only [Act.put, pvA, pv0, pv1])
  (refine calm_cell rfl _ _ rfl _ _ rfl _ _ hb2_3.out (.int .u64 (a4 : Int)) rfl o64 ?_; simp only [Act.put, pvA, pv0, pv1])
  (apply calm_on rfl; (focus (intro W hB; go_simp; exact ⟨rfl, Below.refl _ _⟩)); simp only [Act.put, pvA, pv0, pv1])
  (apply calm_on rfl; (focus (intro W hB; go_simp; refine (c24.out W).mono ?_; rintro _ _ ⟨rfl, hb'⟩; exact ⟨rfl, hb'⟩)); simp only [Act.put, pvA, pv0, pv1])
  refine calm_nil ?_
  intro b11 wx4 hle11 hx4 hn11
  simp only [List.drop_succ_cons, List.drop_zero]
  (try simp only [Act.put, pvA, pv0, pv1])
  have fb2 := hb2_3.out.step hx4
  have fb3 := hb3_3.out.step hx4
  have fb4 := hb4_3.out.step hx4
  have fb9 := hb9_3.out.step hx4
  have fb10 := hb10_3.out.step hx4
  have hbb := hbl3.trans (hx4.mono hbl3.size)
  have fb11 := hn11
  have ne2_11 : w.heap.size ≠ b11 := by have := hb2_3.out.lt; omega
  have ne3_11 : (w.heap.size + 1) ≠ b11 := by have := hb3_3.out.lt; omega
  have ne4_11 : (w.heap.size + 1 + 1) ≠ b11 := by have := hb4_3.out.lt; omega
  have ne9_11 : b9 ≠ b11 := by have := hb9_3.out.lt; omega
  have ne10_11 : b10 ≠ b11 := by have := hb10_3.out.lt; omega
  have ge11 : w.heap.size ≤ b11 := Nat.le_trans hbl3.size hle11
  refine wpList_set _ _ _ rfl rfl rfl _ _ rfl rfl _ _ fb11 (i2 s24) rfl (one_cells2 s24) ?_
  replace fb2 := fb2.other ne2_11 (cells2 s24)
  replace fb3 := fb3.other ne3_11 (cells2 s24)
  replace fb4 := fb4.other ne4_11 (cells2 s24)
  replace fb9 := fb9.other ne9_11 (cells2 s24)
  replace fb10 := fb10.other ne10_11 (cells2 s24)
  replace fb11 := fb11.set (cells2 s24)
  replace hbb := below_set hbb b11 (ge11) (cells2 s24)
  refine wpList_nil ?_
  obtain ⟨w4, hw⟩ : ∃ z, z = (wx4.setRow b11 (cells2 s24)) := ⟨_, rfl⟩
  rw [← hw] at hbb fb2 fb3 fb4 fb9 fb10 fb11 ⊢
  have hb2_4 := hid fb2
  have hb3_4 := hid fb3
  have hb4_4 := hid fb4
  have hb9_4 := hid fb9
  have hb10_4 := hid fb10
  have hb11_4 := hid fb11
  have hbl4 := hbb
  clear hw hbb fb2 fb3 fb4 fb9 fb10 fb11 hx4 hbl3 hb2_3 hb3_3 hb4_3 hb9_3 hb10_3 hle11 hn11
  (repeat ((fail_if_success (with_reducible refine Go.at_region ?_)); go_step))
  refine draw_new1 25 _ rfl 91 (cells2 0) 12 rfl rfl rfl (by simp) z2 (by kernel_rfl) (by kernel_rfl) (by kernel_rfl) ?_
  simp only [List.take_succ_cons, List.take_zero]
  (refine calm_build rfl 91 _ rfl (cells2 0) (by first | (simp only [List.map_toArray, List.map_cons, List.map_nil]; exact b2_zero) | exact b2_zero) ?_; simp only [Act.put, pvA, pv0, pv1])
  (apply calm_on rfl; (focus (intro W hB; go_simp; exact ⟨rfl, Below.refl _ _⟩)); simp only [Act.put, pvA, pv0, pv1])
  (refine calm_cell rfl _ _ rfl _ _ rfl _ _ hb2_4.out (.int .u64 (a0 : Int)) rfl o64 ?_; simp only [Act.put, pvA, pv0, pv1])
  (apply calm_on rfl; (focus (intro W hB; go_simp; exact ⟨rfl, Below.refl _ _⟩)); simp only [Act.put, pvA, pv0, pv1])
  (refine calm_cell rfl _ _ rfl _ _ rfl _ _ hb3_4.out (.int .u64 (b3 : Int)) rfl o64 ?_; simp only [Act.put, pvA, pv0, pv1])
  (apply calm_on rfl; (focus (intro W hB; go_simp; refine (c30.out W).mono ?_; rintro _ _ ⟨rfl, hb'⟩; exact ⟨rfl, hb'⟩)); simp only [Act.put, pvA, pv0, pv1])
  (apply calm_on rfl; (focus (intro W hB; go_simp; exact ⟨rfl, Below.refl _ _⟩)); simp only [Act.put, pvA, pv0, pv1])
  (refine calm_cell rfl _ _ rfl _ _ rfl _ _ hb2_4.out (.int .u64 (a1 : Int)) rfl o64 ?_; simp only [Act.put, pvA, pv0, pv1])
  (apply calm_on rfl; (focus (intro W hB; go_simp; exact ⟨rfl, Below.refl _ _⟩)); simp only [Act.put, pvA, pv0, pv1])
  (refine calm_cell rfl _ _ rfl _ _ rfl _ _ hb3_4.out (.int .u64 (b2 : Int)) rfl o64 ?_; simp only [Act.put, pvA, pv0, pv1])
  (apply calm_on rfl; (focus (intro W hB; go_simp; refine (c31.out W).mono ?_; rintro _ _ ⟨rfl, hb'⟩; exact ⟨rfl, hb'⟩)); simp only [Act.put, pvA, pv0, pv1])
  (apply calm_on rfl; (focus (intro W hB; go_simp; exact ⟨rfl, Below.refl _ _⟩)); simp only [Act.put, pvA, pv0, pv1])
  (refine calm_cell rfl _ _ rfl _ _ rfl _ _ hb2_4.out (.int .u64 (a2 : Int)) rfl o64 ?_; simp only [Act.put, pvA, pv0, pv1])
  (apply calm_on rfl; (focus (intro W hB; go_simp; exact ⟨rfl, Below.refl _ _⟩)); simp only [Act.put, pvA, pv0, pv1])
  (refine calm_cell rfl _ _ rfl _ _ rfl _ _ hb3_4.out (.int .u64 (b1 : Int)) rfl o64 ?_; simp only [Act.put, pvA, pv0, pv1])
  (apply calm_on rfl; (focus (intro W hB; go_simp; refine (c32.out W).mono ?_; rintro _ _ ⟨rfl, hb'⟩; exact ⟨rfl, hb'⟩)); simp only [Act.put, pvA, pv0, pv1])
  (apply calm_on rfl; (focus (intro W hB; go_simp; exact ⟨rfl, Below.refl _ _⟩)); simp only [Act.put, pvA, pv0, pv1])
  (refine calm_cell rfl _ _ rfl _ _ rfl _ _ hb2_4.out (.int .u64 (a3 : Int)) rfl o64 ?_; simp only [Act.put, pvA, pv0, pv1])
  (apply calm_on rfl; (focus (intro W hB; go_simp; exact ⟨rfl, Below.refl _ _⟩)); simp only [Act.put, pvA, pv0, pv1])
  (refine calm_cell rfl _ _ rfl _ _ rfl _ _ hb3_4.out (.int .u64 (b0 : Int)) rfl o64 ?_; simp only [Act.put, pvA, pv0, pv1])
  (apply calm_on rfl; (focus (intro W hB; go_simp; refine (c33.out W).mono ?_; rintro _ _ ⟨rfl, hb'⟩; exact ⟨rfl, hb'⟩)); simp only [Act.put, pvA, pv0, pv1])
  (apply calm_on rfl; (focus (intro W hB; go_simp; exact ⟨rfl, Below.refl _ _⟩)); simp only [Act.put, pvA, pv0, pv1])
  (refine calm_cell rfl _ _ rfl _ _ rfl _ _ hb2_4.out (.int .u64 (a4 : Int)) rfl o64 ?_; simp only [Act.put, pvA, pv0, pv1])
  (apply calm_on rfl; (focus (intro W hB; go_simp; exact ⟨rfl, Below.refl _ _⟩)); simp only [Act.put, pvA, pv0, pv1])
  (apply calm_on rfl; (focus (intro W hB; go_simp; refine (c34.out W).mono ?_; rintro _ _ ⟨rfl, hb'⟩; exact ⟨rfl, hb'⟩)); simp only [Act.put, pvA, pv0, pv1])
  refine calm_nil ?_
  intro b12 wx5 hle12 hx5 hn12
  simp only [List.drop_succ_cons, List.drop_zero]
  (try simp only [Act.put, pvA, pv0, pv1])
  have fb2 := hb2_4.out.step hx5
  have fb3 := hb3_4.out.step hx5
  have fb4 := hb4_4.out.step hx5
  have fb9 := hb9_4.out.step hx5
  have fb10 := hb10_4.out.step hx5
  have fb11 := hb11_4.out.step hx5
  have hbb := hbl4.trans (hx5.mono hbl4.size)
  have fb12 := hn12
  have ne2_12 : w.heap.size ≠ b12 := by have := hb2_4.out.lt; omega
  have ne3_12 : (w.heap.size + 1) ≠ b12 := by have := hb3_4.out.lt; omega
  have ne4_12 : (w.heap.size + 1 + 1) ≠ b12 := by have := hb4_4.out.lt; omega
  have ne9_12 : b9 ≠ b12 := by have := hb9_4.out.lt; omega
  have ne10_12 : b10 ≠ b12 := by have := hb10_4.out.lt; omega
  have ne11_12 : b11 ≠ b12 := by have := hb11_4.out.lt; omega
  have ge12 : w.heap.size ≤ b12 := Nat.le_trans hbl4.size hle12
  refine wpList_set _ _ _ rfl rfl rfl _ _ rfl rfl _ _ fb12 (i2 s34) rfl (one_cells2 s34) ?_
  replace fb2 := fb2.other ne2_12 (cells2 s34)
  replace fb3 := fb3.other ne3_12 (cells2 s34)
  replace fb4 := fb4.other ne4_12 (cells2 s34)
  replace fb9 := fb9.other ne9_12 (cells2 s34)
  replace fb10 := fb10.other ne10_12 (cells2 s34)
  replace fb11 := fb11.other ne11_12 (cells2 s34)
  replace fb12 := fb12.set (cells2 s34)
  replace hbb := below_set hbb b12 (ge12) (cells2 s34)
  refine wpList_nil ?_
  obtain ⟨w5, hw⟩ : ∃ z, z = (wx5.setRow b12 (cells2 s34)) := ⟨_, rfl⟩
  rw [← hw] at hbb fb2 fb3 fb4 fb9 fb10 fb11 fb12 ⊢
  have hb2_5 := hid fb2
  have hb3_5 := hid fb3
  have hb4_5 := hid fb4
  have hb9_5 := hid fb9
  have hb10_5 := hid fb10
  have hb11_5 := hid fb11
  have hb12_5 := hid fb12
  have hbl5 := hbb
  clear hw hbb fb2 fb3 fb4 fb9 fb10 fb11 fb12 hx5 hbl4 hb2_4 hb3_4 hb4_4 hb9_4 hb10_4 hb11_4 hle12 hn12
  (repeat ((fail_if_success (with_reducible refine Go.at_region ?_)); go_step))
  refine draw_new1 26 _ rfl 91 (cells2 0) 13 rfl rfl rfl (by simp) z2 (by kernel_rfl) (by kernel_rfl) (by kernel_rfl) ?_
  simp only [List.take_succ_cons, List.take_zero]
  (refine calm_build rfl 91 _ rfl (cells2 0) (by first | (simp only [List.map_toArray, List.map_cons, List.map_nil]; exact b2_zero) | exact b2_zero) ?_; simp only [Act.put, pvA, pv0, pv1])
  (apply calm_on rfl; (focus (intro W hB; go_simp; exact ⟨rfl, Below.refl _ _⟩)); simp only [Act.put, pvA, pv0, pv1])
  (refine calm_cell rfl _ _ rfl _ _ rfl _ _ hb2_5.out (.int .u64 (a0 : Int)) rfl o64 ?_; simp only [Act.put, pvA, pv0, pv1])
  (apply calm_on rfl; (focus (intro W hB; go_simp; exact ⟨rfl, Below.refl _ _⟩)); simp only [Act.put, pvA, pv0, pv1])
  (refine calm_cell rfl _ _ rfl _ _ rfl _ _ hb3_5.out (.int .u64 (b4 : Int)) rfl o64 ?_; simp only [Act.put, pvA, pv0, pv1])
  (apply calm_on rfl; (focus (intro W hB; go_simp; refine (c40.out W).mono ?_; rintro _ _ ⟨rfl, hb'⟩; exact ⟨rfl, hb'⟩)); simp only [Act.put, pvA, pv0, pv1])
  (apply calm_on rfl; (focus (intro W hB; go_simp; exact ⟨rfl, Below.refl _ _⟩)); simp only [Act.put, pvA, pv0, pv1])
  (refine calm_cell rfl _ _ rfl _ _ rfl _ _ hb2_5.out (.int .u64 (a1 : Int)) rfl o64 ?_; simp only [Act.put, pvA, pv0, pv1])
  (apply calm_on rfl; (focus (intro W hB; go_simp; exact ⟨rfl, Below.refl _ _⟩)); simp only [Act.put, pvA, pv0, pv1])
  (refine calm_cell rfl _ _ rfl _ _ rfl _ _ hb3_5.out (.int .u64 (b3 : Int)) rfl o64 ?_; simp only [Act.put, pvA, pv0, pv1])
  (apply calm_on rfl; (focus (intro W hB; go_simp; refine (c41.out W).mono ?_; rintro _ _ ⟨rfl, hb'⟩; exact ⟨rfl, hb'⟩)); simp only [Act.put, pvA, pv0, pv1])
  (apply calm_on rfl; (focus (intro W hB; go_simp; exact ⟨rfl, Below.refl _ _⟩)); simp only [Act.put, pvA, pv0, pv1])
  (refine calm_cell rfl _ _ rfl _ _ rfl _ _ hb2_5.out (.int .u64 (a2 : Int)) rfl o64 ?_; simp only [Act.put, pvA, pv0, pv1])
  (apply calm_on rfl; (focus (intro W hB; go_simp; exact ⟨rfl, Below.refl _ _⟩)); simp only [Act.put, pvA, pv0, pv1])
  (refine calm_cell rfl _ _ rfl _ _ rfl _ _ hb3_5.out (.int .u64 (b2 : Int)) rfl o64 ?_; simp only [Act.put, pvA, pv0, pv1])
  (apply calm_on rfl; (focus (intro W hB; go_simp; refine (c42.out W).mono ?_; rintro _ _ ⟨rfl, hb'⟩; exact ⟨rfl, hb'⟩)); simp only [Act.put, pvA, pv0, pv1])
  (apply calm_on rfl; (focus (intro W hB; go_simp; exact ⟨rfl, Below.refl _ _⟩)); simp only [Act.put, pvA, pv0, pv1])
  (refine calm_cell rfl _ _ rfl _ _ rfl _ _ hb2_5.out (.int .u64 (a3 : Int)) rfl o64 ?_; simp only [Act.put, pvA, pv0, pv1])
  (apply calm_on rfl; (focus (intro W hB; go_simp; exact ⟨rfl, Below.refl _ _⟩)); simp only [Act.put, pvA, pv0, pv1])
  (refine calm_cell rfl _ _ rfl _ _ rfl _ _ hb3_5.out (.int .u64 (b1 : Int)) rfl o64 ?_; simp only [Act.put, pvA, pv0, pv1])
  (apply calm_on rfl; (focus (intro W hB; go_simp; refine (c43.out W).mono ?_; rintro _ _ ⟨rfl, hb'⟩; exact ⟨rfl, hb'⟩)); simp only [Act.put, pvA, pv0, pv1])
  (apply calm_on rfl; (focus (intro W hB; go_simp; exact ⟨rfl, Below.refl _ _⟩)); simp only [Act.put, pvA, pv0, pv1])
  (refine calm_cell rfl _ _ rfl _ _ rfl _ _ hb2_5.out (.int .u64 (a4 : Int)) rfl o64 ?_; simp only [Act.put, pvA, pv0, pv1])
  (apply calm_on rfl; (focus (intro W hB; go_simp; exact ⟨rfl, Below.refl _ _⟩)); simp only [Act.put, pvA, pv0, pv1])
  (refine calm_cell rfl _ _ rfl _ _ rfl _ _ hb3_5.out (.int .u64 (b0 : Int)) rfl o64 ?_; simp only [Act.put, pvA, pv0, pv1])
  (apply calm_on rfl; (focus (intro W hB; go_simp; refine (c44.out W).mono ?_; rintro _ _ ⟨rfl, hb'⟩; exact ⟨rfl, hb'⟩)); simp only [Act.put, pvA, pv0, pv1])
  refine calm_nil ?_
  intro b13 wx6 hle13 hx6 hn13
  simp only [List.drop_succ_cons, List.drop_zero]
  (try simp only [Act.put, pvA, pv0, pv1])
  have fb2 := hb2_5.out.step hx6
  have fb3 := hb3_5.out.step hx6
  have fb4 := hb4_5.out.step hx6
  have fb9 := hb9_5.out.step hx6
  have fb10 := hb10_5.out.step hx6
  have fb11 := hb11_5.out.step hx6
  have fb12 := hb12_5.out.step hx6
  have hbb := hbl5.trans (hx6.mono hbl5.size)
  have fb13 := hn13
  have ne2_13 : w.heap.size ≠ b13 := by have := hb2_5.out.lt; omega
  have ne3_13 : (w.heap.size + 1) ≠ b13 := by have := hb3_5.out.lt; omega
  have ne4_13 : (w.heap.size + 1 + 1) ≠ b13 := by have := hb4_5.out.lt; omega
  have ne9_13 : b9 ≠ b13 := by have := hb9_5.out.lt; omega
  have ne10_13 : b10 ≠ b13 := by have := hb10_5.out.lt; omega
  have ne11_13 : b11 ≠ b13 := by have := hb11_5.out.lt; omega
  have ne12_13 : b12 ≠ b13 := by have := hb12_5.out.lt; omega
  have ge13 : w.heap.size ≤ b13 := Nat.le_trans hbl5.size hle13
  refine wpList_set _ _ _ rfl rfl rfl _ _ rfl rfl _ _ fb13 (i2 s44) rfl (one_cells2 s44) ?_
  replace fb2 := fb2.other ne2_13 (cells2 s44)
  replace fb3 := fb3.other ne3_13 (cells2 s44)
  replace fb4 := fb4.other ne4_13 (cells2 s44)
  replace fb9 := fb9.other ne9_13 (cells2 s44)
  replace fb10 := fb10.other ne10_13 (cells2 s44)
  replace fb11 := fb11.other ne11_13 (cells2 s44)
  replace fb12 := fb12.other ne12_13 (cells2 s44)
  replace fb13 := fb13.set (cells2 s44)
  replace hbb := below_set hbb b13 (ge13) (cells2 s44)
  refine wpList_nil ?_
  obtain ⟨w6, hw⟩ : ∃ z, z = (wx6.setRow b13 (cells2 s44)) := ⟨_, rfl⟩
  rw [← hw] at hbb fb2 fb3 fb4 fb9 fb10 fb11 fb12 fb13 ⊢
  have hb2_6 := hid fb2
  have hb3_6 := hid fb3
  have hb4_6 := hid fb4
  have hb9_6 := hid fb9
  have hb10_6 := hid fb10
  have hb11_6 := hid fb11
  have hb12_6 := hid fb12
  have hb13_6 := hid fb13
  have hbl6 := hbb
  clear hw hbb fb2 fb3 fb4 fb9 fb10 fb11 fb12 fb13 hx6 hbl5 hb2_5 hb3_5 hb4_5 hb9_5 hb10_5 hb11_5 hb12_5 hle13 hn13
  (repeat ((fail_if_success (with_reducible refine Go.at_region ?_)); go_step))
  refine draw_tail 33 (by kernel_rfl) (by kernel_rfl) (by kernel_rfl) ?_
  simp only [List.take_succ_cons, List.take_zero]
  (apply calm_on rfl; (focus (intro W hB; go_simp; exact ⟨rfl, Below.refl _ _⟩)); simp only [Act.put, pvA, pv0, pv1])
  (refine calm_cell rfl _ _ rfl _ _ rfl _ _ hb9_6.out (.int .u64 (lo0 : Int)) (by rw [hlo0.out]; rfl) o64 ?_; simp only [Act.put, pvA, pv0, pv1])
  (apply calm_on rfl; (focus (intro W hB; go_simp; exact ⟨rfl, Below.refl _ _⟩)); simp only [Act.put, pvA, pv0, pv1])
  (refine calm_whole rfl _ _ rfl _ rfl _ _ hb13_6.out g2 (i2 s44) ?_; simp only [Act.put, pvA, pv0, pv1])
  (apply calm_on rfl; (focus (intro W hB; go_simp; refine (v4.out W).mono ?_; rintro _ _ ⟨rfl, hb'⟩; exact ⟨rfl, hb'⟩)); simp only [Act.put, pvA, pv0, pv1])
  iterate 3 (apply calm_on rfl; (focus (intro W hB; go_simp; exact ⟨rfl, Below.refl _ _⟩)); simp only [Act.put, pvA, pv0, pv1])
  (refine calm_cell rfl _ _ rfl _ _ rfl _ _ hb10_6.out (.int .u64 (lo1 : Int)) (by rw [hlo1.out]; rfl) o64 ?_; simp only [Act.put, pvA, pv0, pv1])
  (apply calm_on rfl; (focus (intro W hB; go_simp; exact ⟨rfl, Below.refl _ _⟩)); simp only [Act.put, pvA, pv0, pv1])
  (refine calm_whole rfl _ _ rfl _ rfl _ _ hb9_6.out g2 (i2 s04) ?_; simp only [Act.put, pvA, pv0, pv1])
  (apply calm_on rfl; (focus (intro W hB; go_simp; refine (v0.out W).mono ?_; rintro _ _ ⟨rfl, hb'⟩; exact ⟨rfl, hb'⟩)); simp only [Act.put, pvA, pv0, pv1])
  iterate 2 (apply calm_on rfl; (focus (intro W hB; go_simp; exact ⟨rfl, Below.refl _ _⟩)); simp only [Act.put, pvA, pv0, pv1])
  (refine calm_cell rfl _ _ rfl _ _ rfl _ _ hb11_6.out (.int .u64 (lo2 : Int)) (by rw [hlo2.out]; rfl) o64 ?_; simp only [Act.put, pvA, pv0, pv1])
  (apply calm_on rfl; (focus (intro W hB; go_simp; exact ⟨rfl, Below.refl _ _⟩)); simp only [Act.put, pvA, pv0, pv1])
  (refine calm_whole rfl _ _ rfl _ rfl _ _ hb10_6.out g2 (i2 s14) ?_; simp only [Act.put, pvA, pv0, pv1])
  (apply calm_on rfl; (focus (intro W hB; go_simp; refine (v1.out W).mono ?_; rintro _ _ ⟨rfl, hb'⟩; exact ⟨rfl, hb'⟩)); simp only [Act.put, pvA, pv0, pv1])
  iterate 2 (apply calm_on rfl; (focus (intro W hB; go_simp; exact ⟨rfl, Below.refl _ _⟩)); simp only [Act.put, pvA, pv0, pv1])
  (refine calm_cell rfl _ _ rfl _ _ rfl _ _ hb12_6.out (.int .u64 (lo3 : Int)) (by rw [hlo3.out]; rfl) o64 ?_; simp only [Act.put, pvA, pv0, pv1])
  (apply calm_on rfl; (focus (intro W hB; go_simp; exact ⟨rfl, Below.refl _ _⟩)); simp only [Act.put, pvA, pv0, pv1])
  (refine calm_whole rfl _ _ rfl _ rfl _ _ hb11_6.out g2 (i2 s24) ?_; simp only [Act.put, pvA, pv0, pv1])
  (apply calm_on rfl; (focus (intro W hB; go_simp; refine (v2.out W).mono ?_; rintro _ _ ⟨rfl, hb'⟩; exact ⟨rfl, hb'⟩)); simp only [Act.put, pvA, pv0, pv1])
  iterate 2 (apply calm_on rfl; (focus (intro W hB; go_simp; exact ⟨rfl, Below.refl _ _⟩)); simp only [Act.put, pvA, pv0, pv1])
  (refine calm_cell rfl _ _ rfl _ _ rfl _ _ hb13_6.out (.int .u64 (lo4 : Int)) (by rw [hlo4.out]; rfl) o64 ?_; simp only [Act.put, pvA, pv0, pv1])
  (apply calm_on rfl; (focus (intro W hB; go_simp; exact ⟨rfl, Below.refl _ _⟩)); simp only [Act.put, pvA, pv0, pv1])
  (refine calm_whole rfl _ _ rfl _ rfl _ _ hb12_6.out g2 (i2 s34) ?_; simp only [Act.put, pvA, pv0, pv1])
  (apply calm_on rfl; (focus (intro W hB; go_simp; refine (v3.out W).mono ?_; rintro _ _ ⟨rfl, hb'⟩; exact ⟨rfl, hb'⟩)); simp only [Act.put, pvA, pv0, pv1])
  (apply calm_on rfl; (focus (intro W hB; go_simp; exact ⟨rfl, Below.refl _ _⟩)); simp only [Act.put, pvA, pv0, pv1])
  (refine calm_build rfl 64 _ rfl (cells5 ⟨q0, q1, q2, q3, q4⟩) (by first | (simp only [List.map_toArray, List.map_cons, List.map_nil]; exact hbu.out) | exact hbu.out) ?_; simp only [Act.put, pvA, pv0, pv1])
  (apply calm_on rfl; (focus (intro W hB; go_simp; refine (hC.out W).mono ?_; rintro _ _ ⟨rfl, hb'⟩; exact ⟨rfl, hb'⟩)); simp only [Act.put, pvA, pv0, pv1])
  refine calm_nil ?_
  intro wx7 hx7
  simp only [List.drop_succ_cons, List.drop_zero]
  (try simp only [Act.put, pvA, pv0, pv1])
  have fb2 := hb2_6.out.step hx7
  have fb3 := hb3_6.out.step hx7
  have fb4 := hb4_6.out.step hx7
  have fb9 := hb9_6.out.step hx7
  have fb10 := hb10_6.out.step hx7
  have fb11 := hb11_6.out.step hx7
  have fb12 := hb12_6.out.step hx7
  have fb13 := hb13_6.out.step hx7
  have hbb := hbl6.trans (hx7.mono hbl6.size)
  refine wpList_set _ _ _ rfl rfl rfl _ _ rfl rfl _ _ fb4 (i5 r) rfl (one_cells5 r) ?_
  replace fb2 := fb2.other (show w.heap.size ≠ (w.heap.size + 1 + 1) by omega) (cells5 r)
  replace fb3 := fb3.other (show (w.heap.size + 1) ≠ (w.heap.size + 1 + 1) by omega) (cells5 r)
  replace fb4 := fb4.set (cells5 r)
  replace fb9 := fb9.other (Ne.symm ne4_9) (cells5 r)
  replace fb10 := fb10.other (Ne.symm ne4_10) (cells5 r)
  replace fb11 := fb11.other (Ne.symm ne4_11) (cells5 r)
  replace fb12 := fb12.other (Ne.symm ne4_12) (cells5 r)
  replace fb13 := fb13.other (Ne.symm ne4_13) (cells5 r)
  replace hbb := below_set hbb (w.heap.size + 1 + 1) (by omega) (cells5 r)
  refine wpList_nil ?_
  obtain ⟨w7, hw⟩ : ∃ z, z = (wx7.setRow (w.heap.size + 1 + 1) (cells5 r)) := ⟨_, rfl⟩
  rw [← hw] at hbb fb2 fb3 fb4 fb9 fb10 fb11 fb12 fb13 ⊢
  have hb2_7 := hid fb2
  have hb3_7 := hid fb3
  have hb4_7 := hid fb4
  have hb9_7 := hid fb9
  have hb10_7 := hid fb10
  have hb11_7 := hid fb11
  have hb12_7 := hid fb12
  have hb13_7 := hid fb13
  have hbl7 := hbb
  clear hw hbb fb2 fb3 fb4 fb9 fb10 fb11 fb12 fb13 hx7 hbl6 hb2_6 hb3_6 hb4_6 hb9_6 hb10_6 hb11_6 hb12_6 hb13_6 
  (repeat ((fail_if_success (with_reducible refine Go.at_region ?_)); go_step))
  refine ret_blk (w.heap.size + 1 + 1) 64 (cells5 r) rfl rfl hb4_7.out g5 (i5 r) rfl ?_
  exact ⟨rfl, hbl7⟩
end Go.Proofs.Ytejnnghfelpioaa
namespace Go.Proofs.Ytejnnghfelpioaa
open Go.RowKit
theorem ny_take (ys : List (BitVec 8)) (n j : Nat) (h : j < n) : ny (ys.take n) j = ny ys j := by
  unfold ny; rw [List.getD_eq_getElem?_getD, List.getD_eq_getElem?_getD, List.getElem?_take, if_pos h]
theorem ny_drop (ys : List (BitVec 8)) (n j : Nat) : ny (ys.drop n) j = ny ys (n + j) := by
  unfold ny; rw [List.getD_eq_getElem?_getD, List.getD_eq_getElem?_getD, List.getElem?_drop]
theorem RdY.part {w : World} {a : Option Addr} {L cap : Nat} {ys : List (BitVec 8)} (h : RdY w (.slice a L cap) ys) (l k : Nat) (hl : l ≤ k) (hk : k ≤ ys.length) :
    RdY w (sliced a l k cap 1) ((ys.drop l).take (k - l)) := by
  obtain ⟨a', cap', e, hc, h2⟩ := h
  injection e with e1 e2 e3
  subst e1 e2 e3
  have hlen : ((ys.drop l).take (k - l)).length = k - l := by simp; omega
  unfold sliced
  refine ⟨_, cap - l, by rw [hlen], by rw [hlen]; omega, fun hne => ?_⟩
  have hpos : l < k := by
    rcases Nat.lt_or_ge l k with h0 | h0
    · exact h0
    · exfalso; apply hne; rw [show k - l = 0 by omega, List.take_zero]
  obtain ⟨b, off, rfl, hb, h3⟩ := h2 (by intro e; rw [e] at hk; simp at hk; omega)
  refine ⟨b, off + l, ?_, hb, fun j hj => ?_⟩
  · rw [if_neg (by omega)]
    simp [Addr.add]
  · rw [hlen] at hj
    rw [ny_take _ _ _ hj, ny_drop, Nat.add_assoc]
    exact h3 (l + j) (by omega)
theorem RdY.front {w : World} {a : Option Addr} {L cap : Nat} {ys : List (BitVec 8)} (h : RdY w (.slice a L cap) ys) (k : Nat) (hk : k ≤ ys.length) : RdY w (.slice a k cap) (ys.take k) := by
  obtain ⟨a', cap', e, hc, h2⟩ := h
  injection e with e1 e2 e3
  subst e1 e2 e3
  refine ⟨a, cap, by rw [List.length_take, Nat.min_eq_left hk], by rw [List.length_take]; omega, fun hne => ?_⟩
  obtain ⟨b, off, rfl, hb, h3⟩ := h2 (by rintro rfl; simp at hne)
  refine ⟨b, off, rfl, hb, fun j hj => ?_⟩
  rw [List.length_take] at hj
  rw [ny_take _ _ _ (by omega)]
  exact h3 j (by omega)
theorem RdY.back {w : World} {a : Option Addr} {cap : Nat} {ys : List (BitVec 8)} (h : RdY w (.slice a ys.length cap) ys) (l : Nat) (hl : l ≤ ys.length) : RdY w (sliced a l ys.length cap 1) (ys.drop l) := by
  have := h.part l ys.length hl (Nat.le_refl _)
  rwa [List.take_of_length_le (by simp)] at this
end Go.Proofs.Ytejnnghfelpioaa
namespace Go.Proofs.Ytejnnghfelpioaa
open Go.RowKit
theorem leN_split (ys : List (BitVec 8)) (n : Nat) (hn : n ≤ ys.length) : leN ys = leN (ys.take n) + 256 ^ n * leN (ys.drop n) := by
  have h := num_split ((ys.map fun y => y.toNat)) n (by simpa using hn)
  unfold leN
  rw [h, List.map_take, List.map_drop]
theorem lfold_law (lo hi : Nat) : (lo + hi * ((2 ^ 256 - 1 + 1) % lN) % lN) % lN = (lo + 2 ^ 256 * hi) % lN := by
  rw [Nat.add_mod, Nat.mod_mod, ← Nat.add_mod, Nat.sub_add_cancel (by decide +kernel), Nat.add_mod, Nat.mul_mod, Nat.mod_mod, ← Nat.mul_mod, ← Nat.add_mod, Nat.mul_comm]
set_option maxHeartbeats 2000000 in
theorem fLfold_any (ys : List (BitVec 8)) (v : Value) (w : World) (hr : RdY w v ys) : Calls Try.prog 52 #[v] w fun e w' => e = .returned (.tuple #[wd (flN ys), .int .i64 (flE ys)]) ∧ Below w.heap.size w w' := by
  have iZ := hid (iW 0)
  have nZ := hid (one_cellsW 0)
  have hBn := hid nil_built
  have hC0 := hid (ArrW.new 25 w 0)
  have hb0 : Below w.heap.size w (w.alloc (.cells (cellsW 0) 25)) := (Below.refl _ _).alloc (Nat.le_refl _) _
  have hv0 := hid (hr.below hb0)
  clear hr
  obtain ⟨a, cap, rfl, hc, hx⟩ := hv0.out
  clear hx
  unfold wd
  by_cases h64 : 64 < ys.length
  · have h64i : (64 : Int) < (ys.length : Int) := by omega
    have HN := hid (show flN ys = 0 by unfold flN; rw [if_pos h64])
    have HE := hid (show flE ys = 1 by unfold flE; rw [if_pos h64])
    rw [HN.out, HE.out]
    clear h64
    go_enter Try.func52, Try.ntmps52
    go_wp2_with (first | (refine wpList_alloc_new rfl 25 rfl (cellsW 0) zWd ?_; simp only [Act.put, pvA, pv0, pv1, World.size_alloc]) | (refine wpList_buildStore 25 _ (.tmp 2) 11 (cellsW 0) _ rfl rfl rfl rfl rfl rfl (by simp) (by first | exact hBn.out | (simp only [List.map_toArray, List.map_cons, List.map_nil]; exact hBn.out)) rfl 25 _ hC0.out iZ.out rfl nZ.out ?_; simp only [Act.put, pvA, pv0, pv1]))
    refine bodyPost_ret (results_row_tmp rfl _ _ w.heap.size 25 (cellsW 0) (0, 0) _ rfl (heap_setRow' _ _ _ _ _ hC0.out) uWd rfl iZ.out) rfl ⟨rfl, below_setRow' hb0 _ (Nat.le_refl _) _⟩
  · have h64i : ¬ (64 : Int) < (ys.length : Int) := by omega
    have HN := hid (show flN ys = leN ys % lN by unfold flN; rw [if_neg h64])
    have HE := hid (show flE ys = 0 by unfold flE; rw [if_neg h64])
    rw [HN.out, HE.out]
    obtain ⟨n, hnl, hn32, hd32, hsum, hcase⟩ : ∃ n, n ≤ ys.length ∧ n ≤ 32 ∧ ys.length - n ≤ 32 ∧ leN ys = leN (ys.take n) + 2 ^ 256 * leN (ys.drop n) ∧ ((ys.length < 32 ∧ n = ys.length) ∨ (32 ≤ ys.length ∧ n = 32)) := by
      by_cases h : ys.length < 32
      · refine ⟨ys.length, Nat.le_refl _, by omega, by omega, ?_, .inl ⟨h, rfl⟩⟩
        rw [List.take_length, List.drop_length, show leN [] = 0 from rfl]; omega
      · exact ⟨32, by omega, by omega, by omega, leN_split ys 32 (by omega), .inr ⟨by omega, rfl⟩⟩
    have hF := hid (hv0.out.front n hnl)
    have hBk := hid (hv0.out.back n hnl)
    have hL1 := hid (fun v w h => little_any (ys.take n) v w h (by simp; omega))
    have hL2 := hid (fun v w h => little_any (ys.drop n) v w h (by simp; omega))
    have b1 := leN_lt (ys.take n) (by simp; omega)
    have b2 := leN_lt (ys.drop n) (by simp; omega)
    have hres := lfold_law (leN (ys.take n)) (leN (ys.drop n))
    rw [← hsum] at hres
    have hNot := hid (fun w => wnot_any 0 w (by decide))
    rw [show notW 0 = 2 ^ 256 - 1 by kernel_rfl] at hNot
    have hAm := hid (fun w => waddmod_any (2 ^ 256 - 1) 1 lN w (by decide +kernel) (by decide) lN_lt)
    rw [modW_lN] at hAm
    obtain ⟨ov, hov⟩ : ∃ ov, ov = (2 ^ 256 - 1 + 1) % lN := ⟨_, rfl⟩
    rw [← hov] at hAm hres
    have b3 : ov < 2 ^ 256 := by rw [hov]; exact Nat.lt_trans (Nat.mod_lt _ lN_pos) lN_lt
    have hMu := hid (fun w => lmul_any (leN (ys.drop n)) ov w b2 b3)
    have hAd := hid (fun w => ladd_any (leN (ys.take n)) (leN (ys.drop n) * ov % lN) w b1 (Nat.lt_trans (Nat.mod_lt _ lN_pos) lN_lt))
    rw [hres] at hAd
    obtain ⟨r, hrr⟩ : ∃ r, r = leN ys % lN := ⟨_, rfl⟩
    rw [← hrr] at hAd ⊢
    obtain ⟨lo, hlo⟩ : ∃ lo, lo = leN (ys.take n) := ⟨_, rfl⟩
    obtain ⟨hi, hhi⟩ : ∃ hi, hi = leN (ys.drop n) := ⟨_, rfl⟩
    rw [← hlo] at hL1 hAd
    rw [← hhi] at hL2 hAd hMu
    obtain ⟨m, hm⟩ : ∃ m, m = hi * ov % lN := ⟨_, rfl⟩
    rw [← hm] at hMu hAd
    have hLl := hid (fun w => fL_any w)
    obtain ⟨l, hl⟩ : ∃ l, l = lN := ⟨_, rfl⟩
    rw [← hl] at hLl hAm
    obtain ⟨on, hon⟩ : ∃ on, on = 2 ^ 256 - 1 := ⟨_, rfl⟩
    rw [← hon] at hNot hAm
    clear hov b1 b2 b3 hres hsum hrr hlo hhi hm hl hon h64 HN HE
    unfold wd at *
    have iR := hid (iW r)
    have nR := hid (one_cellsW r)
    have iLo := hid (iW lo)
    have nLo := hid (one_cellsW lo)
    have iHi := hid (iW hi)
    have nHi := hid (one_cellsW hi)
    have iOv := hid (iW ov)
    have nOv := hid (one_cellsW ov)
    have hB1 := hid one_built
    have hnI : (n : Int) ≤ (ys.length : Int) := by omega
    have hnc : (n : Int) ≤ (cap : Int) := by omega
    have HL := hid hn32
    have Hd := hid hd32
    clear hn32 hd32
    rcases hcase with ⟨hc1, hc2⟩ | ⟨hc1, hc2⟩
    · subst hc2
      go_enter Try.func52, Try.ntmps52
      have hq1 : (ys.length : Int) ≤ (cap : Int) := by omega
      have hq2 : (ys.length : Int) ≤ (ys.length : Int) := by omega
      go_wp2_with (refine wpList_alloc_new rfl 25 rfl (cellsW 0) zWd ?_; simp only [Act.put, pvA, pv0, pv1, World.size_alloc])
      rw [show min (ys.length : Int) 32 = (ys.length : Int) by omega]
      generalize w.alloc (.cells (cellsW 0) 25) = w1 at hC0 hb0 hv0 hF hBk ⊢
      ((try simp only [World.size_alloc]); refine wp_region_loose_apart (es := [.kn (.slice a ys.length cap), .kn (.int .i64 (ys.length : Int)), .lo (fun v w => RdY w v (ys.take ys.length)), .kn (.agg (cellsW lo)), .kn (.slice a ys.length cap), .kn (.int .i64 (ys.length : Int)), .lo (fun v w => RdY w v (ys.drop ys.length)), .kn (.agg (cellsW hi)), .lo (fun v w' => ∃ b, v = .pointer (some ⟨b, 0, none⟩) ∧ ArrW 25 w' b 0 ∧ w1.heap.size ≤ b), .lo (fun v w' => ∃ b, v = .pointer (some ⟨b, 0, none⟩) ∧ ArrW 25 w' b 0 ∧ w1.heap.size ≤ b)]) 10 (by kernel_rfl) (by kernel_rfl) (by kernel_rfl) (by first | exact trivial | ((repeat (first | refine keepsAll_kn ?_ | (refine keepsAll_lo (fun v w w' h hb => ?_) ?_; first | exact RdN.below h hb | exact RdL.below h hb | exact RdY.below h hb | (obtain ⟨b, e, h1, h2⟩ := h; exact ⟨b, e, ArrW.below h1 hb (ArrW.lt h1), h2⟩)))); exact trivial)) (by kernel_rfl) ?_; simp only [List.take_succ_cons, List.take_zero, List.drop_succ_cons, List.drop_zero])
      iterate 2 (refine loose_step_on rfl (fun W' hB' hd K hK => ?_) ?_; (focus (clear hd; go_simp; exact hK _ _ (Below.refl _ _) rfl)); rintro _ rfl; simp only [Act.put, pvA, pv0, pv1])
      (refine loose_step_on rfl (fun W' hB' hd K hK => ?_) ?_; (focus (clear hd; go_simp; exact hK _ _ (Below.refl _ _) (RdY.below hF.out hB'))); intro v17 _; simp only [Act.put, pvA, pv0, pv1])
      (refine loose_step_on rfl (fun W' hB' hd K hK => ?_) ?_; (focus (have g17 : RdY W' v17 (ys.take ys.length) := hd ⟨2, Ground.data⟩ (by simp) rfl _ 17 rfl rfl (by simp); clear hd; go_simp; refine (hL1.out v17 _ g17).mono ?_; rintro _ _ ⟨rfl, hb'⟩; exact hK _ _ hb' rfl)); rintro _ rfl; simp only [Act.put, pvA, pv0, pv1])
      iterate 2 (refine loose_step_on rfl (fun W' hB' hd K hK => ?_) ?_; (focus (clear hd; go_simp; exact hK _ _ (Below.refl _ _) rfl)); rintro _ rfl; simp only [Act.put, pvA, pv0, pv1])
      (refine loose_step_on rfl (fun W' hB' hd K hK => ?_) ?_; (focus (clear hd; go_simp; exact hK _ _ (Below.refl _ _) (show RdY W' _ (ys.drop ys.length) by have := RdY.below hBk.out hB'; simpa [sliced, Addr.add] using this))); intro v21 _; simp only [Act.put, pvA, pv0, pv1])
      (refine loose_step_on rfl (fun W' hB' hd K hK => ?_) ?_; (focus (have g21 : RdY W' v21 (ys.drop ys.length) := hd ⟨6, Ground.data⟩ (by simp) rfl _ 21 rfl rfl (by simp); clear hd; go_simp; refine (hL2.out v21 _ g21).mono ?_; rintro _ _ ⟨rfl, hb'⟩; exact hK _ _ hb' rfl)); rintro _ rfl; simp only [Act.put, pvA, pv0, pv1])
      (refine loose_step_on rfl (fun W' hB' hd K hK => ?_) ?_; (focus (exact wp_alloc_new 25 rfl (cellsW 0) zWd (hK _ _ ((Below.refl _ _).alloc (Nat.le_refl _) _) ⟨_, rfl, ArrW.new _ _ 0, Nat.le_trans (Nat.le_refl _) hB'.size⟩))); intro v5 _; simp only [Act.put, pvA, pv0, pv1])
      (refine loose_step_on rfl (fun W' hB' hd K hK => ?_) ?_; (focus (exact wp_alloc_new 25 rfl (cellsW 0) zWd (hK _ _ ((Below.refl _ _).alloc (Nat.le_refl _) _) ⟨_, rfl, ArrW.new _ _ 0, Nat.le_trans (Nat.le_refl _) hB'.size⟩))); intro v6 _; simp only [Act.put, pvA, pv0, pv1])
      intro w6 hb6 hf hap
      have g5 : ∃ b, v5 = .pointer (some ⟨b, 0, none⟩) ∧ ArrW 25 w6 b 0 ∧ w1.heap.size ≤ b := hf 8 _ 5 (by first | omega | simp) rfl rfl (by simp)
      have g6 : ∃ b, v6 = .pointer (some ⟨b, 0, none⟩) ∧ ArrW 25 w6 b 0 ∧ w1.heap.size ≤ b := hf 9 _ 6 (by first | omega | simp) rfl rfl (by simp)
      obtain ⟨b5, rfl, h5, l5⟩ := g5
      obtain ⟨b6, rfl, h6, l6⟩ := g6
      have hne : b5 ≠ b6 := by
        rintro rfl
        exact hap 8 9 _ _ 5 6 (by omega) (by omega) (by omega) rfl rfl (by kernel_rfl) (by kernel_rfl) rfl rfl (by simp) (by simp) rfl
      clear hf hap
      have hbw := hb0.trans (hb6.mono hb0.size)
      have hX5 := hid h5
      have hX6 := hid h6
      have hY5 := hid (hX5.out.row lo)
      have hY6 := hid (hX6.out.otherRow (Ne.symm hne) (cellsW lo))
      have hZ6 := hid (hY6.out.row hi)
      have hZ5 := hid (hY5.out.otherRow hne (cellsW hi))
      have hs1 : w.heap.size + 1 ≤ w1.heap.size := by have := hC0.out.lt; omega
      have hCw := hid (((hC0.out.below hb6 hC0.out.lt).otherRow (show w.heap.size ≠ b5 by omega) (cellsW lo)).otherRow (show w.heap.size ≠ b6 by omega) (cellsW hi))
      have hbz := below_setRow' (below_setRow' hbw b5 (by omega) (cellsW lo)) b6 (by omega) (cellsW hi)
      clear h5 h6 hv0 hF hBk hb6 hC0 hb0
      go_wp2_with (first | (refine wpList_store_row rfl 25 (.tmp 5) (.tmp 18) rfl b5 _ rfl rfl 25 _ hX5.out iLo.out (by rw [size_cellsW, size_cellsW]) nLo.out ?_; simp only [Act.put]) | (refine wpList_store_row rfl 25 (.tmp 6) (.tmp 22) rfl b6 _ rfl rfl 25 _ hY6.out iHi.out (by rw [size_cellsW, size_cellsW]) nHi.out ?_; simp only [Act.put]) | (refine wpList_build_cells rfl 25 _ rfl (cellsW 0) (by first | exact hBn.out | (simp only [List.map_toArray, List.map_cons, List.map_nil]; exact hBn.out)) ?_; simp only [Act.put, pvA, pv0, pv1]))
      generalize (w6.setRow b5 (cellsW lo)).setRow b6 (cellsW hi) = w7 at hZ5 hZ6 hCw hbz ⊢
      clear hX5 hX6 hY5 hY6 hbw
      refine (hNot.out _).mono ?_
      rintro e w8 ⟨rfl, hs8⟩
      go_wp2_with (refine wpList_build_cells rfl 25 _ rfl (cellsW 1) (by first | exact hB1.out | (simp only [List.map_toArray, List.map_cons, List.map_nil]; exact hB1.out)) ?_; simp only [Act.put, pvA, pv0, pv1])
      refine (hLl.out _).mono ?_
      rintro e w9 ⟨rfl, hs9⟩
      go_wp2_with fail
      refine (hAm.out _).mono ?_
      rintro e w10 ⟨rfl, hs10⟩
      have hL10 := hid ((((hZ5.out.step hs8).step hs9).step hs10).alloc (.cells (cellsW ov) 25))
      have hH10 := hid ((((hZ6.out.step hs8).step hs9).step hs10).alloc (.cells (cellsW ov) 25))
      have hC10 := hid ((((hCw.out.step hs8).step hs9).step hs10).alloc (.cells (cellsW ov) 25))
      have hO10 := hid (ArrW.new 25 w10 ov)
      have hb10 := hbz.trans ((below_next (below_next hs8 (Nat.le_refl _) hs9) (Nat.le_refl _) hs10).mono hbz.size)
      have hb11 := hb10.alloc hb10.size (.cells (cellsW ov) 25)
      clear hs8 hs9 hs10 hbz hZ5 hZ6 hCw hb10
      go_wp2_with (refine wpList_allocStore 25 27 7 (cellsW ov) (cellsW 0) rfl rfl rfl rfl rfl rfl (by decide) (by simp) rfl (by kernel_rfl) (by rw [size_cellsW, size_cellsW]) iOv.out nOv.out ?_; simp only [Act.put, pvA, pv0, pv1])
      obtain ⟨G, hG⟩ : ∃ G, G = w10.heap.size := ⟨_, rfl⟩
      rw [← hG] at hO10 ⊢
      generalize w10.alloc (.cells (cellsW ov) 25) = w11 at hL10 hH10 hC10 hO10 hb11 ⊢
      clear hG
      ((try simp only [World.size_alloc]); refine wp_region_ext_tail 5 (by kernel_rfl) (by kernel_rfl) ?_; simp only [List.take_succ_cons, List.take_zero, List.drop_succ_cons, List.drop_zero]; (repeat (first | (refine wpQuiet_load_want 25 (.tmp 5) rfl b5 rfl 25 (cellsW _) _ hL10.out uWd rfl iLo.out rfl ?_; simp only [Act.put, pvA, pv0, pv1]) | (refine wpQuiet_load_want 25 (.tmp 6) rfl b6 rfl 25 (cellsW _) _ hH10.out uWd rfl iHi.out rfl ?_; simp only [Act.put, pvA, pv0, pv1]) | (refine wpQuiet_load_want 25 (.tmp 7) rfl G rfl 25 (cellsW _) _ hO10.out uWd rfl iOv.out rfl ?_; simp only [Act.put, pvA, pv0, pv1]) | go_big_quiet_step (first | (go_at_call 24; with_reducible refine Calls.ext_of (hMu.out _)) | (go_at_call 11; with_reducible refine Calls.ext_of (hAd.out _))))); refine wpQuiet_nil ?_; rintro _ ⟨xw, rfl⟩)
      have hC12 := hid (hC10.out.ext xw)
      have hb12 := World.ext_below_of hb11 hb11.size xw
      clear hL10 hH10 hC10 hO10 hb11
      go_wp2_with (refine wpList_store_row rfl 25 (.tmp 2) (.tmp 32) rfl w.heap.size _ rfl rfl 25 _ hC12.out iR.out (by rw [size_cellsW, size_cellsW]) nR.out ?_; simp only [Act.put])
      refine bodyPost_ret (results_row_tmp rfl _ _ w.heap.size 25 (cellsW r) (0, 0) _ rfl (heap_setRow' _ _ _ _ _ hC12.out) uWd rfl iR.out) rfl ⟨rfl, below_setRow' hb12 _ (Nat.le_refl _) _⟩
    · subst hc2
      go_enter Try.func52, Try.ntmps52
      have hq1 : 32 ≤ (cap : Int) := by omega
      have hq2 : 32 ≤ (ys.length : Int) := by omega
      go_wp2_with (refine wpList_alloc_new rfl 25 rfl (cellsW 0) zWd ?_; simp only [Act.put, pvA, pv0, pv1, World.size_alloc])
      rw [show min (ys.length : Int) 32 = 32 by omega]
      generalize w.alloc (.cells (cellsW 0) 25) = w1 at hC0 hb0 hv0 hF hBk ⊢
      ((try simp only [World.size_alloc]); refine wp_region_loose_apart (es := [.kn (.slice a ys.length cap), .kn (.int .i64 32), .lo (fun v w => RdY w v (ys.take 32)), .kn (.agg (cellsW lo)), .kn (.slice a ys.length cap), .kn (.int .i64 32), .lo (fun v w => RdY w v (ys.drop 32)), .kn (.agg (cellsW hi)), .lo (fun v w' => ∃ b, v = .pointer (some ⟨b, 0, none⟩) ∧ ArrW 25 w' b 0 ∧ w1.heap.size ≤ b), .lo (fun v w' => ∃ b, v = .pointer (some ⟨b, 0, none⟩) ∧ ArrW 25 w' b 0 ∧ w1.heap.size ≤ b)]) 10 (by kernel_rfl) (by kernel_rfl) (by kernel_rfl) (by first | exact trivial | ((repeat (first | refine keepsAll_kn ?_ | (refine keepsAll_lo (fun v w w' h hb => ?_) ?_; first | exact RdN.below h hb | exact RdL.below h hb | exact RdY.below h hb | (obtain ⟨b, e, h1, h2⟩ := h; exact ⟨b, e, ArrW.below h1 hb (ArrW.lt h1), h2⟩)))); exact trivial)) (by kernel_rfl) ?_; simp only [List.take_succ_cons, List.take_zero, List.drop_succ_cons, List.drop_zero])
      iterate 2 (refine loose_step_on rfl (fun W' hB' hd K hK => ?_) ?_; (focus (clear hd; go_simp; exact hK _ _ (Below.refl _ _) rfl)); rintro _ rfl; simp only [Act.put, pvA, pv0, pv1])
      (refine loose_step_on rfl (fun W' hB' hd K hK => ?_) ?_; (focus (clear hd; go_simp; exact hK _ _ (Below.refl _ _) (RdY.below hF.out hB'))); intro v17 _; simp only [Act.put, pvA, pv0, pv1])
      (refine loose_step_on rfl (fun W' hB' hd K hK => ?_) ?_; (focus (have g17 : RdY W' v17 (ys.take 32) := hd ⟨2, Ground.data⟩ (by simp) rfl _ 17 rfl rfl (by simp); clear hd; go_simp; refine (hL1.out v17 _ g17).mono ?_; rintro _ _ ⟨rfl, hb'⟩; exact hK _ _ hb' rfl)); rintro _ rfl; simp only [Act.put, pvA, pv0, pv1])
      iterate 2 (refine loose_step_on rfl (fun W' hB' hd K hK => ?_) ?_; (focus (clear hd; go_simp; exact hK _ _ (Below.refl _ _) rfl)); rintro _ rfl; simp only [Act.put, pvA, pv0, pv1])
      (refine loose_step_on rfl (fun W' hB' hd K hK => ?_) ?_; (focus (clear hd; go_simp; exact hK _ _ (Below.refl _ _) (show RdY W' _ (ys.drop 32) by have := RdY.below hBk.out hB'; simpa [sliced, Addr.add] using this))); intro v21 _; simp only [Act.put, pvA, pv0, pv1])
      (refine loose_step_on rfl (fun W' hB' hd K hK => ?_) ?_; (focus (have g21 : RdY W' v21 (ys.drop 32) := hd ⟨6, Ground.data⟩ (by simp) rfl _ 21 rfl rfl (by simp); clear hd; go_simp; refine (hL2.out v21 _ g21).mono ?_; rintro _ _ ⟨rfl, hb'⟩; exact hK _ _ hb' rfl)); rintro _ rfl; simp only [Act.put, pvA, pv0, pv1])
      (refine loose_step_on rfl (fun W' hB' hd K hK => ?_) ?_; (focus (exact wp_alloc_new 25 rfl (cellsW 0) zWd (hK _ _ ((Below.refl _ _).alloc (Nat.le_refl _) _) ⟨_, rfl, ArrW.new _ _ 0, Nat.le_trans (Nat.le_refl _) hB'.size⟩))); intro v5 _; simp only [Act.put, pvA, pv0, pv1])
      (refine loose_step_on rfl (fun W' hB' hd K hK => ?_) ?_; (focus (exact wp_alloc_new 25 rfl (cellsW 0) zWd (hK _ _ ((Below.refl _ _).alloc (Nat.le_refl _) _) ⟨_, rfl, ArrW.new _ _ 0, Nat.le_trans (Nat.le_refl _) hB'.size⟩))); intro v6 _; simp only [Act.put, pvA, pv0, pv1])
      intro w6 hb6 hf hap
      have g5 : ∃ b, v5 = .pointer (some ⟨b, 0, none⟩) ∧ ArrW 25 w6 b 0 ∧ w1.heap.size ≤ b := hf 8 _ 5 (by first | omega | simp) rfl rfl (by simp)
      have g6 : ∃ b, v6 = .pointer (some ⟨b, 0, none⟩) ∧ ArrW 25 w6 b 0 ∧ w1.heap.size ≤ b := hf 9 _ 6 (by first | omega | simp) rfl rfl (by simp)
      obtain ⟨b5, rfl, h5, l5⟩ := g5
      obtain ⟨b6, rfl, h6, l6⟩ := g6
      have hne : b5 ≠ b6 := by
        rintro rfl
        exact hap 8 9 _ _ 5 6 (by omega) (by omega) (by omega) rfl rfl (by kernel_rfl) (by kernel_rfl) rfl rfl (by simp) (by simp) rfl
      clear hf hap
      have hbw := hb0.trans (hb6.mono hb0.size)
      have hX5 := hid h5
      have hX6 := hid h6
      have hY5 := hid (hX5.out.row lo)
      have hY6 := hid (hX6.out.otherRow (Ne.symm hne) (cellsW lo))
      have hZ6 := hid (hY6.out.row hi)
      have hZ5 := hid (hY5.out.otherRow hne (cellsW hi))
      have hs1 : w.heap.size + 1 ≤ w1.heap.size := by have := hC0.out.lt; omega
      have hCw := hid (((hC0.out.below hb6 hC0.out.lt).otherRow (show w.heap.size ≠ b5 by omega) (cellsW lo)).otherRow (show w.heap.size ≠ b6 by omega) (cellsW hi))
      have hbz := below_setRow' (below_setRow' hbw b5 (by omega) (cellsW lo)) b6 (by omega) (cellsW hi)
      clear h5 h6 hv0 hF hBk hb6 hC0 hb0
      go_wp2_with (first | (refine wpList_store_row rfl 25 (.tmp 5) (.tmp 18) rfl b5 _ rfl rfl 25 _ hX5.out iLo.out (by rw [size_cellsW, size_cellsW]) nLo.out ?_; simp only [Act.put]) | (refine wpList_store_row rfl 25 (.tmp 6) (.tmp 22) rfl b6 _ rfl rfl 25 _ hY6.out iHi.out (by rw [size_cellsW, size_cellsW]) nHi.out ?_; simp only [Act.put]) | (refine wpList_build_cells rfl 25 _ rfl (cellsW 0) (by first | exact hBn.out | (simp only [List.map_toArray, List.map_cons, List.map_nil]; exact hBn.out)) ?_; simp only [Act.put, pvA, pv0, pv1]))
      generalize (w6.setRow b5 (cellsW lo)).setRow b6 (cellsW hi) = w7 at hZ5 hZ6 hCw hbz ⊢
      clear hX5 hX6 hY5 hY6 hbw
      refine (hNot.out _).mono ?_
      rintro e w8 ⟨rfl, hs8⟩
      go_wp2_with (refine wpList_build_cells rfl 25 _ rfl (cellsW 1) (by first | exact hB1.out | (simp only [List.map_toArray, List.map_cons, List.map_nil]; exact hB1.out)) ?_; simp only [Act.put, pvA, pv0, pv1])
      refine (hLl.out _).mono ?_
      rintro e w9 ⟨rfl, hs9⟩
      go_wp2_with fail
      refine (hAm.out _).mono ?_
      rintro e w10 ⟨rfl, hs10⟩
      have hL10 := hid ((((hZ5.out.step hs8).step hs9).step hs10).alloc (.cells (cellsW ov) 25))
      have hH10 := hid ((((hZ6.out.step hs8).step hs9).step hs10).alloc (.cells (cellsW ov) 25))
      have hC10 := hid ((((hCw.out.step hs8).step hs9).step hs10).alloc (.cells (cellsW ov) 25))
      have hO10 := hid (ArrW.new 25 w10 ov)
      have hb10 := hbz.trans ((below_next (below_next hs8 (Nat.le_refl _) hs9) (Nat.le_refl _) hs10).mono hbz.size)
      have hb11 := hb10.alloc hb10.size (.cells (cellsW ov) 25)
      clear hs8 hs9 hs10 hbz hZ5 hZ6 hCw hb10
      go_wp2_with (refine wpList_allocStore 25 27 7 (cellsW ov) (cellsW 0) rfl rfl rfl rfl rfl rfl (by decide) (by simp) rfl (by kernel_rfl) (by rw [size_cellsW, size_cellsW]) iOv.out nOv.out ?_; simp only [Act.put, pvA, pv0, pv1])
      obtain ⟨G, hG⟩ : ∃ G, G = w10.heap.size := ⟨_, rfl⟩
      rw [← hG] at hO10 ⊢
      generalize w10.alloc (.cells (cellsW ov) 25) = w11 at hL10 hH10 hC10 hO10 hb11 ⊢
      clear hG
      ((try simp only [World.size_alloc]); refine wp_region_ext_tail 5 (by kernel_rfl) (by kernel_rfl) ?_; simp only [List.take_succ_cons, List.take_zero, List.drop_succ_cons, List.drop_zero]; (repeat (first | (refine wpQuiet_load_want 25 (.tmp 5) rfl b5 rfl 25 (cellsW _) _ hL10.out uWd rfl iLo.out rfl ?_; simp only [Act.put, pvA, pv0, pv1]) | (refine wpQuiet_load_want 25 (.tmp 6) rfl b6 rfl 25 (cellsW _) _ hH10.out uWd rfl iHi.out rfl ?_; simp only [Act.put, pvA, pv0, pv1]) | (refine wpQuiet_load_want 25 (.tmp 7) rfl G rfl 25 (cellsW _) _ hO10.out uWd rfl iOv.out rfl ?_; simp only [Act.put, pvA, pv0, pv1]) | go_big_quiet_step (first | (go_at_call 24; with_reducible refine Calls.ext_of (hMu.out _)) | (go_at_call 11; with_reducible refine Calls.ext_of (hAd.out _))))); refine wpQuiet_nil ?_; rintro _ ⟨xw, rfl⟩)
      have hC12 := hid (hC10.out.ext xw)
      have hb12 := World.ext_below_of hb11 hb11.size xw
      clear hL10 hH10 hC10 hO10 hb11
      go_wp2_with (refine wpList_store_row rfl 25 (.tmp 2) (.tmp 32) rfl w.heap.size _ rfl rfl 25 _ hC12.out iR.out (by rw [size_cellsW, size_cellsW]) nR.out ?_; simp only [Act.put])
      refine bodyPost_ret (results_row_tmp rfl _ _ w.heap.size 25 (cellsW r) (0, 0) _ rfl (heap_setRow' _ _ _ _ _ hC12.out) uWd rfl iR.out) rfl ⟨rfl, below_setRow' hb12 _ (Nat.le_refl _) _⟩
end Go.Proofs.Ytejnnghfelpioaa
namespace Go.Proofs.Ytejnnghfelpioaa
open Go.RowKit
def carN (f : F5) : Nat → F5
  | 0 => f
  | i + 1 => car5 (carN f i)
theorem carN_t (f : F5) (h : T5 f) : ∀ i, T5 (carN f i)
  | 0 => h
  | i + 1 => car5_t _ ((carN_t f h i).mono (by decide))
theorem carN_six (f : F5) : carN f 6 = car6 f := rfl
theorem or_hi (x y B r : Nat) (hB : B = 2 ^ r) (hr : r ≤ 64) (hx : x < B) (hx64 : x < 2 ^ 64) : bits .or .u64 (x : Int) (IntKind.u64.wrap ((y : Int) * (B : Int))) = ((x + y * B % 2 ^ 64 : Nat) : Int) := by
  have := shr_or x y 1 B r hB hr (by decide) (by rw [Nat.div_one]; exact hx) hx64
  rw [Nat.div_one] at this
  simpa using this
theorem pack_words (f : F5) (h : Ok5 2251799813685248 f) : val5 f < 2 ^ 256 ∧ lmN (val5 f) 0 = f.a0 + f.a1 * 2251799813685248 % 2 ^ 64 ∧ lmN (val5 f) 1 = f.a1 / 8192 + f.a2 * 274877906944 % 2 ^ 64 ∧ lmN (val5 f) 2 = f.a2 / 67108864 + f.a3 * 33554432 % 2 ^ 64 ∧ lmN (val5 f) 3 = f.a3 / 549755813888 + f.a4 * 4096 % 2 ^ 64 := by
  obtain ⟨h0, h1, h2, h3, h4⟩ := h
  obtain ⟨a0, a1, a2, a3, a4⟩ := f
  unfold val5 lmN
  simp only at *
  refine ⟨by omega, ?_, ?_, ?_, ?_⟩
  · rw [show 2 ^ (64 * 0) = 1 from rfl]; omega
  · rw [show 2 ^ (64 * 1) = 18446744073709551616 from rfl]; omega
  · rw [show 2 ^ (64 * 2) = 340282366920938463463374607431768211456 from rfl]; omega
  · rw [show 2 ^ (64 * 3) = 6277101735386680763835789423207666416102355444464034512896 from rfl]; omega
set_option maxRecDepth 20000 in
set_option maxHeartbeats 2000000 in
theorem word5_any (f : F5) (w : World) (hf : T5 f) : Calls Try.prog 30 #[fe f] w fun e w' => e = .returned (wd (val5 f % pN)) ∧ Below w.heap.size w w' := by
  have hT := hid (carN_t f hf)
  have hC := hid fun i w => car5_any (carN f i) w ((carN_t f hf i).mono (by decide))
  have h6 := car6_ok f hf
  have hP := pack_words (car6 f) h6
  have hAd := hid fun w => fadd_any (val5 (car6 f)) 0 w hP.1 (by decide)
  rw [Nat.add_zero, car6_mod f] at hAd
  obtain ⟨V, hV⟩ : ∃ V, V = val5 (car6 f) := ⟨_, rfl⟩
  rw [← hV] at hAd hP
  obtain ⟨r, hr⟩ : ∃ r, r = val5 f % pN := ⟨_, rfl⟩
  rw [← hr] at hAd ⊢
  have H6 := hid h6
  have HP := hid hP
  clear hV hr hP h6 hf
  obtain ⟨w0, hw0, k1, k2, hb0⟩ := entry2 w 64 (cells5 f) 25 (cellsW 0)
  have hA0 := hid k1
  have hR0 := hid k2
  clear k1 k2
  unfold fe wd at *
  go_enter Try.func30, Try.ntmps30
  go_wp2_with (refine wpList_alloc_new rfl 25 rfl (cellsW 0) zWd ?_; simp only [Act.put, pvA, pv0, pv1, World.size_alloc])
  rw [← hw0]
  clear hw0
  go_loopw [4] (fun iv wr => ∃ i : Nat, i ≤ 6 ∧ iv = .int .i64 (i : Int) ∧ Hid (Blk 64 wr w.heap.size (cells5 (carN f i))) ∧ Hid (Blk 25 wr (w.heap.size + 1) (cellsW 0)) ∧ Below w.heap.size w wr)
    (fun iv _ => 6 - (intOf iv).toNat)
  case atStart => exact ⟨0, by omega, rfl, hA0, hR0, hb0⟩
  case round =>
    clear hA0 hR0 hb0
    obtain ⟨i, hi, rfl, hA, hR, hb⟩ := hrel
    by_cases hlt : i < 6
    · have hC1 := hid (hC.out i)
      obtain ⟨x, hx⟩ : ∃ x, x = carN f i := ⟨_, rfl⟩
      have hy : car5 x = carN f (i + 1) := by rw [hx]; rfl
      rw [← hx] at hC1 hA
      rw [hy] at hC1
      obtain ⟨y, hy2⟩ : ∃ y, y = carN f (i + 1) := ⟨_, rfl⟩
      rw [← hy2] at hC1
      have HY := hid hy2
      clear hx hy hy2
      go_wp2_with (refine wpList_get _ _ rfl rfl _ rfl _ _ hA.out g5 (i5 x) ?_; simp only [Act.put, pvA, pv0, pv1])
      refine (hC1.out _).mono ?_
      rintro en w2 ⟨rfl, hb2⟩
      have hA2 := hid (hA.out.step hb2)
      have hR2 := hid ((hR.out.step hb2).other (show w.heap.size + 1 ≠ w.heap.size by omega) (cells5 y))
      have hA3 := hid (hA2.out.set (cells5 y))
      have hb3 := below_set (hb.trans (hb2.mono hb.size)) w.heap.size (Nat.le_refl _) (cells5 y)
      clear hA hR hb hb2 hC1
      go_wp2_with (refine wpList_store_row rfl 64 (.tmp 1) (.tmp 7) rfl w.heap.size _ rfl rfl 64 _ hA2.out (i5 _) rfl (one_cells5 _) ?_; simp only [Act.put])
      go_roundw
      case rel => exact ⟨i + 1, by omega, by go_num, by rw [← HY.out]; exact hA3, hR2, hb3⟩
      case measure => simp [intOf]; omega
    · obtain rfl : i = 6 := by omega
      rw [carN_six] at hA
      clear hlt hi hC hT
      obtain ⟨g, hg⟩ : ∃ g, g = car6 f := ⟨_, rfl⟩
      rw [← hg] at hA H6 HP
      obtain ⟨l0, l1, l2, l3, l4⟩ := H6.out
      obtain ⟨p0, p1, p2, p3, p4⟩ := HP.out
      clear hg H6 HP
      obtain ⟨a0, a1, a2, a3, a4⟩ := g
      simp only at l0 l1 l2 l3 l4 p1 p2 p3 p4
      have o0 : bits .or .u64 (a0 : Int) (IntKind.u64.wrap ((a1 : Int) * 2251799813685248)) = _ := or_hi a0 a1 2251799813685248 51 rfl (by decide) l0 (by omega)
      have o1 : bits .or .u64 ((a1 : Int) / 8192) (IntKind.u64.wrap ((a2 : Int) * 274877906944)) = _ := shr_or a1 a2 8192 274877906944 38 rfl (by decide) (by decide) (by omega) (by omega)
      have o2 : bits .or .u64 ((a2 : Int) / 67108864) (IntKind.u64.wrap ((a3 : Int) * 33554432)) = _ := shr_or a2 a3 67108864 33554432 25 rfl (by decide) (by decide) (by omega) (by omega)
      have o3 : bits .or .u64 ((a3 : Int) / 549755813888) (IntKind.u64.wrap ((a4 : Int) * 4096)) = _ := shr_or a3 a4 549755813888 4096 12 rfl (by decide) (by decide) (by omega) (by omega)
      rw [← p1] at o0
      rw [← p2] at o1
      rw [← p3] at o2
      rw [← p4, show IntKind.u64.wrap ((a4 : Int) * 4096) = (a4 : Int) * 4096 by rw [IntKind.wrap_u64]; omega] at o3
      clear p1 p2 p3 p4
      have c0 := hA.out.cell 0 (.int .u64 (a0 : Int)) rfl
      have c1 := hA.out.cell 1 (.int .u64 (a1 : Int)) rfl
      have c2 := hA.out.cell 2 (.int .u64 (a2 : Int)) rfl
      have c3 := hA.out.cell 3 (.int .u64 (a3 : Int)) rfl
      have c4 := hA.out.cell 4 (.int .u64 (a4 : Int)) rfl
      have lA := hA.out.lt
      have hR2 := hid (hR.out.alloc (.cells (cellsW V) 25))
      have hb2 := hb.alloc hb.size (.cells (cellsW V) 25)
      unfold cellsW lm at hAd hR2 hb2
      generalize lmN V 0 = q0 at *
      generalize lmN V 1 = q1 at *
      generalize lmN V 2 = q2 at *
      generalize lmN V 3 = q3 at *
      go_wp2_with fail
      refine (hAd.out _).mono ?_
      rintro en w3 ⟨rfl, hs3⟩
      have hR3 := hid (hR2.out.step hs3)
      have hb3 := hb2.trans (hs3.mono hb2.size)
      clear hR2 hb2 hs3 hR hb
      go_wp2_with (refine wpList_set 25 (.tmp 2) (.tmp 39) rfl rfl rfl (w.heap.size + 1) (cellsW r) rfl rfl 25 (cellsW 0) hR3.out (iW r) rfl (one_cellsW r) ?_)
      refine ret_blk (w.heap.size + 1) 25 (cellsW r) rfl rfl (hR3.out.set _) gWd (iW r) rfl ?_
      exact ⟨rfl, below_set hb3 _ (by omega) _⟩
def pwR (f : F5) (e : Nat) : Nat → F5
  | 0 => one5
  | m + 1 => if e / 2 ^ (254 - m) % 2 = 1 then mul5 (mul5 (pwR f e m) (pwR f e m)) f else mul5 (pwR f e m) (pwR f e m)
theorem pwR_t (f : F5) (e : Nat) (h : T5 f) : ∀ m, T5 (pwR f e m)
  | 0 => t5_one
  | m + 1 => by
    have ih := pwR_t f e h m
    rw [pwR]; split
    · exact mul5_t _ _ (mul5_t _ _ ih ih) h
    · exact mul5_t _ _ ih ih
theorem pwR_val (f : F5) (e : Nat) (he : e < 2 ^ 255) : ∀ m, m ≤ 255 → val5 (pwR f e m) % pN = powP (val5 f) (e / 2 ^ (255 - m))
  | 0, _ => by
    rw [Nat.sub_zero, Nat.div_eq_of_lt he, powP_zero]; exact (show val5 one5 % pN = 1 by decide +kernel)
  | m + 1, hm => by
    have ih := pwR_val f e he m (by omega)
    have hd := bit_down e (254 - m)
    rw [show 254 - m + 1 = 255 - m by omega] at hd
    rw [show 255 - (m + 1) = 254 - m by omega]
    have hsq : val5 (mul5 (pwR f e m) (pwR f e m)) % pN = powP (val5 f) (2 * (e / 2 ^ (255 - m))) := by
      rw [mul5_mod, Nat.mul_mod, ih, powP_double]
    rw [pwR]
    split
    · rename_i h1
      rw [mul5_mod, Nat.mul_mod, hsq, show powP (val5 f) (2 * (e / 2 ^ (255 - m))) * (val5 f % pN) % pN = powP (val5 f) (2 * (e / 2 ^ (255 - m))) * val5 f % pN by rw [Nat.mul_mod, Nat.mod_mod, ← Nat.mul_mod], powP_succ, ← h1, ← hd]
    · rename_i h1
      rw [hsq]
      congr 1; omega
def inv5 (f : F5) : F5 := pwR f (pN - 2) 255
theorem inv5_t (f : F5) (h : T5 f) : T5 (inv5 f) := pwR_t f _ h _
theorem inv5_val (f : F5) : val5 (inv5 f) % pN = powP (val5 f) (pN - 2) := by
  unfold inv5
  rw [pwR_val f _ (by decide +kernel) 255 (Nat.le_refl _)]
  congr 1
theorem p2_cells : (cellsW pN).setIfInBounds 0 (.int .u64 18446744073709551595) = cellsW (pN - 2) := by
  rw [p_cells, show cellsW (pN - 2) = #[.int .u64 18446744073709551595, .int .u64 18446744073709551615, .int .u64 18446744073709551615, .int .u64 9223372036854775807] by
    have e : ∀ i, i < 4 → lm (pN - 2) i = if i = 0 then 18446744073709551595 else if i = 3 then 9223372036854775807 else 18446744073709551615 := by decide +kernel
    unfold cellsW; rw [e 0 (by decide), e 1 (by decide), e 2 (by decide), e 3 (by decide)]; rfl]
  rfl
theorem b5_one : Try.prog.built 64 [(0, .int .u64 1)] = some (cells5 one5) := by kernel_rfl
set_option maxRecDepth 20000 in
set_option maxHeartbeats 4000000 in
theorem inv5_any (f : F5) (w : World) (hf : T5 f) : Calls Try.prog 74 #[fe f, .int .u64 2, .int .i64 0] w fun e w' => e = .returned (fe (inv5 f)) ∧ Below w.heap.size w w' := by
  have hM := hid fun a b w (ha : T5 a) (hb : T5 b) => mul5_any a b w ha hb
  have hT := hid fun m => pwR_t f (pN - 2) hf m
  have hP := hid fun w => fP_any w
  have hB1 := hid b5_one
  have HF := hid hf
  have hi : inv5 f = pwR f (pN - 2) 255 := rfl
  rw [hi]
  have p2 := hid p2_cells
  have c0 : (cellsW pN)[0]? = some (.int .u64 18446744073709551597) := by rw [p_cells]; rfl
  have HC := hid c0
  obtain ⟨E, hE⟩ : ∃ E, E = pN - 2 := ⟨_, rfl⟩
  rw [← hE] at hT p2 ⊢
  obtain ⟨p, hp⟩ : ∃ p, p = pN := ⟨_, rfl⟩
  rw [← hp] at hP p2 HC
  clear hE hp c0 hi hf
  have iP := hid (iW p)
  have nP := hid (one_cellsW p)
  obtain ⟨w0, hw0, k1, k2, hb0⟩ := entry2 w 64 (cells5 f) 64 (cells5 zero5)
  have hF0 := hid k1
  have hR0 := hid k2
  clear k1 k2
  unfold fe wd at *
  go_enter Try.func74, Try.ntmps74
  go_wp2_with (refine wpList_alloc_new rfl 64 rfl (cells5 zero5) z5 ?_; simp only [Act.put, pvA, pv0, pv1, World.size_alloc])
  rw [← hw0]
  clear hw0
  refine (hP.out _).mono ?_
  rintro en w1 ⟨rfl, hs1⟩
  have hF1 := hid (((hF0.out.step hs1).alloc (.cells (cellsW E) 25)).alloc (.cells (cells5 one5) 64))
  have hR1 := hid (((hR0.out.step hs1).alloc (.cells (cellsW E) 25)).alloc (.cells (cells5 one5) 64))
  have hP1 := hid ((Blk.new 25 w1 (cellsW E)).alloc (.cells (cells5 one5) 64))
  have hO1 := Blk.new 64 (w1.alloc (.cells (cellsW E) 25)) (cells5 one5)
  simp only [World.size_alloc] at hO1
  replace hO1 := hid hO1
  have hc1 := hb0.trans (hs1.mono hb0.size)
  have hb1 := (hc1.alloc hc1.size (.cells (cellsW E) 25)).alloc (by rw [World.size_alloc]; have := hc1.size; omega) (.cells (cells5 one5) 64)
  have kq := HC.out
  have kp := p2.out
  have hlt1 := (hR0.out.step hs1).lt
  clear hF0 hR0 hb0
  go_wp2_with (first | (refine wpList_allocStore 25 10 7 (cellsW p) (cellsW 0) rfl rfl rfl rfl rfl rfl (by decide) (by simp) rfl (by kernel_rfl) (by rw [size_cellsW, size_cellsW]) iP.out nP.out ?_; simp only [Act.put, pvA, pv0, pv1]) | (refine wpList_build_cells rfl 64 _ rfl (cells5 one5) (by first | exact hB1.out | (simp only [List.map_toArray, List.map_cons, List.map_nil]; exact hB1.out)) ?_; simp only [Act.put, pvA, pv0, pv1]) | (refine wpList_allocStore 64 16 8 (cells5 one5) (cells5 zero5) rfl rfl rfl rfl rfl rfl (by decide) (by simp) rfl (by kernel_rfl) rfl (i5 _) (one_cells5 _) ?_; simp only [Act.put, pvA, pv0, pv1]))
  (try simp only [World.size_alloc])
  have hGl : w.heap.size + 2 ≤ w1.heap.size := by omega
  obtain ⟨G, hG⟩ : ∃ G, G = w1.heap.size := ⟨_, rfl⟩
  rw [← hG] at hP1 hO1 hGl ⊢
  clear hG hc1 hs1 kq kp HC p2 iP nP hlt1
  generalize (w1.alloc (.cells (cellsW E) 25)).alloc (.cells (cells5 one5) 64) = w2 at hF1 hR1 hP1 hO1 hb1 ⊢
  go_loopw [9] (fun iv wr => ∃ (n : Nat) (x : Int), n ≤ 255 ∧ x + 1 = (n : Int) ∧ iv = .int .i64 x ∧ Hid (Blk 64 wr w.heap.size (cells5 f)) ∧ Hid (Blk 64 wr (w.heap.size + 1) (cells5 zero5)) ∧ Hid (Blk 25 wr G (cellsW E)) ∧ Hid (Blk 64 wr (G + 1) (cells5 (pwR f E (255 - n)))) ∧ Below w.heap.size w wr)
    (fun iv _ => (intOf iv + 1).toNat)
  case atStart => exact ⟨255, 254, by omega, by omega, rfl, hF1, hR1, hP1, hO1, hb1⟩
  case round =>
    clear hF1 hR1 hP1 hO1 hb1
    obtain ⟨n, x, hn, hx, rfl, hF, hR, hP, hO, hb⟩ := hrel
    cases n with
    | zero =>
      obtain rfl : x = -1 := by omega
      rw [Nat.sub_zero] at hO
      obtain ⟨r, hr⟩ : ∃ r, r = pwR f E 255 := ⟨_, rfl⟩
      rw [← hr] at hO
      have HR := hid hr
      clear hr hx hn hT
      go_wp2_with (first | (refine wpList_get _ _ rfl rfl _ rfl _ _ hO.out g5 (i5 r) ?_; simp only [Act.put, pvA, pv0, pv1]) | (refine wpList_set _ _ _ rfl rfl rfl _ _ rfl rfl _ _ hR.out (i5 r) rfl (one_cells5 r) ?_))
      refine ret_blk (w.heap.size + 1) 64 (cells5 r) rfl rfl (hR.out.set _) g5 (i5 r) rfl ?_
      exact ⟨by rw [HR.out], below_set hb _ (by omega) _⟩
    | succ k =>
      obtain rfl : x = (k : Int) := by omega
      have hk : k ≤ 254 := by omega
      have hki : (k : Int) ≤ 254 := by omega
      clear hn hx
      have hbit := lm_bit E k
      obtain ⟨m, hm⟩ : ∃ m, m = 255 - (k + 1) := ⟨_, rfl⟩
      rw [← hm] at hO
      have hTm := hT.out m
      have hpw : pwR f E (255 - k) = if E / 2 ^ k % 2 = 1 then mul5 (mul5 (pwR f E m) (pwR f E m)) f else mul5 (pwR f E m) (pwR f E m) := by
        rw [show 255 - k = m + 1 by omega, pwR, show 254 - m = k by omega]
      obtain ⟨y, hy⟩ : ∃ y, y = pwR f E m := ⟨_, rfl⟩
      rw [← hy] at hO hTm hpw
      have hM1 := hid fun w => hM.out y y w hTm hTm
      have hTz := mul5_t y y hTm hTm
      obtain ⟨z, hz⟩ : ∃ z, z = mul5 y y := ⟨_, rfl⟩
      rw [← hz] at hM1 hTz hpw
      have HTZ := hid hTz
      clear hm hy hz hTm hTz
      go_wp2_with (refine wpList_get _ _ rfl rfl _ rfl _ _ hO.out g5 (i5 y) ?_; simp only [Act.put, pvA, pv0, pv1])
      refine (hM1.out _).mono ?_
      rintro en w3 ⟨rfl, hs3⟩
      have hF3 := hid ((hF.out.step hs3).other (show w.heap.size ≠ G + 1 by omega) (cells5 z))
      have hR3 := hid ((hR.out.step hs3).other (show w.heap.size + 1 ≠ G + 1 by omega) (cells5 z))
      have hP3 := hid ((hP.out.step hs3).other (show G ≠ G + 1 by omega) (cells5 z))
      have hO2 := hid (hO.out.step hs3)
      have hO3 := hid (hO2.out.set (cells5 z))
      have hb3 := below_set (hb.trans (hs3.mono hb.size)) (G + 1) (by omega) (cells5 z)
      clear hF hR hP hO hb hs3 hM1
      have cP := hP3.out.cell (k / 64) _ (cellsW_at E (k / 64) (by omega))
      have lP := hP3.out.lt
      rcases (show E / 2 ^ k % 2 = 0 ∨ E / 2 ^ k % 2 = 1 by omega) with h0 | h1
      · rw [if_neg (by omega)] at hpw
        rw [h0] at hbit
        have HPW := hid hpw
        clear h0 hpw
        go_wp2_with (refine wpList_set _ _ _ rfl rfl rfl _ _ rfl rfl _ _ hO2.out (i5 z) rfl (one_cells5 z) ?_)
        go_roundw
        case rel => exact ⟨k, (k : Int) - 1, by omega, by omega, by go_num, hF3, hR3, hP3, by rw [HPW.out]; exact hO3, hb3⟩
        case measure => simp [intOf]
      · rw [if_pos h1] at hpw
        rw [h1] at hbit
        have hM2 := hid fun w => hM.out z f w HTZ.out HF.out
        obtain ⟨u, hu⟩ : ∃ u, u = mul5 z f := ⟨_, rfl⟩
        rw [← hu] at hM2 hpw
        have HPW := hid hpw
        clear h1 hpw hu
        go_wp2_with (first | (refine wpList_set _ _ _ rfl rfl rfl _ _ rfl rfl _ _ hO2.out (i5 z) rfl (one_cells5 z) ?_) | (refine wpList_get _ _ rfl rfl _ rfl _ _ hO3.out g5 (i5 z) ?_; simp only [Act.put, pvA, pv0, pv1]) | (refine wpList_get _ _ rfl rfl _ rfl _ _ hF3.out g5 (i5 f) ?_; simp only [Act.put, pvA, pv0, pv1]))
        refine (hM2.out _).mono ?_
        rintro en w5 ⟨rfl, hs5⟩
        have hF5 := hid ((hF3.out.step hs5).other (show w.heap.size ≠ G + 1 by omega) (cells5 u))
        have hR5 := hid ((hR3.out.step hs5).other (show w.heap.size + 1 ≠ G + 1 by omega) (cells5 u))
        have hP5 := hid ((hP3.out.step hs5).other (show G ≠ G + 1 by omega) (cells5 u))
        have hO4 := hid (hO3.out.step hs5)
        have hO5 := hid (hO4.out.set (cells5 u))
        have hb5 := below_set (hb3.trans (hs5.mono hb3.size)) (G + 1) (by omega) (cells5 u)
        clear hF3 hR3 hP3 hO2 hO3 hb3 hs5 hM2 cP lP
        go_wp2_with (refine wpList_set _ _ _ rfl rfl rfl _ _ rfl rfl _ _ hO4.out (i5 u) rfl (one_cells5 u) ?_)
        go_roundw
        case rel => exact ⟨k, (k : Int) - 1, by omega, by omega, by go_num, hF5, hR5, hP5, by rw [HPW.out]; exact hO5, hb5⟩
        case measure => simp [intOf]
end Go.Proofs.Ytejnnghfelpioaa
namespace Go.Proofs.Ytejnnghfelpioaa
open Go.RowKit
structure W4 where
  x : F5
  y : F5
  z : F5
  t : F5
def cells4 (p : W4) : Array Value := #[.int .u64 (p.x.a0 : Int), .int .u64 (p.x.a1 : Int), .int .u64 (p.x.a2 : Int), .int .u64 (p.x.a3 : Int), .int .u64 (p.x.a4 : Int),
  .int .u64 (p.y.a0 : Int), .int .u64 (p.y.a1 : Int), .int .u64 (p.y.a2 : Int), .int .u64 (p.y.a3 : Int), .int .u64 (p.y.a4 : Int),
  .int .u64 (p.z.a0 : Int), .int .u64 (p.z.a1 : Int), .int .u64 (p.z.a2 : Int), .int .u64 (p.z.a3 : Int), .int .u64 (p.z.a4 : Int),
  .int .u64 (p.t.a0 : Int), .int .u64 (p.t.a1 : Int), .int .u64 (p.t.a2 : Int), .int .u64 (p.t.a3 : Int), .int .u64 (p.t.a4 : Int)]
def w4 (p : W4) : Value := .agg (cells4 p)
structure TW (p : W4) : Prop where
  x : T5 p.x
  y : T5 p.y
  z : T5 p.z
  t : T5 p.t
def zero4 : W4 := ⟨zero5, zero5, zero5, zero5⟩
theorem in4 (f : F5) (cs : Array Value) (o : Nat) (h : ∀ j, j < 5 → cs[o + j]? = (cells5 f)[j]?) : ∀ j v, (cells5 f)[j]? = some v → cs[o + j]? = some v := fun j v hv => by
  have hj : j < 5 := (Array.getElem?_eq_some_iff.1 hv).1
  rw [h j hj]; exact hv
theorem at5 {P : Nat → Prop} (h0 : P 0) (h1 : P 1) (h2 : P 2) (h3 : P 3) (h4 : P 4) : ∀ j, j < 5 → P j := fun j hj => by
  match j, hj with
  | 0, _ => exact h0
  | 1, _ => exact h1
  | 2, _ => exact h2
  | 3, _ => exact h3
  | 4, _ => exact h4
theorem in4_x (p : W4) : ∀ j v, (cells5 p.x)[j]? = some v → (cells4 p)[0 + j]? = some v := in4 _ _ _ (at5 (P := fun j => (cells4 p)[0 + j]? = (cells5 p.x)[j]?) rfl rfl rfl rfl rfl)
theorem in4_y (p : W4) : ∀ j v, (cells5 p.y)[j]? = some v → (cells4 p)[5 + j]? = some v := in4 _ _ _ (at5 (P := fun j => (cells4 p)[5 + j]? = (cells5 p.y)[j]?) rfl rfl rfl rfl rfl)
theorem in4_z (p : W4) : ∀ j v, (cells5 p.z)[j]? = some v → (cells4 p)[10 + j]? = some v := in4 _ _ _ (at5 (P := fun j => (cells4 p)[10 + j]? = (cells5 p.z)[j]?) rfl rfl rfl rfl rfl)
theorem in4_t (p : W4) : ∀ j v, (cells5 p.t)[j]? = some v → (cells4 p)[15 + j]? = some v := in4 _ _ _ (at5 (P := fun j => (cells4 p)[15 + j]? = (cells5 p.t)[j]?) rfl rfl rfl rfl rfl)
theorem g4 : aggT Try.prog 66 = true := by kernel_rfl
theorem i4 (p : W4) : (Try.prog.info? 66).map (·.size) = some (cells4 p).size := by kernel_rfl
theorem z4 : (Try.prog.info? 66).bind (·.zero) = some (.agg (cells4 zero4)) := by kernel_rfl
theorem one_cells4 (p : W4) : (cells4 p).all (·.oneCell') = true := by simp [cells4, Value.oneCell']
theorem b4 (x y z t : F5) : Try.prog.built 66 [(0, .agg (cells5 x)), (1, .agg (cells5 y)), (2, .agg (cells5 z)), (3, .agg (cells5 t))] = some (cells4 ⟨x, y, z, t⟩) := by kernel_rfl
structure P2 where
  x : Nat
  y : Nat
def cellsP (p : P2) : Array Value := #[.int .u64 (lm p.x 0), .int .u64 (lm p.x 1), .int .u64 (lm p.x 2), .int .u64 (lm p.x 3), .int .u64 (lm p.y 0), .int .u64 (lm p.y 1), .int .u64 (lm p.y 2), .int .u64 (lm p.y 3)]
def pt (p : P2) : Value := .agg (cellsP p)
def zeroP : P2 := ⟨0, 0⟩
structure LtP (p : P2) : Prop where
  x : p.x < 2 ^ 256
  y : p.y < 2 ^ 256
theorem inP (f : Nat) (cs : Array Value) (o : Nat) (h : ∀ j, j < 4 → cs[o + j]? = (cellsW f)[j]?) : ∀ j v, (cellsW f)[j]? = some v → cs[o + j]? = some v := fun j v hv => by
  have hj : j < 4 := (Array.getElem?_eq_some_iff.1 hv).1
  rw [h j hj]; exact hv
theorem at4 {P : Nat → Prop} (h0 : P 0) (h1 : P 1) (h2 : P 2) (h3 : P 3) : ∀ j, j < 4 → P j := fun j hj => by
  match j, hj with
  | 0, _ => exact h0
  | 1, _ => exact h1
  | 2, _ => exact h2
  | 3, _ => exact h3
theorem inP_x (p : P2) : ∀ j v, (cellsW p.x)[j]? = some v → (cellsP p)[0 + j]? = some v := inP _ _ _ (at4 (P := fun j => (cellsP p)[0 + j]? = (cellsW p.x)[j]?) rfl rfl rfl rfl)
theorem inP_y (p : P2) : ∀ j v, (cellsW p.y)[j]? = some v → (cellsP p)[4 + j]? = some v := inP _ _ _ (at4 (P := fun j => (cellsP p)[4 + j]? = (cellsW p.y)[j]?) rfl rfl rfl rfl)
theorem gPe : aggT Try.prog 44 = true := by kernel_rfl
theorem iPe (p : P2) : (Try.prog.info? 44).map (·.size) = some (cellsP p).size := by kernel_rfl
theorem zPe : (Try.prog.info? 44).bind (·.zero) = some (.agg (cellsP zeroP)) := by kernel_rfl
theorem one_cellsP (p : P2) : (cellsP p).all (·.oneCell') = true := by simp [cellsP, Value.oneCell']
theorem bPe (x y : Nat) : Try.prog.built 44 [(0, .agg (cellsW x)), (1, .agg (cellsW y))] = some (cellsP ⟨x, y⟩) := by kernel_rfl
def qv (p : W4) : Nat × Nat × Nat × Nat := (val5 p.x % pN, val5 p.y % pN, val5 p.z % pN, val5 p.t % pN)
end Go.Proofs.Ytejnnghfelpioaa
namespace Go.Proofs.Ytejnnghfelpioaa
open Go.RowKit
structure G16 where
  a0 : Int
  a1 : Int
  a2 : Int
  a3 : Int
  a4 : Int
  a5 : Int
  a6 : Int
  a7 : Int
  a8 : Int
  a9 : Int
  a10 : Int
  a11 : Int
  a12 : Int
  a13 : Int
  a14 : Int
  a15 : Int
def cellsG (g : G16) : Array Value := #[.int .i64 g.a0, .int .i64 g.a1, .int .i64 g.a2, .int .i64 g.a3, .int .i64 g.a4, .int .i64 g.a5, .int .i64 g.a6, .int .i64 g.a7, .int .i64 g.a8, .int .i64 g.a9, .int .i64 g.a10, .int .i64 g.a11, .int .i64 g.a12, .int .i64 g.a13, .int .i64 g.a14, .int .i64 g.a15]
def G16.l (g : G16) : List Int := [g.a0, g.a1, g.a2, g.a3, g.a4, g.a5, g.a6, g.a7, g.a8, g.a9, g.a10, g.a11, g.a12, g.a13, g.a14, g.a15]
def gf (g : G16) : Value := .agg (cellsG g)
structure F4 where
  x : G16
  y : G16
  z : G16
  t : G16
theorem gPr : aggT Try.prog 43 = true := by kernel_rfl
theorem iPr (p : P2) : (Try.prog.info? 43).map (·.size) = some (cellsP p).size := by kernel_rfl
end Go.Proofs.Ytejnnghfelpioaa
namespace Go.Proofs.Ytejnnghfelpioaa
open Go.RowKit
def dN : Nat := 37095705934669439343138083508754565189542113879843219016388785533085940283555
theorem d_cells : cellsW dN = #[.int .u64 8496970652267935907, .int .u64 31536524315187371, .int .u64 10144147576115030168, .int .u64 5909686906226998899] := by
  have e : ∀ i, i < 4 → lm dN i = if i = 0 then 8496970652267935907 else if i = 1 then 31536524315187371 else if i = 2 then 10144147576115030168 else 5909686906226998899 := by decide +kernel
  unfold cellsW; rw [e 0 (by decide), e 1 (by decide), e 2 (by decide), e 3 (by decide)]; rfl
theorem d_built : Try.prog.built 25 [(0, .int .u64 8496970652267935907), (1, .int .u64 31536524315187371), (2, .int .u64 10144147576115030168), (3, .int .u64 5909686906226998899)] = some (cellsW dN) := by rw [d_cells]; kernel_rfl
theorem dN_lt : dN < 2 ^ 256 := by decide +kernel
def fromW (e f g h : F5) : W4 := ⟨mul5 e f, mul5 g h, mul5 f g, mul5 e h⟩
theorem fromW_t (e f g h : F5) (he : T5 e) (hf : T5 f) (hg : T5 g) (hh : T5 h) : TW (fromW e f g h) := ⟨mul5_t _ _ he hf, mul5_t _ _ hg hh, mul5_t _ _ hf hg, mul5_t _ _ he hh⟩
def d25 : F5 := fOf ((dN + dN) % 2 ^ 256)
theorem d25_t : T5 d25 := fOf_t _ (Nat.mod_lt _ (by decide))
def plusW (p q : W4) : W4 :=
  fromW (sub5 (mul5 (add5 p.y p.x) (add5 q.y q.x)) (mul5 (sub5 p.y p.x) (sub5 q.y q.x)))
    (sub5 (add5 (mul5 p.z q.z) (mul5 p.z q.z)) (mul5 (mul5 p.t q.t) d25))
    (add5 (add5 (mul5 p.z q.z) (mul5 p.z q.z)) (mul5 (mul5 p.t q.t) d25))
    (add5 (mul5 (add5 p.y p.x) (add5 q.y q.x)) (mul5 (sub5 p.y p.x) (sub5 q.y q.x)))
theorem plusW_t (p q : W4) (hp : TW p) (hq : TW q) : TW (plusW p q) := by
  have a := mul5_t _ _ (sub5_t _ _ hp.y hp.x) (sub5_t _ _ hq.y hq.x)
  have b := mul5_t _ _ (add5_t _ _ hp.y hp.x) (add5_t _ _ hq.y hq.x)
  have c := mul5_t _ _ (mul5_t _ _ hp.t hq.t) d25_t
  have z := mul5_t _ _ hp.z hq.z
  exact fromW_t _ _ _ _ (sub5_t _ _ b a) (sub5_t _ _ (add5_t _ _ z z) c) (add5_t _ _ (add5_t _ _ z z) c) (add5_t _ _ b a)
def twiceW (p : W4) : W4 :=
  fromW (sub5 (add5 (mul5 p.x p.x) (mul5 p.y p.y)) (mul5 (add5 p.x p.y) (add5 p.x p.y)))
    (add5 (add5 (mul5 p.z p.z) (mul5 p.z p.z)) (sub5 (mul5 p.x p.x) (mul5 p.y p.y)))
    (sub5 (mul5 p.x p.x) (mul5 p.y p.y)) (add5 (mul5 p.x p.x) (mul5 p.y p.y))
theorem twiceW_t (p : W4) (hp : TW p) : TW (twiceW p) := by
  have a := mul5_t _ _ hp.x hp.x
  have b := mul5_t _ _ hp.y hp.y
  have c := mul5_t _ _ hp.z hp.z
  have s := add5_t _ _ hp.x hp.y
  exact fromW_t _ _ _ _ (sub5_t _ _ (add5_t _ _ a b) (mul5_t _ _ s s)) (add5_t _ _ (add5_t _ _ c c) (sub5_t _ _ a b)) (sub5_t _ _ a b) (add5_t _ _ a b)
def widenW (p : P2) : W4 := ⟨fOf p.x, fOf p.y, one5, mul5 (fOf p.x) (fOf p.y)⟩
theorem widenW_t (p : P2) (hp : LtP p) : TW (widenW p) := ⟨fOf_t _ hp.x, fOf_t _ hp.y, t5_one, mul5_t _ _ (fOf_t _ hp.x) (fOf_t _ hp.y)⟩
def noneW : W4 := ⟨zero5, one5, one5, zero5⟩
theorem noneW_t : TW noneW := ⟨t5_zero, t5_one, t5_one, t5_zero⟩
def pointW (p : W4) : P2 := ⟨val5 (mul5 p.x (inv5 p.z)) % pN, val5 (mul5 p.y (inv5 p.z)) % pN⟩
theorem bNone : Try.prog.built 66 [(1, .agg (cells5 one5)), (2, .agg (cells5 one5))] = some (cells4 noneW) := by kernel_rfl
theorem d_any (w : World) : Calls Try.prog 38 #[] w fun e w' => e = .returned (wd dN) ∧ Below w.heap.size w w' := by
  have hC0 := hid (ArrW.new 25 w 0)
  have hb0 : Below w.heap.size w (w.alloc (.cells (cellsW 0) 25)) := (Below.refl _ _).alloc (Nat.le_refl _) _
  have hB := hid d_built
  obtain ⟨x, hx⟩ : ∃ x, x = dN := ⟨_, rfl⟩
  rw [← hx] at hB ⊢
  clear hx
  unfold wd
  have iX := hid (iW x)
  have nX := hid (one_cellsW x)
  go_enter Try.func38, Try.ntmps38
  go_wp2_with (first | (refine wpList_alloc_new rfl 25 rfl (cellsW 0) zWd ?_; simp only [Act.put, pvA, pv0, pv1, World.size_alloc]) | (refine wpList_buildStore 25 _ (.tmp 0) 1 (cellsW x) _ rfl rfl rfl rfl rfl rfl (by simp) (by first | exact hB.out | (simp only [List.map_toArray, List.map_cons, List.map_nil]; exact hB.out)) rfl 25 _ hC0.out iX.out rfl nX.out ?_; simp only [Act.put, pvA, pv0, pv1]))
  refine bodyPost_ret (results_cell_row rfl _ _ w.heap.size 25 (cellsW x) (0, 0) _ rfl (heap_setRow' _ _ _ _ _ hC0.out) uWd rfl iX.out) rfl ⟨rfl, below_setRow' hb0 _ (Nat.le_refl _) _⟩
set_option maxRecDepth 100000 in
set_option maxHeartbeats 4000000 in
theorem none_any (w : World) : Calls Try.prog 54 #[] w fun e w' => e = .returned (w4 noneW) ∧ Below w.heap.size w w' := by
  unfold w4
  obtain ⟨w0, hw0, k0, hbl0⟩ := entry1 w 66 (cells4 zero4)
  have hb0_0 := hid k0
  clear k0
  go_enter Try.func54, Try.ntmps54
  (repeat ((fail_if_success (with_reducible refine Go.at_region ?_)); go_step))
  refine wp_region_lit ?_
  (refine wpList_alloc_new rfl 66 rfl (cells4 zero4) z4 ?_; simp only [Act.put, pvA, pv0, pv1]; (try simp only [World.size_alloc]))
  refine wpList_nil ?_
  rw [← hw0]
  clear hw0
  (repeat ((fail_if_success (with_reducible refine Go.at_region ?_)); go_step))
  refine list_tail 3 ?_
  simp only [List.take_succ_cons, List.take_zero]
  iterate 2 (refine calm_build rfl 64 _ rfl (cells5 one5) (by first | (simp only [List.map_toArray, List.map_cons, List.map_nil]; exact b5_one) | exact b5_one) ?_; simp only [Act.put, pvA, pv0, pv1])
  (refine calm_build rfl 66 _ rfl (cells4 noneW) (by first | (simp only [List.map_toArray, List.map_cons, List.map_nil]; exact bNone) | exact bNone) ?_; simp only [Act.put, pvA, pv0, pv1])
  refine calm_nil ?_
  intro wx1 hx1
  simp only [List.drop_succ_cons, List.drop_zero]
  (try simp only [Act.put, pvA, pv0, pv1])
  have fb0 := hb0_0.out.step hx1
  have hbb := hbl0.trans (hx1.mono hbl0.size)
  refine wpList_set _ _ _ rfl rfl rfl _ _ rfl rfl _ _ fb0 (i4 noneW) rfl (one_cells4 noneW) ?_
  replace fb0 := fb0.set (cells4 noneW)
  replace hbb := below_set hbb w.heap.size (by omega) (cells4 noneW)
  refine wpList_nil ?_
  obtain ⟨w1, hw⟩ : ∃ z, z = (wx1.setRow w.heap.size (cells4 noneW)) := ⟨_, rfl⟩
  rw [← hw] at hbb fb0 ⊢
  have hb0_1 := hid fb0
  have hbl1 := hbb
  clear hw hbb fb0 hx1 hbl0 hb0_0 
  (repeat ((fail_if_success (with_reducible refine Go.at_region ?_)); go_step))
  refine ret_blk w.heap.size 66 (cells4 noneW) rfl rfl hb0_1.out g4 (i4 noneW) rfl ?_
  exact ⟨rfl, hbl1⟩
set_option maxRecDepth 100000 in
set_option maxHeartbeats 4000000 in
theorem from_any (a b c d : F5) (w : World) (ha : T5 a) (hb : T5 b) (hc : T5 c) (hd : T5 d) : Calls Try.prog 73 #[fe a, fe b, fe c, fe d] w fun e w' => e = .returned (w4 (fromW a b c d)) ∧ Below w.heap.size w w' := by
  have c1 := hid fun w => mul5_any a b w ha hb
  have t1 := mul5_t a b ha hb
  obtain ⟨r1, e1⟩ : ∃ r, r = mul5 a b := ⟨_, rfl⟩
  rw [← e1] at c1 t1
  replace t1 := hid t1
  have E1 := hid e1
  clear e1
  have c2 := hid fun w => mul5_any c d w hc hd
  have t2 := mul5_t c d hc hd
  obtain ⟨r2, e2⟩ : ∃ r, r = mul5 c d := ⟨_, rfl⟩
  rw [← e2] at c2 t2
  replace t2 := hid t2
  have E2 := hid e2
  clear e2
  have c3 := hid fun w => mul5_any b c w hb hc
  have t3 := mul5_t b c hb hc
  obtain ⟨r3, e3⟩ : ∃ r, r = mul5 b c := ⟨_, rfl⟩
  rw [← e3] at c3 t3
  replace t3 := hid t3
  have E3 := hid e3
  clear e3
  have c4 := hid fun w => mul5_any a d w ha hd
  have t4 := mul5_t a d ha hd
  obtain ⟨r4, e4⟩ : ∃ r, r = mul5 a d := ⟨_, rfl⟩
  rw [← e4] at c4 t4
  replace t4 := hid t4
  have E4 := hid e4
  clear e4
  clear ha hb hc hd
  unfold fe w4 at *
  obtain ⟨w0, hw0, k4, k5, k6, k7, k8, hbl0⟩ := entry5 w 64 (cells5 a) 64 (cells5 b) 64 (cells5 c) 64 (cells5 d) 66 (cells4 zero4)
  have hb4_0 := hid k4
  have hb5_0 := hid k5
  have hb6_0 := hid k6
  have hb7_0 := hid k7
  have hb8_0 := hid k8
  clear k4 k5 k6 k7 k8
  go_enter Try.func73, Try.ntmps73
  (repeat ((fail_if_success (with_reducible refine Go.at_region ?_)); go_step))
  refine wp_region_lit ?_
  (refine wpList_box 64 (.tmp 0) rfl rfl (cells5 a) rfl ?_; simp only [Act.put, pvA, pv0, pv1]; (try simp only [World.size_alloc]))
  (refine wpList_box 64 (.tmp 1) rfl rfl (cells5 b) rfl ?_; simp only [Act.put, pvA, pv0, pv1]; (try simp only [World.size_alloc]))
  (refine wpList_box 64 (.tmp 2) rfl rfl (cells5 c) rfl ?_; simp only [Act.put, pvA, pv0, pv1]; (try simp only [World.size_alloc]))
  (refine wpList_box 64 (.tmp 3) rfl rfl (cells5 d) rfl ?_; simp only [Act.put, pvA, pv0, pv1]; (try simp only [World.size_alloc]))
  (refine wpList_alloc_new rfl 66 rfl (cells4 zero4) z4 ?_; simp only [Act.put, pvA, pv0, pv1]; (try simp only [World.size_alloc]))
  refine wpList_nil ?_
  rw [← hw0]
  clear hw0
  (repeat ((fail_if_success (with_reducible refine Go.at_region ?_)); go_step))
  refine draw_tail 13 (by kernel_rfl) (by kernel_rfl) (by kernel_rfl) ?_
  simp only [List.take_succ_cons, List.take_zero]
  (refine calm_whole rfl _ _ rfl _ rfl _ _ hb4_0.out g5 (i5 a) ?_; simp only [Act.put, pvA, pv0, pv1])
  (refine calm_whole rfl _ _ rfl _ rfl _ _ hb5_0.out g5 (i5 b) ?_; simp only [Act.put, pvA, pv0, pv1])
  (apply calm_on rfl; (focus (intro W hB; go_simp; refine (c1.out W).mono ?_; rintro _ _ ⟨rfl, hb'⟩; exact ⟨rfl, hb'⟩)); simp only [Act.put, pvA, pv0, pv1])
  (refine calm_whole rfl _ _ rfl _ rfl _ _ hb6_0.out g5 (i5 c) ?_; simp only [Act.put, pvA, pv0, pv1])
  (refine calm_whole rfl _ _ rfl _ rfl _ _ hb7_0.out g5 (i5 d) ?_; simp only [Act.put, pvA, pv0, pv1])
  (apply calm_on rfl; (focus (intro W hB; go_simp; refine (c2.out W).mono ?_; rintro _ _ ⟨rfl, hb'⟩; exact ⟨rfl, hb'⟩)); simp only [Act.put, pvA, pv0, pv1])
  (refine calm_whole rfl _ _ rfl _ rfl _ _ hb5_0.out g5 (i5 b) ?_; simp only [Act.put, pvA, pv0, pv1])
  (refine calm_whole rfl _ _ rfl _ rfl _ _ hb6_0.out g5 (i5 c) ?_; simp only [Act.put, pvA, pv0, pv1])
  (apply calm_on rfl; (focus (intro W hB; go_simp; refine (c3.out W).mono ?_; rintro _ _ ⟨rfl, hb'⟩; exact ⟨rfl, hb'⟩)); simp only [Act.put, pvA, pv0, pv1])
  (refine calm_whole rfl _ _ rfl _ rfl _ _ hb4_0.out g5 (i5 a) ?_; simp only [Act.put, pvA, pv0, pv1])
  (refine calm_whole rfl _ _ rfl _ rfl _ _ hb7_0.out g5 (i5 d) ?_; simp only [Act.put, pvA, pv0, pv1])
  (apply calm_on rfl; (focus (intro W hB; go_simp; refine (c4.out W).mono ?_; rintro _ _ ⟨rfl, hb'⟩; exact ⟨rfl, hb'⟩)); simp only [Act.put, pvA, pv0, pv1])
  (refine calm_build rfl 66 _ rfl (cells4 ⟨r1, r2, r3, r4⟩) (by first | (simp only [List.map_toArray, List.map_cons, List.map_nil]; exact (b4 r1 r2 r3 r4)) | exact (b4 r1 r2 r3 r4)) ?_; simp only [Act.put, pvA, pv0, pv1])
  refine calm_nil ?_
  intro wx1 hx1
  simp only [List.drop_succ_cons, List.drop_zero]
  (try simp only [Act.put, pvA, pv0, pv1])
  have fb4 := hb4_0.out.step hx1
  have fb5 := hb5_0.out.step hx1
  have fb6 := hb6_0.out.step hx1
  have fb7 := hb7_0.out.step hx1
  have fb8 := hb8_0.out.step hx1
  have hbb := hbl0.trans (hx1.mono hbl0.size)
  refine wpList_set _ _ _ rfl rfl rfl _ _ rfl rfl _ _ fb8 (i4 ⟨r1, r2, r3, r4⟩) rfl (one_cells4 ⟨r1, r2, r3, r4⟩) ?_
  replace fb4 := fb4.other (show w.heap.size ≠ (w.heap.size + 1 + 1 + 1 + 1) by omega) (cells4 ⟨r1, r2, r3, r4⟩)
  replace fb5 := fb5.other (show (w.heap.size + 1) ≠ (w.heap.size + 1 + 1 + 1 + 1) by omega) (cells4 ⟨r1, r2, r3, r4⟩)
  replace fb6 := fb6.other (show (w.heap.size + 1 + 1) ≠ (w.heap.size + 1 + 1 + 1 + 1) by omega) (cells4 ⟨r1, r2, r3, r4⟩)
  replace fb7 := fb7.other (show (w.heap.size + 1 + 1 + 1) ≠ (w.heap.size + 1 + 1 + 1 + 1) by omega) (cells4 ⟨r1, r2, r3, r4⟩)
  replace fb8 := fb8.set (cells4 ⟨r1, r2, r3, r4⟩)
  replace hbb := below_set hbb (w.heap.size + 1 + 1 + 1 + 1) (by omega) (cells4 ⟨r1, r2, r3, r4⟩)
  refine wpList_nil ?_
  obtain ⟨w1, hw⟩ : ∃ z, z = (wx1.setRow (w.heap.size + 1 + 1 + 1 + 1) (cells4 ⟨r1, r2, r3, r4⟩)) := ⟨_, rfl⟩
  rw [← hw] at hbb fb4 fb5 fb6 fb7 fb8 ⊢
  have hb4_1 := hid fb4
  have hb5_1 := hid fb5
  have hb6_1 := hid fb6
  have hb7_1 := hid fb7
  have hb8_1 := hid fb8
  have hbl1 := hbb
  clear hw hbb fb4 fb5 fb6 fb7 fb8 hx1 hbl0 hb4_0 hb5_0 hb6_0 hb7_0 hb8_0 
  (repeat ((fail_if_success (with_reducible refine Go.at_region ?_)); go_step))
  refine ret_blk (w.heap.size + 1 + 1 + 1 + 1) 66 (cells4 ⟨r1, r2, r3, r4⟩) rfl rfl hb8_1.out g4 (i4 ⟨r1, r2, r3, r4⟩) rfl ?_
  exact ⟨(by rw [E4.out, E3.out, E2.out, E1.out]; first | done | rfl), hbl1⟩
set_option maxRecDepth 100000 in
set_option maxHeartbeats 4000000 in
theorem widen_any (p : P2) (w : World) (hp : LtP p) : Calls Try.prog 26 #[pt p] w fun e w' => e = .returned (w4 (widenW p)) ∧ Below w.heap.size w w' := by
  have c1 := hid fun w => feOf_any p.x w hp.x
  have t1 := fOf_t p.x hp.x
  obtain ⟨r1, e1⟩ : ∃ r, r = fOf p.x := ⟨_, rfl⟩
  rw [← e1] at c1 t1
  replace t1 := hid t1
  have E1 := hid e1
  clear e1
  have c2 := hid fun w => feOf_any p.y w hp.y
  have t2 := fOf_t p.y hp.y
  obtain ⟨r2, e2⟩ : ∃ r, r = fOf p.y := ⟨_, rfl⟩
  rw [← e2] at c2 t2
  replace t2 := hid t2
  have E2 := hid e2
  clear e2
  have c3 := hid fun w => mul5_any r1 r2 w t1.out t2.out
  have t3 := mul5_t r1 r2 t1.out t2.out
  obtain ⟨r3, e3⟩ : ∃ r, r = mul5 r1 r2 := ⟨_, rfl⟩
  rw [← e3] at c3 t3
  replace t3 := hid t3
  have E3 := hid e3
  clear e3
  clear hp
  unfold fe w4 pt wd at *
  obtain ⟨w0, hw0, k1, k2, hbl0⟩ := entry2 w 44 (cellsP p) 66 (cells4 zero4)
  have hb1_0 := hid k1
  have hb2_0 := hid k2
  clear k1 k2
  go_enter Try.func26, Try.ntmps26
  (repeat ((fail_if_success (with_reducible refine Go.at_region ?_)); go_step))
  refine wp_region_lit ?_
  (refine wpList_box 44 (.tmp 0) rfl rfl (cellsP p) rfl ?_; simp only [Act.put, pvA, pv0, pv1]; (try simp only [World.size_alloc]))
  (refine wpList_alloc_new rfl 66 rfl (cells4 zero4) z4 ?_; simp only [Act.put, pvA, pv0, pv1]; (try simp only [World.size_alloc]))
  refine wpList_nil ?_
  rw [← hw0]
  clear hw0
  (repeat ((fail_if_success (with_reducible refine Go.at_region ?_)); go_step))
  refine draw_new2 6 _ _ rfl 64 64 (cells5 zero5) (cells5 zero5) 3 4 rfl rfl rfl (by simp) z5 rfl rfl rfl (by simp) z5 (by decide) (by kernel_rfl) (by kernel_rfl) (by kernel_rfl) (by kernel_rfl) ?_
  simp only [List.take_succ_cons, List.take_zero]
  (apply calm_on rfl; (focus (intro W hB; go_simp; exact ⟨rfl, Below.refl _ _⟩)); simp only [Act.put, pvA, pv0, pv1])
  (refine calm_part rfl _ _ rfl _ _ rfl _ _ (cellsW (p).x) hb1_0.out (inP_x p) gWd (iW (p).x) ?_; simp only [Act.put, pvA, pv0, pv1])
  (apply calm_on rfl; (focus (intro W hB; go_simp; refine (c1.out W).mono ?_; rintro _ _ ⟨rfl, hb'⟩; exact ⟨rfl, hb'⟩)); simp only [Act.put, pvA, pv0, pv1])
  (apply calm_on rfl; (focus (intro W hB; go_simp; exact ⟨rfl, Below.refl _ _⟩)); simp only [Act.put, pvA, pv0, pv1])
  (refine calm_part rfl _ _ rfl _ _ rfl _ _ (cellsW (p).y) hb1_0.out (inP_y p) gWd (iW (p).y) ?_; simp only [Act.put, pvA, pv0, pv1])
  (apply calm_on rfl; (focus (intro W hB; go_simp; refine (c2.out W).mono ?_; rintro _ _ ⟨rfl, hb'⟩; exact ⟨rfl, hb'⟩)); simp only [Act.put, pvA, pv0, pv1])
  refine calm_nil ?_
  intro bk3 bk4 wx1 hle3 hle4 hne3 hx1 hn3 hn4
  simp only [List.drop_succ_cons, List.drop_zero]
  (try simp only [Act.put, pvA, pv0, pv1])
  have fb1 := hb1_0.out.step hx1
  have fb2 := hb2_0.out.step hx1
  have hbb := hbl0.trans (hx1.mono hbl0.size)
  have fb3 := hn3
  have fb4 := hn4
  have ne1_3 : w.heap.size ≠ bk3 := by have := hb1_0.out.lt; omega
  have ne2_3 : (w.heap.size + 1) ≠ bk3 := by have := hb2_0.out.lt; omega
  have ne1_4 : w.heap.size ≠ bk4 := by have := hb1_0.out.lt; omega
  have ne2_4 : (w.heap.size + 1) ≠ bk4 := by have := hb2_0.out.lt; omega
  have ge3 : w.heap.size ≤ bk3 := Nat.le_trans hbl0.size hle3
  have ge4 : w.heap.size ≤ bk4 := Nat.le_trans hbl0.size hle4
  refine wpList_set _ _ _ rfl rfl rfl _ _ rfl rfl _ _ fb3 (i5 r1) rfl (one_cells5 r1) ?_
  replace fb1 := fb1.other ne1_3 (cells5 r1)
  replace fb2 := fb2.other ne2_3 (cells5 r1)
  replace fb3 := fb3.set (cells5 r1)
  replace fb4 := fb4.other (Ne.symm hne3) (cells5 r1)
  replace hbb := below_set hbb bk3 (ge3) (cells5 r1)
  refine wpList_set _ _ _ rfl rfl rfl _ _ rfl rfl _ _ fb4 (i5 r2) rfl (one_cells5 r2) ?_
  replace fb1 := fb1.other ne1_4 (cells5 r2)
  replace fb2 := fb2.other ne2_4 (cells5 r2)
  replace fb3 := fb3.other hne3 (cells5 r2)
  replace fb4 := fb4.set (cells5 r2)
  replace hbb := below_set hbb bk4 (ge4) (cells5 r2)
  refine wpList_nil ?_
  obtain ⟨w1, hw⟩ : ∃ z, z = ((wx1.setRow bk3 (cells5 r1)).setRow bk4 (cells5 r2)) := ⟨_, rfl⟩
  rw [← hw] at hbb fb1 fb2 fb3 fb4 ⊢
  have hb1_1 := hid fb1
  have hb2_1 := hid fb2
  have hb3_1 := hid fb3
  have hb4_1 := hid fb4
  have hbl1 := hbb
  clear hw hbb fb1 fb2 fb3 fb4 hx1 hbl0 hb1_0 hb2_0 hle3 hn3 hle4 hn4
  (repeat ((fail_if_success (with_reducible refine Go.at_region ?_)); go_step))
  refine draw_tail 7 (by kernel_rfl) (by kernel_rfl) (by kernel_rfl) ?_
  simp only [List.take_succ_cons, List.take_zero]
  (refine calm_whole rfl _ _ rfl _ rfl _ _ hb3_1.out g5 (i5 r1) ?_; simp only [Act.put, pvA, pv0, pv1])
  (refine calm_whole rfl _ _ rfl _ rfl _ _ hb4_1.out g5 (i5 r2) ?_; simp only [Act.put, pvA, pv0, pv1])
  (refine calm_build rfl 64 _ rfl (cells5 one5) (by first | (simp only [List.map_toArray, List.map_cons, List.map_nil]; exact b5_one) | exact b5_one) ?_; simp only [Act.put, pvA, pv0, pv1])
  (refine calm_whole rfl _ _ rfl _ rfl _ _ hb3_1.out g5 (i5 r1) ?_; simp only [Act.put, pvA, pv0, pv1])
  (refine calm_whole rfl _ _ rfl _ rfl _ _ hb4_1.out g5 (i5 r2) ?_; simp only [Act.put, pvA, pv0, pv1])
  (apply calm_on rfl; (focus (intro W hB; go_simp; refine (c3.out W).mono ?_; rintro _ _ ⟨rfl, hb'⟩; exact ⟨rfl, hb'⟩)); simp only [Act.put, pvA, pv0, pv1])
  (refine calm_build rfl 66 _ rfl (cells4 ⟨r1, r2, one5, r3⟩) (by first | (simp only [List.map_toArray, List.map_cons, List.map_nil]; exact (b4 r1 r2 one5 r3)) | exact (b4 r1 r2 one5 r3)) ?_; simp only [Act.put, pvA, pv0, pv1])
  refine calm_nil ?_
  intro wx2 hx2
  simp only [List.drop_succ_cons, List.drop_zero]
  (try simp only [Act.put, pvA, pv0, pv1])
  have fb1 := hb1_1.out.step hx2
  have fb2 := hb2_1.out.step hx2
  have fb3 := hb3_1.out.step hx2
  have fb4 := hb4_1.out.step hx2
  have hbb := hbl1.trans (hx2.mono hbl1.size)
  refine wpList_set _ _ _ rfl rfl rfl _ _ rfl rfl _ _ fb2 (i4 ⟨r1, r2, one5, r3⟩) rfl (one_cells4 ⟨r1, r2, one5, r3⟩) ?_
  replace fb1 := fb1.other (show w.heap.size ≠ (w.heap.size + 1) by omega) (cells4 ⟨r1, r2, one5, r3⟩)
  replace fb2 := fb2.set (cells4 ⟨r1, r2, one5, r3⟩)
  replace fb3 := fb3.other (Ne.symm ne2_3) (cells4 ⟨r1, r2, one5, r3⟩)
  replace fb4 := fb4.other (Ne.symm ne2_4) (cells4 ⟨r1, r2, one5, r3⟩)
  replace hbb := below_set hbb (w.heap.size + 1) (by omega) (cells4 ⟨r1, r2, one5, r3⟩)
  refine wpList_nil ?_
  obtain ⟨w2, hw⟩ : ∃ z, z = (wx2.setRow (w.heap.size + 1) (cells4 ⟨r1, r2, one5, r3⟩)) := ⟨_, rfl⟩
  rw [← hw] at hbb fb1 fb2 fb3 fb4 ⊢
  have hb1_2 := hid fb1
  have hb2_2 := hid fb2
  have hb3_2 := hid fb3
  have hb4_2 := hid fb4
  have hbl2 := hbb
  clear hw hbb fb1 fb2 fb3 fb4 hx2 hbl1 hb1_1 hb2_1 hb3_1 hb4_1 
  (repeat ((fail_if_success (with_reducible refine Go.at_region ?_)); go_step))
  refine ret_blk (w.heap.size + 1) 66 (cells4 ⟨r1, r2, one5, r3⟩) rfl rfl hb2_2.out g4 (i4 ⟨r1, r2, one5, r3⟩) rfl ?_
  exact ⟨(by rw [E3.out, E2.out, E1.out]; first | done | rfl), hbl2⟩
set_option maxRecDepth 100000 in
set_option maxHeartbeats 4000000 in
theorem plusW_any (p q : W4) (w : World) (hp : TW p) (hq : TW q) : Calls Try.prog 45 #[w4 p, w4 q] w fun e w' => e = .returned (w4 (plusW p q)) ∧ Below w.heap.size w w' := by
  have c1 := hid fun w => sub5_any p.y p.x w hp.y hp.x
  have t1 := sub5_t p.y p.x hp.y hp.x
  obtain ⟨r1, e1⟩ : ∃ r, r = sub5 p.y p.x := ⟨_, rfl⟩
  rw [← e1] at c1 t1
  replace t1 := hid t1
  have E1 := hid e1
  clear e1
  have c2 := hid fun w => sub5_any q.y q.x w hq.y hq.x
  have t2 := sub5_t q.y q.x hq.y hq.x
  obtain ⟨r2, e2⟩ : ∃ r, r = sub5 q.y q.x := ⟨_, rfl⟩
  rw [← e2] at c2 t2
  replace t2 := hid t2
  have E2 := hid e2
  clear e2
  have c3 := hid fun w => mul5_any r1 r2 w t1.out t2.out
  have t3 := mul5_t r1 r2 t1.out t2.out
  obtain ⟨r3, e3⟩ : ∃ r, r = mul5 r1 r2 := ⟨_, rfl⟩
  rw [← e3] at c3 t3
  replace t3 := hid t3
  have E3 := hid e3
  clear e3
  have c4 := hid fun w => add5_any p.y p.x w hp.y hp.x
  have t4 := add5_t p.y p.x hp.y hp.x
  obtain ⟨r4, e4⟩ : ∃ r, r = add5 p.y p.x := ⟨_, rfl⟩
  rw [← e4] at c4 t4
  replace t4 := hid t4
  have E4 := hid e4
  clear e4
  have c5 := hid fun w => add5_any q.y q.x w hq.y hq.x
  have t5 := add5_t q.y q.x hq.y hq.x
  obtain ⟨r5, e5⟩ : ∃ r, r = add5 q.y q.x := ⟨_, rfl⟩
  rw [← e5] at c5 t5
  replace t5 := hid t5
  have E5 := hid e5
  clear e5
  have c6 := hid fun w => mul5_any r4 r5 w t4.out t5.out
  have t6 := mul5_t r4 r5 t4.out t5.out
  obtain ⟨r6, e6⟩ : ∃ r, r = mul5 r4 r5 := ⟨_, rfl⟩
  rw [← e6] at c6 t6
  replace t6 := hid t6
  have E6 := hid e6
  clear e6
  have c7 := hid fun w => mul5_any p.t q.t w hp.t hq.t
  have t7 := mul5_t p.t q.t hp.t hq.t
  obtain ⟨r7, e7⟩ : ∃ r, r = mul5 p.t q.t := ⟨_, rfl⟩
  rw [← e7] at c7 t7
  replace t7 := hid t7
  have E7 := hid e7
  clear e7
  have cd := hid fun w => d_any w
  have c8 := hid fun w => wadd_any dN dN w dN_lt dN_lt
  obtain ⟨r8, e8⟩ : ∃ r, r = (dN + dN) % 2 ^ 256 := ⟨_, rfl⟩
  rw [← e8] at c8
  have E8 := hid e8
  clear e8
  have hs256 : r8 < 2 ^ 256 := by rw [E8.out]; exact Nat.mod_lt _ (by decide)
  have c9 := hid fun w => feOf_any r8 w hs256
  have t9 := fOf_t r8 hs256
  obtain ⟨r9, e9⟩ : ∃ r, r = fOf r8 := ⟨_, rfl⟩
  rw [← e9] at c9 t9
  replace t9 := hid t9
  have E9 := hid e9
  clear e9
  have c10 := hid fun w => mul5_any r7 r9 w t7.out t9.out
  have t10 := mul5_t r7 r9 t7.out t9.out
  obtain ⟨r10, e10⟩ : ∃ r, r = mul5 r7 r9 := ⟨_, rfl⟩
  rw [← e10] at c10 t10
  replace t10 := hid t10
  have E10 := hid e10
  clear e10
  have c11 := hid fun w => mul5_any p.z q.z w hp.z hq.z
  have t11 := mul5_t p.z q.z hp.z hq.z
  obtain ⟨r11, e11⟩ : ∃ r, r = mul5 p.z q.z := ⟨_, rfl⟩
  rw [← e11] at c11 t11
  replace t11 := hid t11
  have E11 := hid e11
  clear e11
  have c12 := hid fun w => add5_any r11 r11 w t11.out t11.out
  have t12 := add5_t r11 r11 t11.out t11.out
  obtain ⟨r12, e12⟩ : ∃ r, r = add5 r11 r11 := ⟨_, rfl⟩
  rw [← e12] at c12 t12
  replace t12 := hid t12
  have E12 := hid e12
  clear e12
  have c13 := hid fun w => sub5_any r6 r3 w t6.out t3.out
  have t13 := sub5_t r6 r3 t6.out t3.out
  obtain ⟨r13, e13⟩ : ∃ r, r = sub5 r6 r3 := ⟨_, rfl⟩
  rw [← e13] at c13 t13
  replace t13 := hid t13
  have E13 := hid e13
  clear e13
  have c14 := hid fun w => sub5_any r12 r10 w t12.out t10.out
  have t14 := sub5_t r12 r10 t12.out t10.out
  obtain ⟨r14, e14⟩ : ∃ r, r = sub5 r12 r10 := ⟨_, rfl⟩
  rw [← e14] at c14 t14
  replace t14 := hid t14
  have E14 := hid e14
  clear e14
  have c15 := hid fun w => add5_any r12 r10 w t12.out t10.out
  have t15 := add5_t r12 r10 t12.out t10.out
  obtain ⟨r15, e15⟩ : ∃ r, r = add5 r12 r10 := ⟨_, rfl⟩
  rw [← e15] at c15 t15
  replace t15 := hid t15
  have E15 := hid e15
  clear e15
  have c16 := hid fun w => add5_any r6 r3 w t6.out t3.out
  have t16 := add5_t r6 r3 t6.out t3.out
  obtain ⟨r16, e16⟩ : ∃ r, r = add5 r6 r3 := ⟨_, rfl⟩
  rw [← e16] at c16 t16
  replace t16 := hid t16
  have E16 := hid e16
  clear e16
  have c17 := hid fun w => from_any r13 r14 r15 r16 w t13.out t14.out t15.out t16.out
  obtain ⟨r17, e17⟩ : ∃ r, r = fromW r13 r14 r15 r16 := ⟨_, rfl⟩
  rw [← e17] at c17
  have E17 := hid e17
  clear e17
  clear hp hq hs256
  unfold fe w4 wd at *
  obtain ⟨w0, hw0, k2, k3, k4, hbl0⟩ := entry3 w 66 (cells4 p) 66 (cells4 q) 66 (cells4 zero4)
  have hb2_0 := hid k2
  have hb3_0 := hid k3
  have hb4_0 := hid k4
  clear k2 k3 k4
  go_enter Try.func45, Try.ntmps45
  (repeat ((fail_if_success (with_reducible refine Go.at_region ?_)); go_step))
  refine wp_region_lit ?_
  (refine wpList_box 66 (.tmp 0) rfl rfl (cells4 p) rfl ?_; simp only [Act.put, pvA, pv0, pv1]; (try simp only [World.size_alloc]))
  (refine wpList_box 66 (.tmp 1) rfl rfl (cells4 q) rfl ?_; simp only [Act.put, pvA, pv0, pv1]; (try simp only [World.size_alloc]))
  (refine wpList_alloc_new rfl 66 rfl (cells4 zero4) z4 ?_; simp only [Act.put, pvA, pv0, pv1]; (try simp only [World.size_alloc]))
  refine wpList_nil ?_
  rw [← hw0]
  clear hw0
  (repeat ((fail_if_success (with_reducible refine Go.at_region ?_)); go_step))
  refine draw_new1 11 _ rfl 64 (cells5 zero5) 5 rfl rfl rfl (by simp) z5 (by kernel_rfl) (by kernel_rfl) (by kernel_rfl) ?_
  simp only [List.take_succ_cons, List.take_zero]
  (apply calm_on rfl; (focus (intro W hB; go_simp; exact ⟨rfl, Below.refl _ _⟩)); simp only [Act.put, pvA, pv0, pv1])
  (refine calm_part rfl _ _ rfl _ _ rfl _ _ (cells5 (p).y) hb2_0.out (in4_y p) g5 (i5 (p).y) ?_; simp only [Act.put, pvA, pv0, pv1])
  (apply calm_on rfl; (focus (intro W hB; go_simp; exact ⟨rfl, Below.refl _ _⟩)); simp only [Act.put, pvA, pv0, pv1])
  (refine calm_part rfl _ _ rfl _ _ rfl _ _ (cells5 (p).x) hb2_0.out (in4_x p) g5 (i5 (p).x) ?_; simp only [Act.put, pvA, pv0, pv1])
  (apply calm_on rfl; (focus (intro W hB; go_simp; refine (c1.out W).mono ?_; rintro _ _ ⟨rfl, hb'⟩; exact ⟨rfl, hb'⟩)); simp only [Act.put, pvA, pv0, pv1])
  (apply calm_on rfl; (focus (intro W hB; go_simp; exact ⟨rfl, Below.refl _ _⟩)); simp only [Act.put, pvA, pv0, pv1])
  (refine calm_part rfl _ _ rfl _ _ rfl _ _ (cells5 (q).y) hb3_0.out (in4_y q) g5 (i5 (q).y) ?_; simp only [Act.put, pvA, pv0, pv1])
  (apply calm_on rfl; (focus (intro W hB; go_simp; exact ⟨rfl, Below.refl _ _⟩)); simp only [Act.put, pvA, pv0, pv1])
  (refine calm_part rfl _ _ rfl _ _ rfl _ _ (cells5 (q).x) hb3_0.out (in4_x q) g5 (i5 (q).x) ?_; simp only [Act.put, pvA, pv0, pv1])
  (apply calm_on rfl; (focus (intro W hB; go_simp; refine (c2.out W).mono ?_; rintro _ _ ⟨rfl, hb'⟩; exact ⟨rfl, hb'⟩)); simp only [Act.put, pvA, pv0, pv1])
  (apply calm_on rfl; (focus (intro W hB; go_simp; refine (c3.out W).mono ?_; rintro _ _ ⟨rfl, hb'⟩; exact ⟨rfl, hb'⟩)); simp only [Act.put, pvA, pv0, pv1])
  refine calm_nil ?_
  intro bk5 wx1 hle5 hx1 hn5
  simp only [List.drop_succ_cons, List.drop_zero]
  (try simp only [Act.put, pvA, pv0, pv1])
  have fb2 := hb2_0.out.step hx1
  have fb3 := hb3_0.out.step hx1
  have fb4 := hb4_0.out.step hx1
  have hbb := hbl0.trans (hx1.mono hbl0.size)
  have fb5 := hn5
  have ne2_5 : w.heap.size ≠ bk5 := by have := hb2_0.out.lt; omega
  have ne3_5 : (w.heap.size + 1) ≠ bk5 := by have := hb3_0.out.lt; omega
  have ne4_5 : (w.heap.size + 1 + 1) ≠ bk5 := by have := hb4_0.out.lt; omega
  have ge5 : w.heap.size ≤ bk5 := Nat.le_trans hbl0.size hle5
  refine wpList_set _ _ _ rfl rfl rfl _ _ rfl rfl _ _ fb5 (i5 r3) rfl (one_cells5 r3) ?_
  replace fb2 := fb2.other ne2_5 (cells5 r3)
  replace fb3 := fb3.other ne3_5 (cells5 r3)
  replace fb4 := fb4.other ne4_5 (cells5 r3)
  replace fb5 := fb5.set (cells5 r3)
  replace hbb := below_set hbb bk5 (ge5) (cells5 r3)
  refine wpList_nil ?_
  obtain ⟨w1, hw⟩ : ∃ z, z = (wx1.setRow bk5 (cells5 r3)) := ⟨_, rfl⟩
  rw [← hw] at hbb fb2 fb3 fb4 fb5 ⊢
  have hb2_1 := hid fb2
  have hb3_1 := hid fb3
  have hb4_1 := hid fb4
  have hb5_1 := hid fb5
  have hbl1 := hbb
  clear hw hbb fb2 fb3 fb4 fb5 hx1 hbl0 hb2_0 hb3_0 hb4_0 hle5 hn5
  (repeat ((fail_if_success (with_reducible refine Go.at_region ?_)); go_step))
  refine draw_new1 11 _ rfl 64 (cells5 zero5) 6 rfl rfl rfl (by simp) z5 (by kernel_rfl) (by kernel_rfl) (by kernel_rfl) ?_
  simp only [List.take_succ_cons, List.take_zero]
  (apply calm_on rfl; (focus (intro W hB; go_simp; exact ⟨rfl, Below.refl _ _⟩)); simp only [Act.put, pvA, pv0, pv1])
  (refine calm_part rfl _ _ rfl _ _ rfl _ _ (cells5 (p).y) hb2_1.out (in4_y p) g5 (i5 (p).y) ?_; simp only [Act.put, pvA, pv0, pv1])
  (apply calm_on rfl; (focus (intro W hB; go_simp; exact ⟨rfl, Below.refl _ _⟩)); simp only [Act.put, pvA, pv0, pv1])
  (refine calm_part rfl _ _ rfl _ _ rfl _ _ (cells5 (p).x) hb2_1.out (in4_x p) g5 (i5 (p).x) ?_; simp only [Act.put, pvA, pv0, pv1])
  (apply calm_on rfl; (focus (intro W hB; go_simp; refine (c4.out W).mono ?_; rintro _ _ ⟨rfl, hb'⟩; exact ⟨rfl, hb'⟩)); simp only [Act.put, pvA, pv0, pv1])
  (apply calm_on rfl; (focus (intro W hB; go_simp; exact ⟨rfl, Below.refl _ _⟩)); simp only [Act.put, pvA, pv0, pv1])
  (refine calm_part rfl _ _ rfl _ _ rfl _ _ (cells5 (q).y) hb3_1.out (in4_y q) g5 (i5 (q).y) ?_; simp only [Act.put, pvA, pv0, pv1])
  (apply calm_on rfl; (focus (intro W hB; go_simp; exact ⟨rfl, Below.refl _ _⟩)); simp only [Act.put, pvA, pv0, pv1])
  (refine calm_part rfl _ _ rfl _ _ rfl _ _ (cells5 (q).x) hb3_1.out (in4_x q) g5 (i5 (q).x) ?_; simp only [Act.put, pvA, pv0, pv1])
  (apply calm_on rfl; (focus (intro W hB; go_simp; refine (c5.out W).mono ?_; rintro _ _ ⟨rfl, hb'⟩; exact ⟨rfl, hb'⟩)); simp only [Act.put, pvA, pv0, pv1])
  (apply calm_on rfl; (focus (intro W hB; go_simp; refine (c6.out W).mono ?_; rintro _ _ ⟨rfl, hb'⟩; exact ⟨rfl, hb'⟩)); simp only [Act.put, pvA, pv0, pv1])
  refine calm_nil ?_
  intro bk6 wx2 hle6 hx2 hn6
  simp only [List.drop_succ_cons, List.drop_zero]
  (try simp only [Act.put, pvA, pv0, pv1])
  have fb2 := hb2_1.out.step hx2
  have fb3 := hb3_1.out.step hx2
  have fb4 := hb4_1.out.step hx2
  have fb5 := hb5_1.out.step hx2
  have hbb := hbl1.trans (hx2.mono hbl1.size)
  have fb6 := hn6
  have ne2_6 : w.heap.size ≠ bk6 := by have := hb2_1.out.lt; omega
  have ne3_6 : (w.heap.size + 1) ≠ bk6 := by have := hb3_1.out.lt; omega
  have ne4_6 : (w.heap.size + 1 + 1) ≠ bk6 := by have := hb4_1.out.lt; omega
  have ne5_6 : bk5 ≠ bk6 := by have := hb5_1.out.lt; omega
  have ge6 : w.heap.size ≤ bk6 := Nat.le_trans hbl1.size hle6
  refine wpList_set _ _ _ rfl rfl rfl _ _ rfl rfl _ _ fb6 (i5 r6) rfl (one_cells5 r6) ?_
  replace fb2 := fb2.other ne2_6 (cells5 r6)
  replace fb3 := fb3.other ne3_6 (cells5 r6)
  replace fb4 := fb4.other ne4_6 (cells5 r6)
  replace fb5 := fb5.other ne5_6 (cells5 r6)
  replace fb6 := fb6.set (cells5 r6)
  replace hbb := below_set hbb bk6 (ge6) (cells5 r6)
  refine wpList_nil ?_
  obtain ⟨w2, hw⟩ : ∃ z, z = (wx2.setRow bk6 (cells5 r6)) := ⟨_, rfl⟩
  rw [← hw] at hbb fb2 fb3 fb4 fb5 fb6 ⊢
  have hb2_2 := hid fb2
  have hb3_2 := hid fb3
  have hb4_2 := hid fb4
  have hb5_2 := hid fb5
  have hb6_2 := hid fb6
  have hbl2 := hbb
  clear hw hbb fb2 fb3 fb4 fb5 fb6 hx2 hbl1 hb2_1 hb3_1 hb4_1 hb5_1 hle6 hn6
  (repeat ((fail_if_success (with_reducible refine Go.at_region ?_)); go_step))
  refine list_tail 10 ?_
  simp only [List.take_succ_cons, List.take_zero]
  (apply calm_on rfl; (focus (intro W hB; go_simp; exact ⟨rfl, Below.refl _ _⟩)); simp only [Act.put, pvA, pv0, pv1])
  (refine calm_part rfl _ _ rfl _ _ rfl _ _ (cells5 (p).t) hb2_2.out (in4_t p) g5 (i5 (p).t) ?_; simp only [Act.put, pvA, pv0, pv1])
  (apply calm_on rfl; (focus (intro W hB; go_simp; exact ⟨rfl, Below.refl _ _⟩)); simp only [Act.put, pvA, pv0, pv1])
  (refine calm_part rfl _ _ rfl _ _ rfl _ _ (cells5 (q).t) hb3_2.out (in4_t q) g5 (i5 (q).t) ?_; simp only [Act.put, pvA, pv0, pv1])
  (apply calm_on rfl; (focus (intro W hB; go_simp; refine (c7.out W).mono ?_; rintro _ _ ⟨rfl, hb'⟩; exact ⟨rfl, hb'⟩)); simp only [Act.put, pvA, pv0, pv1])
  iterate 2 (apply calm_on rfl; (focus (intro W hB; go_simp; refine (cd.out W).mono ?_; rintro _ _ ⟨rfl, hb'⟩; exact ⟨rfl, hb'⟩)); simp only [Act.put, pvA, pv0, pv1])
  (apply calm_on rfl; (focus (intro W hB; go_simp; refine (c8.out W).mono ?_; rintro _ _ ⟨rfl, hb'⟩; exact ⟨rfl, hb'⟩)); simp only [Act.put, pvA, pv0, pv1])
  (apply calm_on rfl; (focus (intro W hB; go_simp; refine (c9.out W).mono ?_; rintro _ _ ⟨rfl, hb'⟩; exact ⟨rfl, hb'⟩)); simp only [Act.put, pvA, pv0, pv1])
  (apply calm_on rfl; (focus (intro W hB; go_simp; refine (c10.out W).mono ?_; rintro _ _ ⟨rfl, hb'⟩; exact ⟨rfl, hb'⟩)); simp only [Act.put, pvA, pv0, pv1])
  refine calm_nil ?_
  intro wx3 hx3
  simp only [List.drop_succ_cons, List.drop_zero]
  (try simp only [Act.put, pvA, pv0, pv1])
  refine wpList_new 64 (cells5 zero5) rfl rfl z5 ?_
  intro bk7 wy3 hle7 hy3 hn7
  (try simp only [Act.put, pvA, pv0, pv1])
  replace hle7 := Nat.le_trans hx3.size hle7
  replace hx3 := hx3.trans (hy3.mono hx3.size)
  clear hy3
  have fb2 := hb2_2.out.step hx3
  have fb3 := hb3_2.out.step hx3
  have fb4 := hb4_2.out.step hx3
  have fb5 := hb5_2.out.step hx3
  have fb6 := hb6_2.out.step hx3
  have hbb := hbl2.trans (hx3.mono hbl2.size)
  have fb7 := hn7
  have ne2_7 : w.heap.size ≠ bk7 := by have := hb2_2.out.lt; omega
  have ne3_7 : (w.heap.size + 1) ≠ bk7 := by have := hb3_2.out.lt; omega
  have ne4_7 : (w.heap.size + 1 + 1) ≠ bk7 := by have := hb4_2.out.lt; omega
  have ne5_7 : bk5 ≠ bk7 := by have := hb5_2.out.lt; omega
  have ne6_7 : bk6 ≠ bk7 := by have := hb6_2.out.lt; omega
  have ge7 : w.heap.size ≤ bk7 := Nat.le_trans hbl2.size hle7
  refine wpList_set _ _ _ rfl rfl rfl _ _ rfl rfl _ _ fb7 (i5 r10) rfl (one_cells5 r10) ?_
  replace fb2 := fb2.other ne2_7 (cells5 r10)
  replace fb3 := fb3.other ne3_7 (cells5 r10)
  replace fb4 := fb4.other ne4_7 (cells5 r10)
  replace fb5 := fb5.other ne5_7 (cells5 r10)
  replace fb6 := fb6.other ne6_7 (cells5 r10)
  replace fb7 := fb7.set (cells5 r10)
  replace hbb := below_set hbb bk7 (ge7) (cells5 r10)
  refine wpList_nil ?_
  obtain ⟨w3, hw⟩ : ∃ z, z = (wy3.setRow bk7 (cells5 r10)) := ⟨_, rfl⟩
  rw [← hw] at hbb fb2 fb3 fb4 fb5 fb6 fb7 ⊢
  have hb2_3 := hid fb2
  have hb3_3 := hid fb3
  have hb4_3 := hid fb4
  have hb5_3 := hid fb5
  have hb6_3 := hid fb6
  have hb7_3 := hid fb7
  have hbl3 := hbb
  clear hw hbb fb2 fb3 fb4 fb5 fb6 fb7 hx3 hbl2 hb2_2 hb3_2 hb4_2 hb5_2 hb6_2 hle7 hn7
  (repeat ((fail_if_success (with_reducible refine Go.at_region ?_)); go_step))
  refine list_tail 5 ?_
  simp only [List.take_succ_cons, List.take_zero]
  (apply calm_on rfl; (focus (intro W hB; go_simp; exact ⟨rfl, Below.refl _ _⟩)); simp only [Act.put, pvA, pv0, pv1])
  (refine calm_part rfl _ _ rfl _ _ rfl _ _ (cells5 (p).z) hb2_3.out (in4_z p) g5 (i5 (p).z) ?_; simp only [Act.put, pvA, pv0, pv1])
  (apply calm_on rfl; (focus (intro W hB; go_simp; exact ⟨rfl, Below.refl _ _⟩)); simp only [Act.put, pvA, pv0, pv1])
  (refine calm_part rfl _ _ rfl _ _ rfl _ _ (cells5 (q).z) hb3_3.out (in4_z q) g5 (i5 (q).z) ?_; simp only [Act.put, pvA, pv0, pv1])
  (apply calm_on rfl; (focus (intro W hB; go_simp; refine (c11.out W).mono ?_; rintro _ _ ⟨rfl, hb'⟩; exact ⟨rfl, hb'⟩)); simp only [Act.put, pvA, pv0, pv1])
  refine calm_nil ?_
  intro wx4 hx4
  simp only [List.drop_succ_cons, List.drop_zero]
  (try simp only [Act.put, pvA, pv0, pv1])
  refine wpList_new 64 (cells5 zero5) rfl rfl z5 ?_
  intro bk8 wy4 hle8 hy4 hn8
  (try simp only [Act.put, pvA, pv0, pv1])
  replace hle8 := Nat.le_trans hx4.size hle8
  replace hx4 := hx4.trans (hy4.mono hx4.size)
  clear hy4
  have fb2 := hb2_3.out.step hx4
  have fb3 := hb3_3.out.step hx4
  have fb4 := hb4_3.out.step hx4
  have fb5 := hb5_3.out.step hx4
  have fb6 := hb6_3.out.step hx4
  have fb7 := hb7_3.out.step hx4
  have hbb := hbl3.trans (hx4.mono hbl3.size)
  have fb8 := hn8
  have ne2_8 : w.heap.size ≠ bk8 := by have := hb2_3.out.lt; omega
  have ne3_8 : (w.heap.size + 1) ≠ bk8 := by have := hb3_3.out.lt; omega
  have ne4_8 : (w.heap.size + 1 + 1) ≠ bk8 := by have := hb4_3.out.lt; omega
  have ne5_8 : bk5 ≠ bk8 := by have := hb5_3.out.lt; omega
  have ne6_8 : bk6 ≠ bk8 := by have := hb6_3.out.lt; omega
  have ne7_8 : bk7 ≠ bk8 := by have := hb7_3.out.lt; omega
  have ge8 : w.heap.size ≤ bk8 := Nat.le_trans hbl3.size hle8
  refine wpList_set _ _ _ rfl rfl rfl _ _ rfl rfl _ _ fb8 (i5 r11) rfl (one_cells5 r11) ?_
  replace fb2 := fb2.other ne2_8 (cells5 r11)
  replace fb3 := fb3.other ne3_8 (cells5 r11)
  replace fb4 := fb4.other ne4_8 (cells5 r11)
  replace fb5 := fb5.other ne5_8 (cells5 r11)
  replace fb6 := fb6.other ne6_8 (cells5 r11)
  replace fb7 := fb7.other ne7_8 (cells5 r11)
  replace fb8 := fb8.set (cells5 r11)
  replace hbb := below_set hbb bk8 (ge8) (cells5 r11)
  refine wpList_nil ?_
  obtain ⟨w4, hw⟩ : ∃ z, z = (wy4.setRow bk8 (cells5 r11)) := ⟨_, rfl⟩
  rw [← hw] at hbb fb2 fb3 fb4 fb5 fb6 fb7 fb8 ⊢
  have hb2_4 := hid fb2
  have hb3_4 := hid fb3
  have hb4_4 := hid fb4
  have hb5_4 := hid fb5
  have hb6_4 := hid fb6
  have hb7_4 := hid fb7
  have hb8_4 := hid fb8
  have hbl4 := hbb
  clear hw hbb fb2 fb3 fb4 fb5 fb6 fb7 fb8 hx4 hbl3 hb2_3 hb3_3 hb4_3 hb5_3 hb6_3 hb7_3 hle8 hn8
  (repeat ((fail_if_success (with_reducible refine Go.at_region ?_)); go_step))
  refine list_tail 3 ?_
  simp only [List.take_succ_cons, List.take_zero]
  iterate 2 (refine calm_whole rfl _ _ rfl _ rfl _ _ hb8_4.out g5 (i5 r11) ?_; simp only [Act.put, pvA, pv0, pv1])
  (apply calm_on rfl; (focus (intro W hB; go_simp; refine (c12.out W).mono ?_; rintro _ _ ⟨rfl, hb'⟩; exact ⟨rfl, hb'⟩)); simp only [Act.put, pvA, pv0, pv1])
  refine calm_nil ?_
  intro wx5 hx5
  simp only [List.drop_succ_cons, List.drop_zero]
  (try simp only [Act.put, pvA, pv0, pv1])
  have fb2 := hb2_4.out.step hx5
  have fb3 := hb3_4.out.step hx5
  have fb4 := hb4_4.out.step hx5
  have fb5 := hb5_4.out.step hx5
  have fb6 := hb6_4.out.step hx5
  have fb7 := hb7_4.out.step hx5
  have fb8 := hb8_4.out.step hx5
  have hbb := hbl4.trans (hx5.mono hbl4.size)
  refine wpList_set _ _ _ rfl rfl rfl _ _ rfl rfl _ _ fb8 (i5 r12) rfl (one_cells5 r12) ?_
  replace fb2 := fb2.other ne2_8 (cells5 r12)
  replace fb3 := fb3.other ne3_8 (cells5 r12)
  replace fb4 := fb4.other ne4_8 (cells5 r12)
  replace fb5 := fb5.other ne5_8 (cells5 r12)
  replace fb6 := fb6.other ne6_8 (cells5 r12)
  replace fb7 := fb7.other ne7_8 (cells5 r12)
  replace fb8 := fb8.set (cells5 r12)
  replace hbb := below_set hbb bk8 (ge8) (cells5 r12)
  refine wpList_nil ?_
  obtain ⟨w5, hw⟩ : ∃ z, z = (wx5.setRow bk8 (cells5 r12)) := ⟨_, rfl⟩
  rw [← hw] at hbb fb2 fb3 fb4 fb5 fb6 fb7 fb8 ⊢
  have hb2_5 := hid fb2
  have hb3_5 := hid fb3
  have hb4_5 := hid fb4
  have hb5_5 := hid fb5
  have hb6_5 := hid fb6
  have hb7_5 := hid fb7
  have hb8_5 := hid fb8
  have hbl5 := hbb
  clear hw hbb fb2 fb3 fb4 fb5 fb6 fb7 fb8 hx5 hbl4 hb2_4 hb3_4 hb4_4 hb5_4 hb6_4 hb7_4 hb8_4 
  (repeat ((fail_if_success (with_reducible refine Go.at_region ?_)); go_step))
  refine draw_tail 13 (by kernel_rfl) (by kernel_rfl) (by kernel_rfl) ?_
  simp only [List.take_succ_cons, List.take_zero]
  (refine calm_whole rfl _ _ rfl _ rfl _ _ hb6_5.out g5 (i5 r6) ?_; simp only [Act.put, pvA, pv0, pv1])
  (refine calm_whole rfl _ _ rfl _ rfl _ _ hb5_5.out g5 (i5 r3) ?_; simp only [Act.put, pvA, pv0, pv1])
  (apply calm_on rfl; (focus (intro W hB; go_simp; refine (c13.out W).mono ?_; rintro _ _ ⟨rfl, hb'⟩; exact ⟨rfl, hb'⟩)); simp only [Act.put, pvA, pv0, pv1])
  (refine calm_whole rfl _ _ rfl _ rfl _ _ hb8_5.out g5 (i5 r12) ?_; simp only [Act.put, pvA, pv0, pv1])
  (refine calm_whole rfl _ _ rfl _ rfl _ _ hb7_5.out g5 (i5 r10) ?_; simp only [Act.put, pvA, pv0, pv1])
  (apply calm_on rfl; (focus (intro W hB; go_simp; refine (c14.out W).mono ?_; rintro _ _ ⟨rfl, hb'⟩; exact ⟨rfl, hb'⟩)); simp only [Act.put, pvA, pv0, pv1])
  (refine calm_whole rfl _ _ rfl _ rfl _ _ hb8_5.out g5 (i5 r12) ?_; simp only [Act.put, pvA, pv0, pv1])
  (refine calm_whole rfl _ _ rfl _ rfl _ _ hb7_5.out g5 (i5 r10) ?_; simp only [Act.put, pvA, pv0, pv1])
  (apply calm_on rfl; (focus (intro W hB; go_simp; refine (c15.out W).mono ?_; rintro _ _ ⟨rfl, hb'⟩; exact ⟨rfl, hb'⟩)); simp only [Act.put, pvA, pv0, pv1])
  (refine calm_whole rfl _ _ rfl _ rfl _ _ hb6_5.out g5 (i5 r6) ?_; simp only [Act.put, pvA, pv0, pv1])
  (refine calm_whole rfl _ _ rfl _ rfl _ _ hb5_5.out g5 (i5 r3) ?_; simp only [Act.put, pvA, pv0, pv1])
  (apply calm_on rfl; (focus (intro W hB; go_simp; refine (c16.out W).mono ?_; rintro _ _ ⟨rfl, hb'⟩; exact ⟨rfl, hb'⟩)); simp only [Act.put, pvA, pv0, pv1])
  (apply calm_on rfl; (focus (intro W hB; go_simp; refine (c17.out W).mono ?_; rintro _ _ ⟨rfl, hb'⟩; exact ⟨rfl, hb'⟩)); simp only [Act.put, pvA, pv0, pv1])
  refine calm_nil ?_
  intro wx6 hx6
  simp only [List.drop_succ_cons, List.drop_zero]
  (try simp only [Act.put, pvA, pv0, pv1])
  have fb2 := hb2_5.out.step hx6
  have fb3 := hb3_5.out.step hx6
  have fb4 := hb4_5.out.step hx6
  have fb5 := hb5_5.out.step hx6
  have fb6 := hb6_5.out.step hx6
  have fb7 := hb7_5.out.step hx6
  have fb8 := hb8_5.out.step hx6
  have hbb := hbl5.trans (hx6.mono hbl5.size)
  refine wpList_set _ _ _ rfl rfl rfl _ _ rfl rfl _ _ fb4 (i4 r17) rfl (one_cells4 r17) ?_
  replace fb2 := fb2.other (show w.heap.size ≠ (w.heap.size + 1 + 1) by omega) (cells4 r17)
  replace fb3 := fb3.other (show (w.heap.size + 1) ≠ (w.heap.size + 1 + 1) by omega) (cells4 r17)
  replace fb4 := fb4.set (cells4 r17)
  replace fb5 := fb5.other (Ne.symm ne4_5) (cells4 r17)
  replace fb6 := fb6.other (Ne.symm ne4_6) (cells4 r17)
  replace fb7 := fb7.other (Ne.symm ne4_7) (cells4 r17)
  replace fb8 := fb8.other (Ne.symm ne4_8) (cells4 r17)
  replace hbb := below_set hbb (w.heap.size + 1 + 1) (by omega) (cells4 r17)
  refine wpList_nil ?_
  obtain ⟨w6, hw⟩ : ∃ z, z = (wx6.setRow (w.heap.size + 1 + 1) (cells4 r17)) := ⟨_, rfl⟩
  rw [← hw] at hbb fb2 fb3 fb4 fb5 fb6 fb7 fb8 ⊢
  have hb2_6 := hid fb2
  have hb3_6 := hid fb3
  have hb4_6 := hid fb4
  have hb5_6 := hid fb5
  have hb6_6 := hid fb6
  have hb7_6 := hid fb7
  have hb8_6 := hid fb8
  have hbl6 := hbb
  clear hw hbb fb2 fb3 fb4 fb5 fb6 fb7 fb8 hx6 hbl5 hb2_5 hb3_5 hb4_5 hb5_5 hb6_5 hb7_5 hb8_5 
  (repeat ((fail_if_success (with_reducible refine Go.at_region ?_)); go_step))
  refine ret_blk (w.heap.size + 1 + 1) 66 (cells4 r17) rfl rfl hb4_6.out g4 (i4 r17) rfl ?_
  exact ⟨(by rw [E17.out, E16.out, E15.out, E14.out, E13.out, E12.out, E11.out, E10.out, E9.out, E8.out, E7.out, E6.out, E5.out, E4.out, E3.out, E2.out, E1.out]; first | done | rfl), hbl6⟩
set_option maxRecDepth 100000 in
set_option maxHeartbeats 4000000 in
theorem twiceW_any (p : W4) (w : World) (hp : TW p) : Calls Try.prog 43 #[w4 p] w fun e w' => e = .returned (w4 (twiceW p)) ∧ Below w.heap.size w w' := by
  have c1 := hid fun w => mul5_any p.x p.x w hp.x hp.x
  have t1 := mul5_t p.x p.x hp.x hp.x
  obtain ⟨r1, e1⟩ : ∃ r, r = mul5 p.x p.x := ⟨_, rfl⟩
  rw [← e1] at c1 t1
  replace t1 := hid t1
  have E1 := hid e1
  clear e1
  have c2 := hid fun w => mul5_any p.y p.y w hp.y hp.y
  have t2 := mul5_t p.y p.y hp.y hp.y
  obtain ⟨r2, e2⟩ : ∃ r, r = mul5 p.y p.y := ⟨_, rfl⟩
  rw [← e2] at c2 t2
  replace t2 := hid t2
  have E2 := hid e2
  clear e2
  have c3 := hid fun w => mul5_any p.z p.z w hp.z hp.z
  have t3 := mul5_t p.z p.z hp.z hp.z
  obtain ⟨r3, e3⟩ : ∃ r, r = mul5 p.z p.z := ⟨_, rfl⟩
  rw [← e3] at c3 t3
  replace t3 := hid t3
  have E3 := hid e3
  clear e3
  have c4 := hid fun w => add5_any r1 r2 w t1.out t2.out
  have t4 := add5_t r1 r2 t1.out t2.out
  obtain ⟨r4, e4⟩ : ∃ r, r = add5 r1 r2 := ⟨_, rfl⟩
  rw [← e4] at c4 t4
  replace t4 := hid t4
  have E4 := hid e4
  clear e4
  have c5 := hid fun w => add5_any p.x p.y w hp.x hp.y
  have t5 := add5_t p.x p.y hp.x hp.y
  obtain ⟨r5, e5⟩ : ∃ r, r = add5 p.x p.y := ⟨_, rfl⟩
  rw [← e5] at c5 t5
  replace t5 := hid t5
  have E5 := hid e5
  clear e5
  have c6 := hid fun w => sub5_any r1 r2 w t1.out t2.out
  have t6 := sub5_t r1 r2 t1.out t2.out
  obtain ⟨r6, e6⟩ : ∃ r, r = sub5 r1 r2 := ⟨_, rfl⟩
  rw [← e6] at c6 t6
  replace t6 := hid t6
  have E6 := hid e6
  clear e6
  have c7 := hid fun w => mul5_any r5 r5 w t5.out t5.out
  have t7 := mul5_t r5 r5 t5.out t5.out
  obtain ⟨r7, e7⟩ : ∃ r, r = mul5 r5 r5 := ⟨_, rfl⟩
  rw [← e7] at c7 t7
  replace t7 := hid t7
  have E7 := hid e7
  clear e7
  have c8 := hid fun w => sub5_any r4 r7 w t4.out t7.out
  have t8 := sub5_t r4 r7 t4.out t7.out
  obtain ⟨r8, e8⟩ : ∃ r, r = sub5 r4 r7 := ⟨_, rfl⟩
  rw [← e8] at c8 t8
  replace t8 := hid t8
  have E8 := hid e8
  clear e8
  have c9 := hid fun w => add5_any r3 r3 w t3.out t3.out
  have t9 := add5_t r3 r3 t3.out t3.out
  obtain ⟨r9, e9⟩ : ∃ r, r = add5 r3 r3 := ⟨_, rfl⟩
  rw [← e9] at c9 t9
  replace t9 := hid t9
  have E9 := hid e9
  clear e9
  have c10 := hid fun w => add5_any r9 r6 w t9.out t6.out
  have t10 := add5_t r9 r6 t9.out t6.out
  obtain ⟨r10, e10⟩ : ∃ r, r = add5 r9 r6 := ⟨_, rfl⟩
  rw [← e10] at c10 t10
  replace t10 := hid t10
  have E10 := hid e10
  clear e10
  have c11 := hid fun w => from_any r8 r10 r6 r4 w t8.out t10.out t6.out t4.out
  obtain ⟨r11, e11⟩ : ∃ r, r = fromW r8 r10 r6 r4 := ⟨_, rfl⟩
  rw [← e11] at c11
  have E11 := hid e11
  clear e11
  clear hp
  unfold fe w4 at *
  obtain ⟨w0, hw0, k1, k2, hbl0⟩ := entry2 w 66 (cells4 p) 66 (cells4 zero4)
  have hb1_0 := hid k1
  have hb2_0 := hid k2
  clear k1 k2
  go_enter Try.func43, Try.ntmps43
  (repeat ((fail_if_success (with_reducible refine Go.at_region ?_)); go_step))
  refine wp_region_lit ?_
  (refine wpList_box 66 (.tmp 0) rfl rfl (cells4 p) rfl ?_; simp only [Act.put, pvA, pv0, pv1]; (try simp only [World.size_alloc]))
  (refine wpList_alloc_new rfl 66 rfl (cells4 zero4) z4 ?_; simp only [Act.put, pvA, pv0, pv1]; (try simp only [World.size_alloc]))
  refine wpList_nil ?_
  rw [← hw0]
  clear hw0
  (repeat ((fail_if_success (with_reducible refine Go.at_region ?_)); go_step))
  refine draw_new2 10 _ _ rfl 64 64 (cells5 zero5) (cells5 zero5) 3 4 rfl rfl rfl (by simp) z5 rfl rfl rfl (by simp) z5 (by decide) (by kernel_rfl) (by kernel_rfl) (by kernel_rfl) (by kernel_rfl) ?_
  simp only [List.take_succ_cons, List.take_zero]
  (apply calm_on rfl; (focus (intro W hB; go_simp; exact ⟨rfl, Below.refl _ _⟩)); simp only [Act.put, pvA, pv0, pv1])
  (refine calm_part rfl _ _ rfl _ _ rfl _ _ (cells5 (p).x) hb1_0.out (in4_x p) g5 (i5 (p).x) ?_; simp only [Act.put, pvA, pv0, pv1])
  (apply calm_on rfl; (focus (intro W hB; go_simp; exact ⟨rfl, Below.refl _ _⟩)); simp only [Act.put, pvA, pv0, pv1])
  (refine calm_part rfl _ _ rfl _ _ rfl _ _ (cells5 (p).x) hb1_0.out (in4_x p) g5 (i5 (p).x) ?_; simp only [Act.put, pvA, pv0, pv1])
  (apply calm_on rfl; (focus (intro W hB; go_simp; refine (c1.out W).mono ?_; rintro _ _ ⟨rfl, hb'⟩; exact ⟨rfl, hb'⟩)); simp only [Act.put, pvA, pv0, pv1])
  (apply calm_on rfl; (focus (intro W hB; go_simp; exact ⟨rfl, Below.refl _ _⟩)); simp only [Act.put, pvA, pv0, pv1])
  (refine calm_part rfl _ _ rfl _ _ rfl _ _ (cells5 (p).y) hb1_0.out (in4_y p) g5 (i5 (p).y) ?_; simp only [Act.put, pvA, pv0, pv1])
  (apply calm_on rfl; (focus (intro W hB; go_simp; exact ⟨rfl, Below.refl _ _⟩)); simp only [Act.put, pvA, pv0, pv1])
  (refine calm_part rfl _ _ rfl _ _ rfl _ _ (cells5 (p).y) hb1_0.out (in4_y p) g5 (i5 (p).y) ?_; simp only [Act.put, pvA, pv0, pv1])
  (apply calm_on rfl; (focus (intro W hB; go_simp; refine (c2.out W).mono ?_; rintro _ _ ⟨rfl, hb'⟩; exact ⟨rfl, hb'⟩)); simp only [Act.put, pvA, pv0, pv1])
  refine calm_nil ?_
  intro bk3 bk4 wx1 hle3 hle4 hne3 hx1 hn3 hn4
  simp only [List.drop_succ_cons, List.drop_zero]
  (try simp only [Act.put, pvA, pv0, pv1])
  have fb1 := hb1_0.out.step hx1
  have fb2 := hb2_0.out.step hx1
  have hbb := hbl0.trans (hx1.mono hbl0.size)
  have fb3 := hn3
  have fb4 := hn4
  have ne1_3 : w.heap.size ≠ bk3 := by have := hb1_0.out.lt; omega
  have ne2_3 : (w.heap.size + 1) ≠ bk3 := by have := hb2_0.out.lt; omega
  have ne1_4 : w.heap.size ≠ bk4 := by have := hb1_0.out.lt; omega
  have ne2_4 : (w.heap.size + 1) ≠ bk4 := by have := hb2_0.out.lt; omega
  have ge3 : w.heap.size ≤ bk3 := Nat.le_trans hbl0.size hle3
  have ge4 : w.heap.size ≤ bk4 := Nat.le_trans hbl0.size hle4
  refine wpList_set _ _ _ rfl rfl rfl _ _ rfl rfl _ _ fb3 (i5 r1) rfl (one_cells5 r1) ?_
  replace fb1 := fb1.other ne1_3 (cells5 r1)
  replace fb2 := fb2.other ne2_3 (cells5 r1)
  replace fb3 := fb3.set (cells5 r1)
  replace fb4 := fb4.other (Ne.symm hne3) (cells5 r1)
  replace hbb := below_set hbb bk3 (ge3) (cells5 r1)
  refine wpList_set _ _ _ rfl rfl rfl _ _ rfl rfl _ _ fb4 (i5 r2) rfl (one_cells5 r2) ?_
  replace fb1 := fb1.other ne1_4 (cells5 r2)
  replace fb2 := fb2.other ne2_4 (cells5 r2)
  replace fb3 := fb3.other hne3 (cells5 r2)
  replace fb4 := fb4.set (cells5 r2)
  replace hbb := below_set hbb bk4 (ge4) (cells5 r2)
  refine wpList_nil ?_
  obtain ⟨w1, hw⟩ : ∃ z, z = ((wx1.setRow bk3 (cells5 r1)).setRow bk4 (cells5 r2)) := ⟨_, rfl⟩
  rw [← hw] at hbb fb1 fb2 fb3 fb4 ⊢
  have hb1_1 := hid fb1
  have hb2_1 := hid fb2
  have hb3_1 := hid fb3
  have hb4_1 := hid fb4
  have hbl1 := hbb
  clear hw hbb fb1 fb2 fb3 fb4 hx1 hbl0 hb1_0 hb2_0 hle3 hn3 hle4 hn4
  (repeat ((fail_if_success (with_reducible refine Go.at_region ?_)); go_step))
  refine list_tail 5 ?_
  simp only [List.take_succ_cons, List.take_zero]
  (apply calm_on rfl; (focus (intro W hB; go_simp; exact ⟨rfl, Below.refl _ _⟩)); simp only [Act.put, pvA, pv0, pv1])
  (refine calm_part rfl _ _ rfl _ _ rfl _ _ (cells5 (p).z) hb1_1.out (in4_z p) g5 (i5 (p).z) ?_; simp only [Act.put, pvA, pv0, pv1])
  (apply calm_on rfl; (focus (intro W hB; go_simp; exact ⟨rfl, Below.refl _ _⟩)); simp only [Act.put, pvA, pv0, pv1])
  (refine calm_part rfl _ _ rfl _ _ rfl _ _ (cells5 (p).z) hb1_1.out (in4_z p) g5 (i5 (p).z) ?_; simp only [Act.put, pvA, pv0, pv1])
  (apply calm_on rfl; (focus (intro W hB; go_simp; refine (c3.out W).mono ?_; rintro _ _ ⟨rfl, hb'⟩; exact ⟨rfl, hb'⟩)); simp only [Act.put, pvA, pv0, pv1])
  refine calm_nil ?_
  intro wx2 hx2
  simp only [List.drop_succ_cons, List.drop_zero]
  (try simp only [Act.put, pvA, pv0, pv1])
  refine wpList_new 64 (cells5 zero5) rfl rfl z5 ?_
  intro bk5 wy2 hle5 hy2 hn5
  (try simp only [Act.put, pvA, pv0, pv1])
  replace hle5 := Nat.le_trans hx2.size hle5
  replace hx2 := hx2.trans (hy2.mono hx2.size)
  clear hy2
  have fb1 := hb1_1.out.step hx2
  have fb2 := hb2_1.out.step hx2
  have fb3 := hb3_1.out.step hx2
  have fb4 := hb4_1.out.step hx2
  have hbb := hbl1.trans (hx2.mono hbl1.size)
  have fb5 := hn5
  have ne1_5 : w.heap.size ≠ bk5 := by have := hb1_1.out.lt; omega
  have ne2_5 : (w.heap.size + 1) ≠ bk5 := by have := hb2_1.out.lt; omega
  have ne3_5 : bk3 ≠ bk5 := by have := hb3_1.out.lt; omega
  have ne4_5 : bk4 ≠ bk5 := by have := hb4_1.out.lt; omega
  have ge5 : w.heap.size ≤ bk5 := Nat.le_trans hbl1.size hle5
  refine wpList_set _ _ _ rfl rfl rfl _ _ rfl rfl _ _ fb5 (i5 r3) rfl (one_cells5 r3) ?_
  replace fb1 := fb1.other ne1_5 (cells5 r3)
  replace fb2 := fb2.other ne2_5 (cells5 r3)
  replace fb3 := fb3.other ne3_5 (cells5 r3)
  replace fb4 := fb4.other ne4_5 (cells5 r3)
  replace fb5 := fb5.set (cells5 r3)
  replace hbb := below_set hbb bk5 (ge5) (cells5 r3)
  refine wpList_nil ?_
  obtain ⟨w2, hw⟩ : ∃ z, z = (wy2.setRow bk5 (cells5 r3)) := ⟨_, rfl⟩
  rw [← hw] at hbb fb1 fb2 fb3 fb4 fb5 ⊢
  have hb1_2 := hid fb1
  have hb2_2 := hid fb2
  have hb3_2 := hid fb3
  have hb4_2 := hid fb4
  have hb5_2 := hid fb5
  have hbl2 := hbb
  clear hw hbb fb1 fb2 fb3 fb4 fb5 hx2 hbl1 hb1_1 hb2_1 hb3_1 hb4_1 hle5 hn5
  (repeat ((fail_if_success (with_reducible refine Go.at_region ?_)); go_step))
  refine list_tail 3 ?_
  simp only [List.take_succ_cons, List.take_zero]
  (refine calm_whole rfl _ _ rfl _ rfl _ _ hb3_2.out g5 (i5 r1) ?_; simp only [Act.put, pvA, pv0, pv1])
  (refine calm_whole rfl _ _ rfl _ rfl _ _ hb4_2.out g5 (i5 r2) ?_; simp only [Act.put, pvA, pv0, pv1])
  (apply calm_on rfl; (focus (intro W hB; go_simp; refine (c4.out W).mono ?_; rintro _ _ ⟨rfl, hb'⟩; exact ⟨rfl, hb'⟩)); simp only [Act.put, pvA, pv0, pv1])
  refine calm_nil ?_
  intro wx3 hx3
  simp only [List.drop_succ_cons, List.drop_zero]
  (try simp only [Act.put, pvA, pv0, pv1])
  refine wpList_new 64 (cells5 zero5) rfl rfl z5 ?_
  intro bk6 wy3 hle6 hy3 hn6
  (try simp only [Act.put, pvA, pv0, pv1])
  replace hle6 := Nat.le_trans hx3.size hle6
  replace hx3 := hx3.trans (hy3.mono hx3.size)
  clear hy3
  have fb1 := hb1_2.out.step hx3
  have fb2 := hb2_2.out.step hx3
  have fb3 := hb3_2.out.step hx3
  have fb4 := hb4_2.out.step hx3
  have fb5 := hb5_2.out.step hx3
  have hbb := hbl2.trans (hx3.mono hbl2.size)
  have fb6 := hn6
  have ne1_6 : w.heap.size ≠ bk6 := by have := hb1_2.out.lt; omega
  have ne2_6 : (w.heap.size + 1) ≠ bk6 := by have := hb2_2.out.lt; omega
  have ne3_6 : bk3 ≠ bk6 := by have := hb3_2.out.lt; omega
  have ne4_6 : bk4 ≠ bk6 := by have := hb4_2.out.lt; omega
  have ne5_6 : bk5 ≠ bk6 := by have := hb5_2.out.lt; omega
  have ge6 : w.heap.size ≤ bk6 := Nat.le_trans hbl2.size hle6
  refine wpList_set _ _ _ rfl rfl rfl _ _ rfl rfl _ _ fb6 (i5 r4) rfl (one_cells5 r4) ?_
  replace fb1 := fb1.other ne1_6 (cells5 r4)
  replace fb2 := fb2.other ne2_6 (cells5 r4)
  replace fb3 := fb3.other ne3_6 (cells5 r4)
  replace fb4 := fb4.other ne4_6 (cells5 r4)
  replace fb5 := fb5.other ne5_6 (cells5 r4)
  replace fb6 := fb6.set (cells5 r4)
  replace hbb := below_set hbb bk6 (ge6) (cells5 r4)
  refine wpList_nil ?_
  obtain ⟨w3, hw⟩ : ∃ z, z = (wy3.setRow bk6 (cells5 r4)) := ⟨_, rfl⟩
  rw [← hw] at hbb fb1 fb2 fb3 fb4 fb5 fb6 ⊢
  have hb1_3 := hid fb1
  have hb2_3 := hid fb2
  have hb3_3 := hid fb3
  have hb4_3 := hid fb4
  have hb5_3 := hid fb5
  have hb6_3 := hid fb6
  have hbl3 := hbb
  clear hw hbb fb1 fb2 fb3 fb4 fb5 fb6 hx3 hbl2 hb1_2 hb2_2 hb3_2 hb4_2 hb5_2 hle6 hn6
  (repeat ((fail_if_success (with_reducible refine Go.at_region ?_)); go_step))
  refine list_tail 5 ?_
  simp only [List.take_succ_cons, List.take_zero]
  (apply calm_on rfl; (focus (intro W hB; go_simp; exact ⟨rfl, Below.refl _ _⟩)); simp only [Act.put, pvA, pv0, pv1])
  (refine calm_part rfl _ _ rfl _ _ rfl _ _ (cells5 (p).x) hb1_3.out (in4_x p) g5 (i5 (p).x) ?_; simp only [Act.put, pvA, pv0, pv1])
  (apply calm_on rfl; (focus (intro W hB; go_simp; exact ⟨rfl, Below.refl _ _⟩)); simp only [Act.put, pvA, pv0, pv1])
  (refine calm_part rfl _ _ rfl _ _ rfl _ _ (cells5 (p).y) hb1_3.out (in4_y p) g5 (i5 (p).y) ?_; simp only [Act.put, pvA, pv0, pv1])
  (apply calm_on rfl; (focus (intro W hB; go_simp; refine (c5.out W).mono ?_; rintro _ _ ⟨rfl, hb'⟩; exact ⟨rfl, hb'⟩)); simp only [Act.put, pvA, pv0, pv1])
  refine calm_nil ?_
  intro wx4 hx4
  simp only [List.drop_succ_cons, List.drop_zero]
  (try simp only [Act.put, pvA, pv0, pv1])
  refine wpList_new 64 (cells5 zero5) rfl rfl z5 ?_
  intro bk7 wy4 hle7 hy4 hn7
  (try simp only [Act.put, pvA, pv0, pv1])
  replace hle7 := Nat.le_trans hx4.size hle7
  replace hx4 := hx4.trans (hy4.mono hx4.size)
  clear hy4
  have fb1 := hb1_3.out.step hx4
  have fb2 := hb2_3.out.step hx4
  have fb3 := hb3_3.out.step hx4
  have fb4 := hb4_3.out.step hx4
  have fb5 := hb5_3.out.step hx4
  have fb6 := hb6_3.out.step hx4
  have hbb := hbl3.trans (hx4.mono hbl3.size)
  have fb7 := hn7
  have ne1_7 : w.heap.size ≠ bk7 := by have := hb1_3.out.lt; omega
  have ne2_7 : (w.heap.size + 1) ≠ bk7 := by have := hb2_3.out.lt; omega
  have ne3_7 : bk3 ≠ bk7 := by have := hb3_3.out.lt; omega
  have ne4_7 : bk4 ≠ bk7 := by have := hb4_3.out.lt; omega
  have ne5_7 : bk5 ≠ bk7 := by have := hb5_3.out.lt; omega
  have ne6_7 : bk6 ≠ bk7 := by have := hb6_3.out.lt; omega
  have ge7 : w.heap.size ≤ bk7 := Nat.le_trans hbl3.size hle7
  refine wpList_set _ _ _ rfl rfl rfl _ _ rfl rfl _ _ fb7 (i5 r5) rfl (one_cells5 r5) ?_
  replace fb1 := fb1.other ne1_7 (cells5 r5)
  replace fb2 := fb2.other ne2_7 (cells5 r5)
  replace fb3 := fb3.other ne3_7 (cells5 r5)
  replace fb4 := fb4.other ne4_7 (cells5 r5)
  replace fb5 := fb5.other ne5_7 (cells5 r5)
  replace fb6 := fb6.other ne6_7 (cells5 r5)
  replace fb7 := fb7.set (cells5 r5)
  replace hbb := below_set hbb bk7 (ge7) (cells5 r5)
  refine wpList_nil ?_
  obtain ⟨w4, hw⟩ : ∃ z, z = (wy4.setRow bk7 (cells5 r5)) := ⟨_, rfl⟩
  rw [← hw] at hbb fb1 fb2 fb3 fb4 fb5 fb6 fb7 ⊢
  have hb1_4 := hid fb1
  have hb2_4 := hid fb2
  have hb3_4 := hid fb3
  have hb4_4 := hid fb4
  have hb5_4 := hid fb5
  have hb6_4 := hid fb6
  have hb7_4 := hid fb7
  have hbl4 := hbb
  clear hw hbb fb1 fb2 fb3 fb4 fb5 fb6 fb7 hx4 hbl3 hb1_3 hb2_3 hb3_3 hb4_3 hb5_3 hb6_3 hle7 hn7
  (repeat ((fail_if_success (with_reducible refine Go.at_region ?_)); go_step))
  refine list_tail 3 ?_
  simp only [List.take_succ_cons, List.take_zero]
  (refine calm_whole rfl _ _ rfl _ rfl _ _ hb3_4.out g5 (i5 r1) ?_; simp only [Act.put, pvA, pv0, pv1])
  (refine calm_whole rfl _ _ rfl _ rfl _ _ hb4_4.out g5 (i5 r2) ?_; simp only [Act.put, pvA, pv0, pv1])
  (apply calm_on rfl; (focus (intro W hB; go_simp; refine (c6.out W).mono ?_; rintro _ _ ⟨rfl, hb'⟩; exact ⟨rfl, hb'⟩)); simp only [Act.put, pvA, pv0, pv1])
  refine calm_nil ?_
  intro wx5 hx5
  simp only [List.drop_succ_cons, List.drop_zero]
  (try simp only [Act.put, pvA, pv0, pv1])
  refine wpList_new 64 (cells5 zero5) rfl rfl z5 ?_
  intro bk8 wy5 hle8 hy5 hn8
  (try simp only [Act.put, pvA, pv0, pv1])
  replace hle8 := Nat.le_trans hx5.size hle8
  replace hx5 := hx5.trans (hy5.mono hx5.size)
  clear hy5
  have fb1 := hb1_4.out.step hx5
  have fb2 := hb2_4.out.step hx5
  have fb3 := hb3_4.out.step hx5
  have fb4 := hb4_4.out.step hx5
  have fb5 := hb5_4.out.step hx5
  have fb6 := hb6_4.out.step hx5
  have fb7 := hb7_4.out.step hx5
  have hbb := hbl4.trans (hx5.mono hbl4.size)
  have fb8 := hn8
  have ne1_8 : w.heap.size ≠ bk8 := by have := hb1_4.out.lt; omega
  have ne2_8 : (w.heap.size + 1) ≠ bk8 := by have := hb2_4.out.lt; omega
  have ne3_8 : bk3 ≠ bk8 := by have := hb3_4.out.lt; omega
  have ne4_8 : bk4 ≠ bk8 := by have := hb4_4.out.lt; omega
  have ne5_8 : bk5 ≠ bk8 := by have := hb5_4.out.lt; omega
  have ne6_8 : bk6 ≠ bk8 := by have := hb6_4.out.lt; omega
  have ne7_8 : bk7 ≠ bk8 := by have := hb7_4.out.lt; omega
  have ge8 : w.heap.size ≤ bk8 := Nat.le_trans hbl4.size hle8
  refine wpList_set _ _ _ rfl rfl rfl _ _ rfl rfl _ _ fb8 (i5 r6) rfl (one_cells5 r6) ?_
  replace fb1 := fb1.other ne1_8 (cells5 r6)
  replace fb2 := fb2.other ne2_8 (cells5 r6)
  replace fb3 := fb3.other ne3_8 (cells5 r6)
  replace fb4 := fb4.other ne4_8 (cells5 r6)
  replace fb5 := fb5.other ne5_8 (cells5 r6)
  replace fb6 := fb6.other ne6_8 (cells5 r6)
  replace fb7 := fb7.other ne7_8 (cells5 r6)
  replace fb8 := fb8.set (cells5 r6)
  replace hbb := below_set hbb bk8 (ge8) (cells5 r6)
  refine wpList_nil ?_
  obtain ⟨w5, hw⟩ : ∃ z, z = (wy5.setRow bk8 (cells5 r6)) := ⟨_, rfl⟩
  rw [← hw] at hbb fb1 fb2 fb3 fb4 fb5 fb6 fb7 fb8 ⊢
  have hb1_5 := hid fb1
  have hb2_5 := hid fb2
  have hb3_5 := hid fb3
  have hb4_5 := hid fb4
  have hb5_5 := hid fb5
  have hb6_5 := hid fb6
  have hb7_5 := hid fb7
  have hb8_5 := hid fb8
  have hbl5 := hbb
  clear hw hbb fb1 fb2 fb3 fb4 fb5 fb6 fb7 fb8 hx5 hbl4 hb1_4 hb2_4 hb3_4 hb4_4 hb5_4 hb6_4 hb7_4 hle8 hn8
  (repeat ((fail_if_success (with_reducible refine Go.at_region ?_)); go_step))
  refine draw_tail 13 (by kernel_rfl) (by kernel_rfl) (by kernel_rfl) ?_
  simp only [List.take_succ_cons, List.take_zero]
  (refine calm_whole rfl _ _ rfl _ rfl _ _ hb6_5.out g5 (i5 r4) ?_; simp only [Act.put, pvA, pv0, pv1])
  iterate 2 (refine calm_whole rfl _ _ rfl _ rfl _ _ hb7_5.out g5 (i5 r5) ?_; simp only [Act.put, pvA, pv0, pv1])
  (apply calm_on rfl; (focus (intro W hB; go_simp; refine (c7.out W).mono ?_; rintro _ _ ⟨rfl, hb'⟩; exact ⟨rfl, hb'⟩)); simp only [Act.put, pvA, pv0, pv1])
  (apply calm_on rfl; (focus (intro W hB; go_simp; refine (c8.out W).mono ?_; rintro _ _ ⟨rfl, hb'⟩; exact ⟨rfl, hb'⟩)); simp only [Act.put, pvA, pv0, pv1])
  iterate 2 (refine calm_whole rfl _ _ rfl _ rfl _ _ hb5_5.out g5 (i5 r3) ?_; simp only [Act.put, pvA, pv0, pv1])
  (apply calm_on rfl; (focus (intro W hB; go_simp; refine (c9.out W).mono ?_; rintro _ _ ⟨rfl, hb'⟩; exact ⟨rfl, hb'⟩)); simp only [Act.put, pvA, pv0, pv1])
  (refine calm_whole rfl _ _ rfl _ rfl _ _ hb8_5.out g5 (i5 r6) ?_; simp only [Act.put, pvA, pv0, pv1])
  (apply calm_on rfl; (focus (intro W hB; go_simp; refine (c10.out W).mono ?_; rintro _ _ ⟨rfl, hb'⟩; exact ⟨rfl, hb'⟩)); simp only [Act.put, pvA, pv0, pv1])
  (refine calm_whole rfl _ _ rfl _ rfl _ _ hb8_5.out g5 (i5 r6) ?_; simp only [Act.put, pvA, pv0, pv1])
  (refine calm_whole rfl _ _ rfl _ rfl _ _ hb6_5.out g5 (i5 r4) ?_; simp only [Act.put, pvA, pv0, pv1])
  (apply calm_on rfl; (focus (intro W hB; go_simp; refine (c11.out W).mono ?_; rintro _ _ ⟨rfl, hb'⟩; exact ⟨rfl, hb'⟩)); simp only [Act.put, pvA, pv0, pv1])
  refine calm_nil ?_
  intro wx6 hx6
  simp only [List.drop_succ_cons, List.drop_zero]
  (try simp only [Act.put, pvA, pv0, pv1])
  have fb1 := hb1_5.out.step hx6
  have fb2 := hb2_5.out.step hx6
  have fb3 := hb3_5.out.step hx6
  have fb4 := hb4_5.out.step hx6
  have fb5 := hb5_5.out.step hx6
  have fb6 := hb6_5.out.step hx6
  have fb7 := hb7_5.out.step hx6
  have fb8 := hb8_5.out.step hx6
  have hbb := hbl5.trans (hx6.mono hbl5.size)
  refine wpList_set _ _ _ rfl rfl rfl _ _ rfl rfl _ _ fb2 (i4 r11) rfl (one_cells4 r11) ?_
  replace fb1 := fb1.other (show w.heap.size ≠ (w.heap.size + 1) by omega) (cells4 r11)
  replace fb2 := fb2.set (cells4 r11)
  replace fb3 := fb3.other (Ne.symm ne2_3) (cells4 r11)
  replace fb4 := fb4.other (Ne.symm ne2_4) (cells4 r11)
  replace fb5 := fb5.other (Ne.symm ne2_5) (cells4 r11)
  replace fb6 := fb6.other (Ne.symm ne2_6) (cells4 r11)
  replace fb7 := fb7.other (Ne.symm ne2_7) (cells4 r11)
  replace fb8 := fb8.other (Ne.symm ne2_8) (cells4 r11)
  replace hbb := below_set hbb (w.heap.size + 1) (by omega) (cells4 r11)
  refine wpList_nil ?_
  obtain ⟨w6, hw⟩ : ∃ z, z = (wx6.setRow (w.heap.size + 1) (cells4 r11)) := ⟨_, rfl⟩
  rw [← hw] at hbb fb1 fb2 fb3 fb4 fb5 fb6 fb7 fb8 ⊢
  have hb1_6 := hid fb1
  have hb2_6 := hid fb2
  have hb3_6 := hid fb3
  have hb4_6 := hid fb4
  have hb5_6 := hid fb5
  have hb6_6 := hid fb6
  have hb7_6 := hid fb7
  have hb8_6 := hid fb8
  have hbl6 := hbb
  clear hw hbb fb1 fb2 fb3 fb4 fb5 fb6 fb7 fb8 hx6 hbl5 hb1_5 hb2_5 hb3_5 hb4_5 hb5_5 hb6_5 hb7_5 hb8_5 
  (repeat ((fail_if_success (with_reducible refine Go.at_region ?_)); go_step))
  refine ret_blk (w.heap.size + 1) 66 (cells4 r11) rfl rfl hb2_6.out g4 (i4 r11) rfl ?_
  exact ⟨(by rw [E11.out, E10.out, E9.out, E8.out, E7.out, E6.out, E5.out, E4.out, E3.out, E2.out, E1.out]; first | done | rfl), hbl6⟩
set_option maxRecDepth 100000 in
set_option maxHeartbeats 4000000 in
theorem pointW_any (p : W4) (w : World) (hp : TW p) : Calls Try.prog 44 #[w4 p] w fun e w' => e = .returned (pt (pointW p)) ∧ Below w.heap.size w w' := by
  have c1 := hid fun w => inv5_any p.z w hp.z
  have t1 := inv5_t p.z hp.z
  obtain ⟨r1, e1⟩ : ∃ r, r = inv5 p.z := ⟨_, rfl⟩
  rw [← e1] at c1 t1
  replace t1 := hid t1
  have E1 := hid e1
  clear e1
  have c2 := hid fun w => mul5_any p.x r1 w hp.x t1.out
  have t2 := mul5_t p.x r1 hp.x t1.out
  obtain ⟨r2, e2⟩ : ∃ r, r = mul5 p.x r1 := ⟨_, rfl⟩
  rw [← e2] at c2 t2
  replace t2 := hid t2
  have E2 := hid e2
  clear e2
  have c3 := hid fun w => word5_any r2 w t2.out
  obtain ⟨r3, e3⟩ : ∃ r, r = val5 r2 % pN := ⟨_, rfl⟩
  rw [← e3] at c3
  have E3 := hid e3
  clear e3
  have c4 := hid fun w => mul5_any p.y r1 w hp.y t1.out
  have t4 := mul5_t p.y r1 hp.y t1.out
  obtain ⟨r4, e4⟩ : ∃ r, r = mul5 p.y r1 := ⟨_, rfl⟩
  rw [← e4] at c4 t4
  replace t4 := hid t4
  have E4 := hid e4
  clear e4
  have c5 := hid fun w => word5_any r4 w t4.out
  obtain ⟨r5, e5⟩ : ∃ r, r = val5 r4 % pN := ⟨_, rfl⟩
  rw [← e5] at c5
  have E5 := hid e5
  clear e5
  clear hp
  unfold fe w4 pt wd at *
  obtain ⟨w0, hw0, k1, k2, hbl0⟩ := entry2 w 66 (cells4 p) 44 (cellsP zeroP)
  have hb1_0 := hid k1
  have hb2_0 := hid k2
  clear k1 k2
  go_enter Try.func44, Try.ntmps44
  (repeat ((fail_if_success (with_reducible refine Go.at_region ?_)); go_step))
  refine wp_region_lit ?_
  (refine wpList_box 66 (.tmp 0) rfl rfl (cells4 p) rfl ?_; simp only [Act.put, pvA, pv0, pv1]; (try simp only [World.size_alloc]))
  (refine wpList_alloc_new rfl 44 rfl (cellsP zeroP) zPe ?_; simp only [Act.put, pvA, pv0, pv1]; (try simp only [World.size_alloc]))
  refine wpList_nil ?_
  rw [← hw0]
  clear hw0
  (repeat ((fail_if_success (with_reducible refine Go.at_region ?_)); go_step))
  refine list_tail 3 ?_
  simp only [List.take_succ_cons, List.take_zero]
  (apply calm_on rfl; (focus (intro W hB; go_simp; exact ⟨rfl, Below.refl _ _⟩)); simp only [Act.put, pvA, pv0, pv1])
  (refine calm_part rfl _ _ rfl _ _ rfl _ _ (cells5 (p).z) hb1_0.out (in4_z p) g5 (i5 (p).z) ?_; simp only [Act.put, pvA, pv0, pv1])
  (apply calm_on rfl; (focus (intro W hB; go_simp; refine (c1.out W).mono ?_; rintro _ _ ⟨rfl, hb'⟩; exact ⟨rfl, hb'⟩)); simp only [Act.put, pvA, pv0, pv1])
  refine calm_nil ?_
  intro wx1 hx1
  simp only [List.drop_succ_cons, List.drop_zero]
  (try simp only [Act.put, pvA, pv0, pv1])
  refine wpList_new 64 (cells5 zero5) rfl rfl z5 ?_
  intro bk3 wy1 hle3 hy1 hn3
  (try simp only [Act.put, pvA, pv0, pv1])
  replace hle3 := Nat.le_trans hx1.size hle3
  replace hx1 := hx1.trans (hy1.mono hx1.size)
  clear hy1
  have fb1 := hb1_0.out.step hx1
  have fb2 := hb2_0.out.step hx1
  have hbb := hbl0.trans (hx1.mono hbl0.size)
  have fb3 := hn3
  have ne1_3 : w.heap.size ≠ bk3 := by have := hb1_0.out.lt; omega
  have ne2_3 : (w.heap.size + 1) ≠ bk3 := by have := hb2_0.out.lt; omega
  have ge3 : w.heap.size ≤ bk3 := Nat.le_trans hbl0.size hle3
  refine wpList_set _ _ _ rfl rfl rfl _ _ rfl rfl _ _ fb3 (i5 r1) rfl (one_cells5 r1) ?_
  replace fb1 := fb1.other ne1_3 (cells5 r1)
  replace fb2 := fb2.other ne2_3 (cells5 r1)
  replace fb3 := fb3.set (cells5 r1)
  replace hbb := below_set hbb bk3 (ge3) (cells5 r1)
  refine wpList_nil ?_
  obtain ⟨w1, hw⟩ : ∃ z, z = (wy1.setRow bk3 (cells5 r1)) := ⟨_, rfl⟩
  rw [← hw] at hbb fb1 fb2 fb3 ⊢
  have hb1_1 := hid fb1
  have hb2_1 := hid fb2
  have hb3_1 := hid fb3
  have hbl1 := hbb
  clear hw hbb fb1 fb2 fb3 hx1 hbl0 hb1_0 hb2_0 hle3 hn3
  (repeat ((fail_if_success (with_reducible refine Go.at_region ?_)); go_step))
  refine draw_tail 11 (by kernel_rfl) (by kernel_rfl) (by kernel_rfl) ?_
  simp only [List.take_succ_cons, List.take_zero]
  (apply calm_on rfl; (focus (intro W hB; go_simp; exact ⟨rfl, Below.refl _ _⟩)); simp only [Act.put, pvA, pv0, pv1])
  (refine calm_part rfl _ _ rfl _ _ rfl _ _ (cells5 (p).x) hb1_1.out (in4_x p) g5 (i5 (p).x) ?_; simp only [Act.put, pvA, pv0, pv1])
  (refine calm_whole rfl _ _ rfl _ rfl _ _ hb3_1.out g5 (i5 r1) ?_; simp only [Act.put, pvA, pv0, pv1])
  (apply calm_on rfl; (focus (intro W hB; go_simp; refine (c2.out W).mono ?_; rintro _ _ ⟨rfl, hb'⟩; exact ⟨rfl, hb'⟩)); simp only [Act.put, pvA, pv0, pv1])
  (apply calm_on rfl; (focus (intro W hB; go_simp; refine (c3.out W).mono ?_; rintro _ _ ⟨rfl, hb'⟩; exact ⟨rfl, hb'⟩)); simp only [Act.put, pvA, pv0, pv1])
  (apply calm_on rfl; (focus (intro W hB; go_simp; exact ⟨rfl, Below.refl _ _⟩)); simp only [Act.put, pvA, pv0, pv1])
  (refine calm_part rfl _ _ rfl _ _ rfl _ _ (cells5 (p).y) hb1_1.out (in4_y p) g5 (i5 (p).y) ?_; simp only [Act.put, pvA, pv0, pv1])
  (refine calm_whole rfl _ _ rfl _ rfl _ _ hb3_1.out g5 (i5 r1) ?_; simp only [Act.put, pvA, pv0, pv1])
  (apply calm_on rfl; (focus (intro W hB; go_simp; refine (c4.out W).mono ?_; rintro _ _ ⟨rfl, hb'⟩; exact ⟨rfl, hb'⟩)); simp only [Act.put, pvA, pv0, pv1])
  (apply calm_on rfl; (focus (intro W hB; go_simp; refine (c5.out W).mono ?_; rintro _ _ ⟨rfl, hb'⟩; exact ⟨rfl, hb'⟩)); simp only [Act.put, pvA, pv0, pv1])
  (refine calm_build rfl 44 _ rfl (cellsP ⟨r3, r5⟩) (by first | (simp only [List.map_toArray, List.map_cons, List.map_nil]; exact (bPe r3 r5)) | exact (bPe r3 r5)) ?_; simp only [Act.put, pvA, pv0, pv1])
  refine calm_nil ?_
  intro wx2 hx2
  simp only [List.drop_succ_cons, List.drop_zero]
  (try simp only [Act.put, pvA, pv0, pv1])
  have fb1 := hb1_1.out.step hx2
  have fb2 := hb2_1.out.step hx2
  have fb3 := hb3_1.out.step hx2
  have hbb := hbl1.trans (hx2.mono hbl1.size)
  refine wpList_set _ _ _ rfl rfl rfl _ _ rfl rfl _ _ fb2 (iPe ⟨r3, r5⟩) rfl (one_cellsP ⟨r3, r5⟩) ?_
  replace fb1 := fb1.other (show w.heap.size ≠ (w.heap.size + 1) by omega) (cellsP ⟨r3, r5⟩)
  replace fb2 := fb2.set (cellsP ⟨r3, r5⟩)
  replace fb3 := fb3.other (Ne.symm ne2_3) (cellsP ⟨r3, r5⟩)
  replace hbb := below_set hbb (w.heap.size + 1) (by omega) (cellsP ⟨r3, r5⟩)
  refine wpList_nil ?_
  obtain ⟨w2, hw⟩ : ∃ z, z = (wx2.setRow (w.heap.size + 1) (cellsP ⟨r3, r5⟩)) := ⟨_, rfl⟩
  rw [← hw] at hbb fb1 fb2 fb3 ⊢
  have hb1_2 := hid fb1
  have hb2_2 := hid fb2
  have hb3_2 := hid fb3
  have hbl2 := hbb
  clear hw hbb fb1 fb2 fb3 hx2 hbl1 hb1_1 hb2_1 hb3_1 
  (repeat ((fail_if_success (with_reducible refine Go.at_region ?_)); go_step))
  refine ret_blk (w.heap.size + 1) 44 (cellsP ⟨r3, r5⟩) rfl rfl hb2_2.out gPe (iPe ⟨r3, r5⟩) rfl ?_
  exact ⟨(by rw [E5.out, E4.out, E3.out, E2.out, E1.out]; first | done | rfl), hbl2⟩
end Go.Proofs.Ytejnnghfelpioaa
namespace Go
open Go.RowKit
section
variable {P : Program} {ops : Array Oper}
theorem rowsIn_of_rows {r n : Nat} {row : String} {args : Array Value} {w : World} {R : Value → World → Prop} (h : Rows P row args w R) : RowsIn (Fence.wide.inRound r) n P row args w R :=
  fun c cs _ => let ⟨v, w', hr, s⟩ := h c cs; ⟨v, w', hr, stepsIn_wide.2 s⟩
theorem Oper.wpIn_of_wp {r n : Nat} {o : Oper} {a : Act} {w : World} {K K' : Act → World → Prop} {Q : Exit → Act → World → Prop} (hd : ∀ c, o.op ≠ .defer c) (hK : ∀ a w, K a w → K' a w) (h : o.wp P a w K Q) : o.wpIn (Fence.wide.inRound r) n P a w K' Q := by
  refine ⟨fun _ _ => trivial, ?_⟩
  unfold Oper.wp at h
  rw [Fence.inRound_round, Oper.semAt_some r _ _ hd]
  generalize (execOp a.eval o).run P w = res at h
  match res, h with
  | .ok (.value v) w', h => exact hK _ _ h
  | .ok .skip w', h => exact hK _ _ h
  | .ok (.defer d) w', h => exact hK _ _ h
  | .ok (.enter f args) w', h =>
    refine ⟨fun e => by simp [Fence.wide] at e, CallsIn.inRound r (callsIn_wide.2 (Calls.mono h ?_))⟩
    intro e w'' he
    match e, he with
    | .returned v, he => exact hK _ _ he
    | .panicked c, he => exact he
    | .outgrown, he => exact he
  | .ok (.row row args) w', h => exact ⟨fun e => by simp [Fence.wide] at e, rowsIn_of_rows (Rows.mono h fun v w'' he => hK _ _ he)⟩
  | .halt (.panic v) w', h => exact h
theorem wpOpsIn_of_wpOps {r n : Nat} {Q : Exit → Act → World → Prop} (hQ : ¬ LetsOut Q) (hd : ∀ (i : Nat) (o : Oper) c, ops[i]? = some o → o.op ≠ .defer c) : ∀ (l : List Nat) (a : Act) (w : World), wpOps P ops Q l a w → wpOpsIn (Fence.wide.inRound r) n P ops Q l a w
  | [], a, w, h => h
  | i :: rest, a, w, h => by
    unfold wpOps at h
    unfold wpOpsIn
    cases ho : ops[i]? with
    | none => simp only [ho] at h ⊢; exact wpOpsIn_of_wpOps hQ hd rest a w h
    | some o =>
      simp only [ho] at h ⊢
      split
      · rename_i hw
        rw [if_pos hw] at h
        rcases h with h | ⟨_, h⟩
        · exact Oper.wpIn_of_wp (fun c => hd i o c ho) (fun a w => wpOpsIn_of_wpOps hQ hd rest a w) h
        · exact absurd h hQ
      · rename_i hw
        rw [if_neg hw] at h
        exact ⟨fun _ _ => trivial, wpOpsIn_of_wpOps hQ hd rest _ _ h⟩
theorem noDefer_of {l : List Oper} (h : l.all (fun o => match o.op with | .defer _ => false | _ => true) = true) : ∀ (i : Nat) (o : Oper) c, l.toArray[i]? = some o → o.op ≠ .defer c := by
  intro i o c ho e
  rw [List.all_eq_true] at h
  have := h o (List.mem_of_getElem? (by simpa using ho))
  rw [e] at this
  cases this
theorem wpIn_region_any_round {r n id : Nat} {Q : Exit → Act → World → Prop} {a : Act} {w : World} (hQ : ¬ LetsOut Q) (hd : ∀ (i : Nat) (o : Oper) c, ops[i]? = some o → o.op ≠ .defer c) (hm : P.follows .mixedOrders = true)
    (h : wpAny P .any ops Q ops.size (Array.replicate ops.size false) a w.drew) : (Code.region id ops true).wpIn (Fence.wide.inRound r) n P Q a w :=
  wpIn_region_draw fun t => by
    simp only [Region.schedule, hm, Bool.true_or, if_true]
    exact wpOpsIn_of_wpOps hQ hd _ _ _ (wpAny_sound ops.size t _ a _ h)
theorem wpIn_region_plain {r m id : Nat} {Q : Exit → Act → World → Prop} {a : Act} {w : World} {l : List Oper} (hQ : ¬ LetsOut Q) (hd : l.all (fun o => match o.op with | .defer _ => false | _ => true) = true)
    (h : wpOps P l.toArray Q (List.range l.toArray.size) a w) : (Code.region id l.toArray false).wpIn (Fence.wide.inRound r) m P Q a w :=
  wpIn_region (wpOpsIn_of_wpOps hQ (noDefer_of hd) _ _ _ h)
end
end Go
namespace Go.Proofs.Ytejnnghfelpioaa
open Go.RowKit Go.Shelf
attribute [local go_sem] Oper.semAt_some
def dbit (x k : Nat) : Bool := decide (x / 2 ^ (255 - k) % 2 = 1)
def KpD (B : Nat) (W W' : World) : Prop := W'.heap[B]? = W.heap[B]?
def seqD (B : Nat) : Value := .func (.func 79) #[] #[.pointer (some ⟨B, 0, none⟩)]
set_option maxHeartbeats 1000000 in
theorem edown_any (x : Nat) (w : World) : Calls Try.prog 55 #[wd x] w fun e w' => e = .returned (seqD w.heap.size) ∧ Below w.heap.size w w' ∧ Blk 25 w' w.heap.size (cellsW x) := by
  have hA := hid (Blk.new 25 w (cellsW x))
  unfold wd
  go_enter Try.func55, Try.ntmps55
  go_wp2
  go_ret
  exact ⟨rfl, (by repeat (first | (with_reducible first | exact Below.refl _ _ | assumption | refine World.ext_below_of ?_ ?_ _ | refine Below.setCell ?_ ?_ _ | refine Below.alloc ?_ ?_ _ | refine Below.drew ?_ | refine World.size_le_ext _ _ _ ?_) | (solve | simp [go_sem] | (simp [go_sem]; omega) | omega))), hA.out⟩
set_option maxHeartbeats 2000000 in
theorem down_stops (n x B : Nat) (w : World) (hn : 1 ≤ n) (h0 : Blk 25 w B (cellsW x)) :
    SeqStopsK Fence.wide n Try.prog 79 #[.pointer (some ⟨B, 0, none⟩)] (fun k : Fin 256 => #[.bool (dbit x k.val)]) (KpD B) (fun xs => xs.map Fin.val = List.range 256) (fun _ => True) 256 w := by
  intro l J Jx W hW hJ hJx hY hj0
  have b0 : Blk 25 W B (cellsW x) := (hW.block B h0.lt).trans h0
  refine callsIn_of_wp Try.func79 rfl trivial ?_ rfl
  simp only [Try.ntmps79, List.size_toArray, List.length_cons, List.length_nil, Nat.reduceAdd, Nat.reduceSub, Array.replicate_succ, Array.replicate_zero, List.push_toArray, List.append_toArray, List.nil_append, List.cons_append]
  gi_wp2
  gi_loopw [3] (fun i wr => ∃ (k : Nat) (y : Int) (pre : List (Fin 256)), k ≤ 256 ∧ y + (k : Int) = 255 ∧ i = .int .i64 y ∧ pre.map Fin.val = List.range k ∧ J pre wr ∧ Hid (Blk 25 wr B (cellsW x)))
    (fun i wr => (intOf i + 1).toNat)
  case atStart => exact ⟨0, 255, [], by omega, by omega, rfl, rfl, hj0, hid b0⟩
  case round =>
    obtain ⟨k, y, pre, hk, hy0, rfl, hpre, hjk, b0⟩ := hrel
    by_cases hlt : k < 256
    · obtain ⟨j, hj⟩ : ∃ j : Nat, j = 255 - k := ⟨_, rfl⟩
      obtain rfl : y = (j : Int) := by omega
      have c0 := b0.out.cell (j / 64) _ (cellsW_at x (j / 64) (by omega))
      have l0 := b0.out.lt
      have hbit := lm_bit x j
      have hpl : pre.length = k := by have := congrArg List.length hpre; simpa using this
      obtain ⟨fn, tmps, assign, body, hy, hR⟩ := hY pre ⟨k, hlt⟩ wr hjk (by omega)
      dsimp only at hy
      have hj255 : (j : Int) ≤ 255 := by omega
      have hdb : dbit x k = decide (x / 2 ^ j % 2 = 1) := by unfold dbit; rw [hj]
      rw [hdb] at hy
      have HK := hid hj
      clear hj hdb hy0
      rcases (show x / 2 ^ j % 2 = 0 ∨ x / 2 ^ j % 2 = 1 by omega) with hb | hb
      all_goals
        rw [hb] at hbit hy
        (try rw [show decide ((0 : Nat) = 1) = false from rfl] at hy)
        (try rw [show decide ((1 : Nat) = 1) = true from rfl] at hy)
        clear hb
        gi_wp2
        refine hR.mono ?_
        rintro e W3 (⟨rfl, hJ3, hk3⟩ | ⟨rfl, hJx3⟩)
        · have b03 := hid (show Blk 25 W3 B (cellsW x) from hk3.trans b0.out)
          gi_wp2
          go_roundw
          case rel => exact ⟨k + 1, (j : Int) - 1, pre ++ [⟨k, hlt⟩], by omega, by have := HK.out; omega, by go_num, by rw [List.map_append, hpre, List.range_succ]; rfl, hJ3, b03⟩
          case measure => simp [intOf]
        · gi_wp2
          refine bodyPost_ret (results_none rfl _ _ _) rfl ?_
          exact ⟨⟨_, rfl⟩, .inr ⟨_, trivial, hJx3⟩⟩
    · obtain rfl : k = 256 := by omega
      obtain rfl : y = -1 := by omega
      gi_wp2
      go_end0
      exact ⟨⟨_, rfl⟩, .inl ⟨pre, hpre, hjk⟩⟩
end Go.Proofs.Ytejnnghfelpioaa
namespace Go
open Go.RowKit
theorem wpIn_list {P : Program} {r m id : Nat} {Q : Exit → Act → World → Prop} {a : Act} {w : World} {l : List Oper} (hQ : ¬ LetsOut Q) (hd : l.all (fun o => match o.op with | .defer _ => false | _ => true) = true)
    (h : wpList P l.toArray Q l a w) : (Code.region id l.toArray false).wpIn (Fence.wide.inRound r) m P Q a w :=
  wpIn_region_plain hQ hd (by rw [List.range_eq_range', ← Array.length_toList, wpOps_eq_wpList l.toArray.toList 0 (by simp)]; simpa using h)
theorem wpIn_calm {P : Program} {r m id : Nat} {Q : Exit → Act → World → Prop} {a : Act} {w : World} {l : List Oper} (n : Nat) (hQ : ¬ LetsOut Q) (hd : l.all (fun o => match o.op with | .defer _ => false | _ => true) = true)
    (h : wpCalm P l.toArray w (fun a' => ∀ w', Below w.heap.size w w' → wpList P l.toArray Q (l.drop n) a' w') (l.take n) a) : (Code.region id l.toArray false).wpIn (Fence.wide.inRound r) m P Q a w :=
  wpIn_list hQ hd (by
    have := wpList_calm (tail := l.drop n) (l.take n) a w (Below.refl _ _) h
    rwa [List.take_append_drop] at this)
theorem at_regionIn {P : Program} {F : Fence} {n id : Nat} {b : Bool} {ops : Array Oper} {Q : Exit → Act → World → Prop} {a : Act} {w : World} (h : (Code.region id ops b).wpIn F n P Q a w) : (Code.region id ops b).wpIn F n P Q a w := h
theorem grown_row {W Wx : World} (hx : Below W.heap.size W Wx) (G : Nat) (cs : Array Value) : W.grownBy (Wx.setRow G cs) (some G) :=
  ⟨hx.os, hx.tape, hx.output, by have := hx.size; simpa [World.setRow] using this, fun k hk hne => by
    have : k ≠ G := fun e => hne (by rw [e])
    simp only [World.setRow, Array.getElem?_modify]
    rw [if_neg (by omega)]; exact hx.block k hk⟩
theorem grown_trans {a b c : World} {row : Option Nat} (h : a.grownBy b row) (k : b.grownBy c row) : a.grownBy c row :=
  ⟨k.os.trans h.os, k.tape.trans h.tape, k.output.trans h.output, Nat.le_trans h.size k.size, fun i hi hne => (k.block i (Nat.lt_of_lt_of_le hi h.size) hne).trans (h.block i hi hne)⟩
theorem Blk.grown {t : TypeId} {w w' : World} {g : Nat} {cs : Array Value} {row : Option Nat} (h : Blk t w g cs) (hg : w.grownBy w' row) (hne : some g ≠ row) : Blk t w' g cs := (hg.block g h.lt hne).trans h
end Go
namespace Go.Proofs.Ytejnnghfelpioaa
open Go.RowKit Go.Shelf
attribute [local go_sem] Oper.semAt_some
def stepW (x : Nat) (p o : W4) (k : Nat) : W4 := if dbit x k = true then plusW (twiceW o) p else twiceW o
theorem stepW_t (x : Nat) (p o : W4) (k : Nat) (hp : TW p) (ho : TW o) : TW (stepW x p o k) := by
  unfold stepW; split
  · exact plusW_t _ _ (twiceW_t _ ho) hp
  · exact twiceW_t _ ho
theorem foldW_t (x : Nat) (p : W4) (hp : TW p) : ∀ (l : List Nat) (o : W4), TW o → TW (l.foldl (stepW x p) o)
  | [], _, h => h
  | k :: l, o, h => foldW_t x p hp l _ (stepW_t x p o k hp h)
def mW (x : Nat) (p : W4) : W4 := (List.range 256).foldl (stepW x p) noneW
theorem mW_t (x : Nat) (p : W4) (hp : TW p) : TW (mW x p) := foldW_t x p hp _ _ noneW_t
def mP (x : Nat) (p : W4) (pre : List (Fin 256)) : W4 := (pre.map Fin.val).foldl (stepW x p) noneW
theorem mP_snoc (x : Nat) (p : W4) (pre : List (Fin 256)) (k : Fin 256) : mP x p (pre ++ [k]) = stepW x p (mP x p pre) k.val := by
  unfold mP; rw [List.map_append, List.foldl_append]; rfl
set_option maxRecDepth 100000 in
set_option maxHeartbeats 8000000 in
theorem timesW_any (p : W4) (x : Nat) (w : World) (hp : TW p) : Calls Try.prog 46 #[w4 p, wd x] w fun e w' => e = .returned (w4 (mW x p)) ∧ Below w.heap.size w w' := by
  have hN := hid fun w => none_any w
  have hD := hid fun w => edown_any x w
  have hT := hid fun q w (h : TW q) => twiceW_any q w h
  have hP := hid fun q w (h : TW q) => plusW_any q p w h hp
  have hM := hid fun pre => (show TW (mP x p pre) from foldW_t x p hp _ _ noneW_t)
  clear hp
  obtain ⟨w0, hw0, k2, k3, k4, hb0⟩ := entry3 w 66 (cells4 p) 25 (cellsW x) 66 (cells4 zero4)
  have hA0 := hid k2
  have hX0 := hid k3
  have hR0 := hid k4
  clear k2 k3 k4
  unfold w4 wd at *
  refine (callsIn_wide (n := 3)).1 (callsIn_of_wp_marks Try.func46 rfl trivial (wpIn_wide.2 ?_) rfl)
  simp only [Try.ntmps46, List.size_toArray, List.length_cons, List.length_nil, Nat.reduceAdd, Nat.reduceSub, Array.replicate_succ, Array.replicate_zero, List.push_toArray, List.append_toArray, List.nil_append, List.cons_append]
  go_wp2_with (refine wpList_alloc_new rfl 66 rfl (cells4 zero4) z4 ?_; simp only [Act.put, pvA, pv0, pv1, World.size_alloc])
  rw [← hw0]
  clear hw0
  refine (hN.out _).mono ?_
  rintro e w1 ⟨rfl, hs1⟩
  have hA1 := hid ((hA0.out.step hs1).alloc (.cells (cells4 noneW) 66))
  have hX1 := hid ((hX0.out.step hs1).alloc (.cells (cells4 noneW) 66))
  have hR1 := hid ((hR0.out.step hs1).alloc (.cells (cells4 noneW) 66))
  have hO1 := hid (Blk.new 66 w1 (cells4 noneW))
  have hc1 := hb0.trans (hs1.mono hb0.size)
  have hb1 := hc1.alloc hc1.size (.cells (cells4 noneW) 66)
  have hlt1 := (hR0.out.step hs1).lt
  clear hA0 hX0 hR0 hb0 hs1
  go_wp2_with (first | (refine wpList_allocStore 66 7 5 (cells4 noneW) (cells4 zero4) rfl rfl rfl rfl rfl rfl (by decide) (by simp) rfl (by kernel_rfl) rfl (i4 _) (one_cells4 _) ?_; simp only [Act.put, pvA, pv0, pv1]) | (refine wpList_get _ _ rfl rfl _ rfl _ _ hX1.out gWd (iW x) ?_; simp only [Act.put, pvA, pv0, pv1]))
  obtain ⟨G, hG⟩ : ∃ G, G = w1.heap.size := ⟨_, rfl⟩
  rw [← hG] at hO1 hlt1 ⊢
  clear hG hc1
  generalize w1.alloc (.cells (cells4 noneW) 66) = w2 at hA1 hX1 hR1 hO1 hb1 ⊢
  refine (hD.out _).mono ?_
  rintro e w3 ⟨rfl, hs3, hB3⟩
  have hA3 := hid (hA1.out.step hs3)
  have hR3 := hid (hR1.out.step hs3)
  have hO3 := hid (hO1.out.step hs3)
  have hb3 := hb1.trans (hs3.mono hb1.size)
  have hG3 := hO1.out.lt
  have hB := hid hB3
  have hBl := hB3.lt
  obtain ⟨B, hBB⟩ : ∃ B, B = w2.heap.size := ⟨_, rfl⟩
  rw [← hBB] at hB hBl hG3 ⊢
  clear hA1 hX1 hR1 hO1 hb1 hs3 hB3 hBB
  go_wp2
  refine (wpIn_wide (n := 3)).1 (wpIn_rangeFunc_ownG rfl (by omega) (gf := 79) (lb := #[.pointer (some ⟨B, 0, none⟩)]) rfl trivial (enters_of Try.func79 (by kernel_rfl) rfl)
    (down_stops 2 x B w3 (by omega) hB.out) (fun h k => k.trans h) ?hKb (Below.refl _ _) (fun _ => rfl)
    (fun pre W => Hid (w3.grownBy W (some G) ∧ Blk 66 W G (cells4 (mP x p pre)))) (fun _ _ _ => False) ?hI (fun _ _ _ _ _ hs _ _ => hs) ?h0
    (fun k => { tmps := #[.agg (cells4 p), .agg (cellsW x), .pointer (some ⟨w.heap.size, 0, none⟩), .pointer (some ⟨w.heap.size + 1, 0, none⟩), .pointer (some ⟨w.heap.size + 1 + 1, 0, none⟩), .pointer (some ⟨G, 0, none⟩), .bool (dbit x k.val), .agg (cells4 noneW), .agg (cellsW x), seqD B, .bool (dbit x k.val), undef, undef, undef, undef, undef, undef, undef], defers := [] }) ?assign ?body ?done ?stop)
  case assign =>
    intro l k W K hK
    gi_wp2
    exact hK
  case hKb =>
    intro W l o o' hl _ _ _
    exact World.putObj_heap_other (by omega)
  case hI =>
    intro pre W W' row hs hg hr
    obtain ⟨h1, h2⟩ := hs.out
    have hrow : ∀ k, k < w3.heap.size → some k ≠ row := fun k hk e => by have := (hr k e.symm).1; omega
    refine hid ⟨⟨hg.os.trans h1.os, hg.tape.trans h1.tape, hg.output.trans h1.output, Nat.le_trans h1.size hg.size, fun k hk hne => (hg.block k (Nat.lt_of_lt_of_le hk h1.size) (hrow k hk)).trans (h1.block k hk hne)⟩, (hg.block G h2.lt (hrow G (by omega))).trans h2⟩
  case h0 => exact hid ⟨⟨rfl, rfl, rfl, Nat.le_refl _, fun _ _ _ => rfl⟩, hO3.out⟩
  case stop => intro D c pre W _ _ h; exact h.elim
  case body =>
    intro l pre k W hI hlen
    obtain ⟨hg, hW⟩ := hI.out
    have hTq := hM.out pre
    have hNx := mP_snoc x p pre k
    obtain ⟨q, hq⟩ : ∃ q, q = mP x p pre := ⟨_, rfl⟩
    rw [← hq] at hW hTq hNx
    have hT1 := hid fun w => hT.out q w hTq
    have hTr := twiceW_t q hTq
    have hP1 := hid fun w => hP.out (twiceW q) w hTr
    obtain ⟨b, hb⟩ : ∃ b, b = dbit x k.val := ⟨_, rfl⟩
    unfold stepW at hNx
    rw [← hb] at hNx ⊢
    obtain ⟨t, ht⟩ : ∃ t, t = twiceW q := ⟨_, rfl⟩
    rw [← ht] at hT1 hP1 hNx
    clear hTq hTr hq hb ht hI
    have hGl : w.heap.size + 1 + 1 < G := hlt1
    have hAW := hid (hA3.out.grown hg (by simp; omega))
    have hQW := hid hW
    have hg0 := hg
    clear hW hg
    refine wpIn_block ?_
    (repeat ((fail_if_success (with_reducible refine Go.at_regionIn ?_)); gi_step))
    refine wpIn_calm 2 (by rintro ⟨_, _, h⟩; exact h) (by kernel_rfl) ?_
    simp only [List.take_succ_cons, List.take_zero]
    (refine calm_whole rfl _ _ rfl _ rfl _ _ hQW.out g4 (i4 q) ?_; simp only [Act.put, pvA, pv0, pv1])
    (apply calm_on rfl; (focus (intro W hB; go_simp; refine (hT1.out W).mono ?_; rintro _ _ ⟨rfl, hb'⟩; exact ⟨rfl, hb'⟩)); simp only [Act.put, pvA, pv0, pv1])
    refine calm_nil ?_
    intro Wx hx
    simp only [List.drop_succ_cons, List.drop_zero]
    refine wpList_set 66 (.tmp 5) (.tmp 12) rfl rfl rfl G (cells4 t) rfl rfl 66 (cells4 q) (hQW.out.step hx) (i4 t) rfl (one_cells4 t) ?_
    refine wpList_nil ?_
    have hg1 := grown_row hx G (cells4 t)
    have hQ1 := hid ((hQW.out.step hx).set (cells4 t))
    have hA1 := hid ((hAW.out.step hx).other (show w.heap.size ≠ G by omega) (cells4 t))
    obtain ⟨W1, hW1⟩ : ∃ z, z = Wx.setRow G (cells4 t) := ⟨_, rfl⟩
    rw [← hW1] at hg1 hQ1 hA1 ⊢
    clear hW1 hx hQW hAW hT1
    cases b
    · rw [if_neg (by decide)] at hNx
      have HN := hid hNx
      clear hNx
      gi_wp2
      exact ⟨KeepsFrom.of_grownBy hg1 (fun j e => by cases e; omega), hg1.block B (by have := hg0.size; omega) (by simp; omega), hid ⟨grown_trans hg0 hg1, by rw [HN.out]; exact hQ1.out⟩⟩
    · rw [if_pos rfl] at hNx
      have HN := hid hNx
      clear hNx
      (repeat ((fail_if_success (with_reducible refine Go.at_regionIn ?_)); gi_step))
      refine wpIn_calm 1 (by rintro ⟨_, _, h⟩; exact h) (by kernel_rfl) ?_
      simp only [List.take_succ_cons, List.take_zero]
      (apply calm_on rfl; (focus (intro W hB; go_simp; exact ⟨rfl, Below.refl _ _⟩)); simp only [Act.put, pvA, pv0, pv1])
      refine calm_nil ?_
      intro W2 h2
      simp only [List.drop_succ_cons, List.drop_zero]
      refine wpList_nil ?_
      have hQ2 := hid (hQ1.out.step h2)
      have hA2 := hid (hA1.out.step h2)
      (repeat ((fail_if_success (with_reducible refine Go.at_regionIn ?_)); gi_step))
      refine wpIn_calm 3 (by rintro ⟨_, _, h⟩; exact h) (by kernel_rfl) ?_
      simp only [List.take_succ_cons, List.take_zero]
      (refine calm_whole rfl _ _ rfl _ rfl _ _ hQ2.out g4 (i4 t) ?_; simp only [Act.put, pvA, pv0, pv1])
      (refine calm_whole rfl _ _ rfl _ rfl _ _ hA2.out g4 (i4 p) ?_; simp only [Act.put, pvA, pv0, pv1])
      (apply calm_on rfl; (focus (intro W hB; go_simp; refine (hP1.out W).mono ?_; rintro _ _ ⟨rfl, hb'⟩; exact ⟨rfl, hb'⟩)); simp only [Act.put, pvA, pv0, pv1])
      refine calm_nil ?_
      intro Wy hy
      simp only [List.drop_succ_cons, List.drop_zero]
      obtain ⟨u, hu⟩ : ∃ u, u = plusW t p := ⟨_, rfl⟩
      rw [← hu]
      refine wpList_set 66 (.tmp 5) (.tmp 16) rfl rfl rfl G (cells4 u) rfl rfl 66 (cells4 t) (hQ2.out.step hy) (i4 u) rfl (one_cells4 u) ?_
      refine wpList_nil ?_
      have hg2 : W1.grownBy (Wy.setRow G (cells4 u)) (some G) := grown_row (h2.trans (hy.mono h2.size)) G (cells4 u)
      have hg3 := grown_trans hg1 hg2
      have hQ3 := (hQ2.out.step hy).set (cells4 u)
      exact ⟨KeepsFrom.of_grownBy hg3 (fun j e => by cases e; omega), hg3.block B (by have := hg0.size; omega) (by simp; omega), hid ⟨grown_trans hg0 hg3, by rw [HN.out, ← hu]; exact hQ3⟩⟩
  case done =>
    intro D xs W hD hS hI hKD
    obtain ⟨hg, hW⟩ := hI.out
    have hxs : mP x p xs = mW x p := by unfold mP mW; rw [hS]
    rw [hxs] at hW
    have hRW := hid (hR3.out.grown hg (by simp; omega))
    have hQW := hid hW
    obtain ⟨r, hr⟩ : ∃ r, r = mW x p := ⟨_, rfl⟩
    rw [← hr] at hQW
    have HR := hid hr
    clear hxs hr hW hS hI
    go_wp2_with (first | (refine wpList_get _ _ rfl rfl _ rfl _ _ hQW.out g4 (i4 r) ?_; simp only [Act.put, pvA, pv0, pv1]) | (refine wpList_set _ _ _ rfl rfl rfl _ _ rfl rfl _ _ hRW.out (i4 r) rfl (one_cells4 r) ?_))
    have hne : w.heap.size + 1 + 1 ≠ D := by omega
    have hK' : (W.setRow (w.heap.size + 1 + 1) (cells4 r)).heap[D]? = some (.deferred (some [])) := by
      simp only [World.setRow, Array.getElem?_modify]
      rw [if_neg (by omega)]; exact hKD
    have hRb := hRW.out.set (cells4 r)
    have hbW : Below w.heap.size w (W.setRow (w.heap.size + 1 + 1) (cells4 r)) := below_set (hb3.grown hg hb3.size (fun k e => by cases e; omega)) _ (by omega) _
    refine ⟨by simp, .inl ⟨_, _, rfl, run_takeDeferred hK', ?_⟩⟩
    obtain ⟨d, h1, h2⟩ := aggT_spec g4
    refine ⟨_, results_cell_row rfl _ _ (w.heap.size + 1 + 1) 66 (cells4 r) (0, 0) d rfl ((World.putObj_heap_other hne).trans hRb) h1 (by cases d <;> first | rfl | cases h2) (i4 r), by rw [HR.out], ?_⟩
    exact hbW.grown (grownBy_putObj' _ D _) hbW.size (fun k e => by cases e; omega)
end Go.Proofs.Ytejnnghfelpioaa
namespace Go
open Go.RowKit
theorem wpIn_draw_all {P : Program} {r m id : Nat} {Q : Exit → Act → World → Prop} {a0 : Act} {w0 : World} {l : List Oper} (hQ : ¬ LetsOut Q) (hd : l.all (fun o => match o.op with | .defer _ => false | _ => true) = true)
    (hm : P.follows .mixedOrders = true) (hB : looseB l l.length = true) (hS : specB l = true)
    (h : wpCalm P l.toArray w0 (fun a' => ∀ w, Below w0.heap.size w0 w → Q .normal a' w) l a0) : (Code.region id l.toArray true).wpIn (Fence.wide.inRound r) m P Q a0 w0 := by
  obtain ⟨es, h1, h2, a', h3, h4, h5⟩ := calm_ents l a0 0 h
  have hL := h5 es l.length (fun a w => Q .normal a w) [] (fun j e hj => by rw [Nat.zero_add]; exact hj) (fun w hb _ => h3 w hb)
  rw [List.append_nil] at hL
  have h' : looseL P l es w0 l.length (fun a w => Q .normal a w) 0 (l.take l.length) a0 := by rw [List.take_length]; exact hL
  refine wpIn_region_any_round hQ (noDefer_of hd) hm ?_
  refine wpAny_of_spec (Φ := phiOf es) (w0 := w0) (a0 := a0) hS (phiOf_keeps es h2) (fun i o ho a w hl => ?_) (fun f w hb hf => ?_) _ _ a0 _ (by simp [unlisted]) ⟨by simp, (Below.refl _ _).drew, rfl, rfl, fun d _ => rfl, fun i o d hi hl _ _ => ?_⟩
  · have hi : i < l.length := by
      rcases Nat.lt_or_ge i l.length with h1 | h1
      · exact h1
      · rw [List.getElem?_eq_none h1] at ho; cases ho
    exact loose_each hB hS (Nat.le_refl _) h' i o hi ho a w hl
  · have := loose_fin hS (Nat.le_refl _) h' f w hb (fun i o d _ h1 h2 h3 => hf i o d h1 h2 h3)
    rw [List.take_length] at this
    exact this
  · have hlt : i < l.length := by
      rcases Nat.lt_or_ge i l.length with h' | h'
      · exact h'
      · rw [List.getElem?_eq_none h'] at hi; cases hi
    simp [Array.getD, hlt] at hl
structure World.two (w w' : World) (G H : Nat) : Prop where
  os : w'.os = w.os
  tape : w'.tape = w.tape
  output : w'.output = w.output
  size : w.heap.size ≤ w'.heap.size
  block : ∀ k, k < w.heap.size → k ≠ G → k ≠ H → w'.heap[k]? = w.heap[k]?
theorem World.two.refl (w : World) (G H : Nat) : w.two w G H := ⟨rfl, rfl, rfl, Nat.le_refl _, fun _ _ _ _ => rfl⟩
theorem World.two.trans {a b c : World} {G H : Nat} (h : a.two b G H) (k : b.two c G H) : a.two c G H :=
  ⟨k.os.trans h.os, k.tape.trans h.tape, k.output.trans h.output, Nat.le_trans h.size k.size, fun i hi h1 h2 => (k.block i (Nat.lt_of_lt_of_le hi h.size) h1 h2).trans (h.block i hi h1 h2)⟩
theorem World.two.of_below {a b : World} (h : Below a.heap.size a b) (G H : Nat) : a.two b G H := ⟨h.os, h.tape, h.output, h.size, fun k hk _ _ => h.block k hk⟩
theorem World.two.setG {a b : World} {G H : Nat} (h : a.two b G H) (cs : Array Value) : a.two (b.setRow G cs) G H :=
  ⟨h.os, h.tape, h.output, by have := h.size; simpa [World.setRow] using this, fun k hk h1 h2 => by
    simp only [World.setRow, Array.getElem?_modify]
    rw [if_neg (by omega)]; exact h.block k hk h1 h2⟩
theorem World.two.setH {a b : World} {G H : Nat} (h : a.two b G H) (cs : Array Value) : a.two (b.setRow H cs) G H :=
  ⟨h.os, h.tape, h.output, by have := h.size; simpa [World.setRow] using this, fun k hk h1 h2 => by
    simp only [World.setRow, Array.getElem?_modify]
    rw [if_neg (by omega)]; exact h.block k hk h1 h2⟩
theorem Blk.two {t : TypeId} {w w' : World} {g G H : Nat} {cs : Array Value} (h : Blk t w g cs) (hg : w.two w' G H) (h1 : g ≠ G) (h2 : g ≠ H) : Blk t w' g cs := (hg.block g h.lt h1 h2).trans h
theorem KeepsFrom.of_two {B : Nat} {W W' : World} {G H : Nat} (hg : W.two W' G H) (h1 : G < B) (h2 : H < B) : KeepsFrom B W W' :=
  ⟨hg.size, fun k o hB hk _ => (hg.block k (Array.getElem?_eq_some_iff.1 hk).1 (by omega) (by omega)).trans hk⟩
theorem World.two.grown {a b c : World} {G H : Nat} {row : Option Nat} (h : a.two b G H) (k : b.grownBy c row) (hr : ∀ j, row = some j → a.heap.size ≤ j) : a.two c G H :=
  ⟨k.os.trans h.os, k.tape.trans h.tape, k.output.trans h.output, Nat.le_trans h.size k.size, fun i hi h1 h2 => (k.block i (Nat.lt_of_lt_of_le hi h.size) (fun e => by have := hr i e.symm; omega)).trans (h.block i hi h1 h2)⟩
theorem Below.two {B : Nat} {a b c : World} {G H : Nat} (h : Below B a b) (k : b.two c G H) (hB : B ≤ b.heap.size) (h1 : B ≤ G) (h2 : B ≤ H) : Below B a c :=
  h.trans ⟨k.os, k.tape, k.output, k.size, fun i hi => k.block i (by omega) (by omega) (by omega)⟩
theorem run_storeVar_int {P : Program} (w : World) (g : Nat) (t ty : TypeId) (u : Value) (k : IntKind) (n : Int) (hg : Blk t w g #[u]) (hi : (P.info? ty).map (·.size) = some 1) :
    (storeVar ty ⟨g, 0, none⟩ (.int k n)).run P w = .ok () (w.setRow g #[.int k n]) := by
  have := run_storeCells_at P g 0 t [.int k n] 0 #[u] w hg (by simp) (fun v hv => by simp at hv; subst hv; rfl)
  cases hq : P.info? ty with
  | none => simp [hq] at hi
  | some i =>
    have hs : i.size = 1 := by simpa [hq] using hi
    simp only [Nat.add_zero, Nat.zero_add] at this
    simp [storeVar, sizeOf, typeInfo, hq, Value.cells, hs, this]
theorem wpList_put {P : Program} {ops : Array Oper} {rest : List Oper} {o : Oper} {a : Act} {w : World} {Q' : Exit → Act → World → Prop} (T : TypeId) (x y : Operand) (ho : o.op = .store T x y) (hg : o.guard = none) (hd : o.dst = none) (b : Nat) (k : IntKind) (n : Int) (hx : a.eval x = .pointer (some ⟨b, 0, none⟩)) (hy : a.eval y = .int k n)
    (t : TypeId) (u : Value) (hb : Blk t w b #[u]) (hi : (P.info? T).map (·.size) = some 1) (h : wpList P ops Q' rest a (w.setRow b #[.int k n])) : wpList P ops Q' (o :: rest) a w :=
  wpList_plain hg fun K hK => by
    unfold Oper.wp execOp
    simp only [ho, hx, hy, Instr.storeAt, Instr.sureAddr, Sem.run_bind, Sem.run_pure, Result.andThen_ok, run_storeVar_int w b t T u k n hb hi, Oper.upon]
    have := hK _ _ h
    rw [hd]; exact this
end Go
