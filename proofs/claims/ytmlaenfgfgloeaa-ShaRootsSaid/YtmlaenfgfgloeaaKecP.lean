import Derived.Test.YtmlaenfgfgloeaaKecS
import Derived.Test.YtmlaenfgfgloeaaKecC
/-! The reference's Permute. -/
set_option maxRecDepth 4000
set_option linter.unusedVariables false
set_option linter.unusedSimpArgs false
namespace Go.Proofs.Ytmlaenfgfgloeaa
open Go.RowKit

def rbGo (s c : List (BitVec 64)) : Nat → List (BitVec 64)
  | 0 => List.replicate 25 0
  | n + 1 => (rbGo s c n).set (n % 5 + 5 * ((2 * (n / 5) + 3 * (n % 5)) % 5)) (((nb s (n / 5 + 5 * (n % 5)) ^^^ nb c ((n / 5 + 4) % 5)) ^^^ (nb c ((n / 5 + 1) % 5)).rotateLeft 1).rotateLeft (nn offL (n / 5 + 5 * (n % 5))))
theorem rbGo_len (s c : List (BitVec 64)) (n : Nat) : (rbGo s c n).length = 25 := by induction n <;> simp [rbGo, *]
def rcGo (b s : List (BitVec 64)) : Nat → List (BitVec 64)
  | 0 => s
  | n + 1 => (rcGo b s n).set (n / 5 + 5 * (n % 5)) (nb b (n / 5 + 5 * (n % 5)) ^^^ (~~~ nb b ((n / 5 + 1) % 5 + 5 * (n % 5)) &&& nb b ((n / 5 + 2) % 5 + 5 * (n % 5))))
theorem rcGo_len (b s : List (BitVec 64)) (n : Nat) : (rcGo b s n).length = s.length := by induction n <;> simp [rcGo, *]
def rroundL (s : List (BitVec 64)) (r : Nat) : List (BitVec 64) := iotaL (rcGo (rbGo s (csum s 25) 25) s 25) r
theorem rround_len (s : List (BitVec 64)) (r : Nat) : (rroundL s r).length = s.length := by simp [rroundL, iotaL, rcGo_len]

theorem len25 {α : Type} {l : List α} (h : l.length = 25) : ∃ s0 s1 s2 s3 s4 s5 s6 s7 s8 s9 s10 s11 s12 s13 s14 s15 s16 s17 s18 s19 s20 s21 s22 s23 s24, l = [s0, s1, s2, s3, s4, s5, s6, s7, s8, s9, s10, s11, s12, s13, s14, s15, s16, s17, s18, s19, s20, s21, s22, s23, s24] := by
  match l, h with
  | [s0, s1, s2, s3, s4, s5, s6, s7, s8, s9, s10, s11, s12, s13, s14, s15, s16, s17, s18, s19, s20, s21, s22, s23, s24], _ => exact ⟨s0, s1, s2, s3, s4, s5, s6, s7, s8, s9, s10, s11, s12, s13, s14, s15, s16, s17, s18, s19, s20, s21, s22, s23, s24, rfl⟩
theorem len5 {α : Type} {l : List α} (h : l.length = 5) : ∃ a b c d e, l = [a, b, c, d, e] := by
  match l, h with
  | [a, b, c, d, e], _ => exact ⟨a, b, c, d, e, rfl⟩
theorem th_lit (c0 c1 c2 c3 c4 s0 s1 s2 s3 s4 s5 s6 s7 s8 s9 s10 s11 s12 s13 s14 s15 s16 s17 s18 s19 s20 s21 s22 s23 s24 : BitVec 64) : thGo [c0, c1, c2, c3, c4] [s0, s1, s2, s3, s4, s5, s6, s7, s8, s9, s10, s11, s12, s13, s14, s15, s16, s17, s18, s19, s20, s21, s22, s23, s24] 25 = [s0 ^^^ (c4 ^^^ c1.rotateLeft 1), s1 ^^^ (c0 ^^^ c2.rotateLeft 1), s2 ^^^ (c1 ^^^ c3.rotateLeft 1), s3 ^^^ (c2 ^^^ c4.rotateLeft 1), s4 ^^^ (c3 ^^^ c0.rotateLeft 1), s5 ^^^ (c4 ^^^ c1.rotateLeft 1), s6 ^^^ (c0 ^^^ c2.rotateLeft 1), s7 ^^^ (c1 ^^^ c3.rotateLeft 1), s8 ^^^ (c2 ^^^ c4.rotateLeft 1), s9 ^^^ (c3 ^^^ c0.rotateLeft 1), s10 ^^^ (c4 ^^^ c1.rotateLeft 1), s11 ^^^ (c0 ^^^ c2.rotateLeft 1), s12 ^^^ (c1 ^^^ c3.rotateLeft 1), s13 ^^^ (c2 ^^^ c4.rotateLeft 1), s14 ^^^ (c3 ^^^ c0.rotateLeft 1), s15 ^^^ (c4 ^^^ c1.rotateLeft 1), s16 ^^^ (c0 ^^^ c2.rotateLeft 1), s17 ^^^ (c1 ^^^ c3.rotateLeft 1), s18 ^^^ (c2 ^^^ c4.rotateLeft 1), s19 ^^^ (c3 ^^^ c0.rotateLeft 1), s20 ^^^ (c4 ^^^ c1.rotateLeft 1), s21 ^^^ (c0 ^^^ c2.rotateLeft 1), s22 ^^^ (c1 ^^^ c3.rotateLeft 1), s23 ^^^ (c2 ^^^ c4.rotateLeft 1), s24 ^^^ (c3 ^^^ c0.rotateLeft 1)] := by kernel_rfl
theorem rp_lit (b0 b1 b2 b3 b4 b5 b6 b7 b8 b9 b10 b11 b12 b13 b14 b15 b16 b17 b18 b19 b20 b21 b22 b23 b24 : BitVec 64) : rhopi [b0, b1, b2, b3, b4, b5, b6, b7, b8, b9, b10, b11, b12, b13, b14, b15, b16, b17, b18, b19, b20, b21, b22, b23, b24] = [b0, b6.rotateLeft 44, b12.rotateLeft 43, b18.rotateLeft 21, b24.rotateLeft 14, b3.rotateLeft 28, b9.rotateLeft 20, b10.rotateLeft 3, b16.rotateLeft 45, b22.rotateLeft 61, b1.rotateLeft 1, b7.rotateLeft 6, b13.rotateLeft 25, b19.rotateLeft 8, b20.rotateLeft 18, b4.rotateLeft 27, b5.rotateLeft 36, b11.rotateLeft 10, b17.rotateLeft 15, b23.rotateLeft 56, b2.rotateLeft 62, b8.rotateLeft 55, b14.rotateLeft 39, b15.rotateLeft 41, b21.rotateLeft 2] := by kernel_rfl
theorem rb_lit (c0 c1 c2 c3 c4 s0 s1 s2 s3 s4 s5 s6 s7 s8 s9 s10 s11 s12 s13 s14 s15 s16 s17 s18 s19 s20 s21 s22 s23 s24 : BitVec 64) : rbGo [s0, s1, s2, s3, s4, s5, s6, s7, s8, s9, s10, s11, s12, s13, s14, s15, s16, s17, s18, s19, s20, s21, s22, s23, s24] [c0, c1, c2, c3, c4] 25 = [((s0 ^^^ c4) ^^^ c1.rotateLeft 1).rotateLeft 0, ((s6 ^^^ c0) ^^^ c2.rotateLeft 1).rotateLeft 44, ((s12 ^^^ c1) ^^^ c3.rotateLeft 1).rotateLeft 43, ((s18 ^^^ c2) ^^^ c4.rotateLeft 1).rotateLeft 21, ((s24 ^^^ c3) ^^^ c0.rotateLeft 1).rotateLeft 14, ((s3 ^^^ c2) ^^^ c4.rotateLeft 1).rotateLeft 28, ((s9 ^^^ c3) ^^^ c0.rotateLeft 1).rotateLeft 20, ((s10 ^^^ c4) ^^^ c1.rotateLeft 1).rotateLeft 3, ((s16 ^^^ c0) ^^^ c2.rotateLeft 1).rotateLeft 45, ((s22 ^^^ c1) ^^^ c3.rotateLeft 1).rotateLeft 61, ((s1 ^^^ c0) ^^^ c2.rotateLeft 1).rotateLeft 1, ((s7 ^^^ c1) ^^^ c3.rotateLeft 1).rotateLeft 6, ((s13 ^^^ c2) ^^^ c4.rotateLeft 1).rotateLeft 25, ((s19 ^^^ c3) ^^^ c0.rotateLeft 1).rotateLeft 8, ((s20 ^^^ c4) ^^^ c1.rotateLeft 1).rotateLeft 18, ((s4 ^^^ c3) ^^^ c0.rotateLeft 1).rotateLeft 27, ((s5 ^^^ c4) ^^^ c1.rotateLeft 1).rotateLeft 36, ((s11 ^^^ c0) ^^^ c2.rotateLeft 1).rotateLeft 10, ((s17 ^^^ c1) ^^^ c3.rotateLeft 1).rotateLeft 15, ((s23 ^^^ c2) ^^^ c4.rotateLeft 1).rotateLeft 56, ((s2 ^^^ c1) ^^^ c3.rotateLeft 1).rotateLeft 62, ((s8 ^^^ c2) ^^^ c4.rotateLeft 1).rotateLeft 55, ((s14 ^^^ c3) ^^^ c0.rotateLeft 1).rotateLeft 39, ((s15 ^^^ c4) ^^^ c1.rotateLeft 1).rotateLeft 41, ((s21 ^^^ c0) ^^^ c2.rotateLeft 1).rotateLeft 2] := by kernel_rfl
theorem chi_lit (b0 b1 b2 b3 b4 b5 b6 b7 b8 b9 b10 b11 b12 b13 b14 b15 b16 b17 b18 b19 b20 b21 b22 b23 b24 : BitVec 64) : chiL [b0, b1, b2, b3, b4, b5, b6, b7, b8, b9, b10, b11, b12, b13, b14, b15, b16, b17, b18, b19, b20, b21, b22, b23, b24] = [b0 ^^^ (~~~ b1 &&& b2), b1 ^^^ (~~~ b2 &&& b3), b2 ^^^ (~~~ b3 &&& b4), b3 ^^^ (~~~ b4 &&& b0), b4 ^^^ (~~~ b0 &&& b1), b5 ^^^ (~~~ b6 &&& b7), b6 ^^^ (~~~ b7 &&& b8), b7 ^^^ (~~~ b8 &&& b9), b8 ^^^ (~~~ b9 &&& b5), b9 ^^^ (~~~ b5 &&& b6), b10 ^^^ (~~~ b11 &&& b12), b11 ^^^ (~~~ b12 &&& b13), b12 ^^^ (~~~ b13 &&& b14), b13 ^^^ (~~~ b14 &&& b10), b14 ^^^ (~~~ b10 &&& b11), b15 ^^^ (~~~ b16 &&& b17), b16 ^^^ (~~~ b17 &&& b18), b17 ^^^ (~~~ b18 &&& b19), b18 ^^^ (~~~ b19 &&& b15), b19 ^^^ (~~~ b15 &&& b16), b20 ^^^ (~~~ b21 &&& b22), b21 ^^^ (~~~ b22 &&& b23), b22 ^^^ (~~~ b23 &&& b24), b23 ^^^ (~~~ b24 &&& b20), b24 ^^^ (~~~ b20 &&& b21)] := by kernel_rfl
theorem rc_lit (b0 b1 b2 b3 b4 b5 b6 b7 b8 b9 b10 b11 b12 b13 b14 b15 b16 b17 b18 b19 b20 b21 b22 b23 b24 s0 s1 s2 s3 s4 s5 s6 s7 s8 s9 s10 s11 s12 s13 s14 s15 s16 s17 s18 s19 s20 s21 s22 s23 s24 : BitVec 64) : rcGo [b0, b1, b2, b3, b4, b5, b6, b7, b8, b9, b10, b11, b12, b13, b14, b15, b16, b17, b18, b19, b20, b21, b22, b23, b24] [s0, s1, s2, s3, s4, s5, s6, s7, s8, s9, s10, s11, s12, s13, s14, s15, s16, s17, s18, s19, s20, s21, s22, s23, s24] 25 = [b0 ^^^ (~~~ b1 &&& b2), b1 ^^^ (~~~ b2 &&& b3), b2 ^^^ (~~~ b3 &&& b4), b3 ^^^ (~~~ b4 &&& b0), b4 ^^^ (~~~ b0 &&& b1), b5 ^^^ (~~~ b6 &&& b7), b6 ^^^ (~~~ b7 &&& b8), b7 ^^^ (~~~ b8 &&& b9), b8 ^^^ (~~~ b9 &&& b5), b9 ^^^ (~~~ b5 &&& b6), b10 ^^^ (~~~ b11 &&& b12), b11 ^^^ (~~~ b12 &&& b13), b12 ^^^ (~~~ b13 &&& b14), b13 ^^^ (~~~ b14 &&& b10), b14 ^^^ (~~~ b10 &&& b11), b15 ^^^ (~~~ b16 &&& b17), b16 ^^^ (~~~ b17 &&& b18), b17 ^^^ (~~~ b18 &&& b19), b18 ^^^ (~~~ b19 &&& b15), b19 ^^^ (~~~ b15 &&& b16), b20 ^^^ (~~~ b21 &&& b22), b21 ^^^ (~~~ b22 &&& b23), b22 ^^^ (~~~ b23 &&& b24), b23 ^^^ (~~~ b24 &&& b20), b24 ^^^ (~~~ b20 &&& b21)] := by kernel_rfl
theorem rot_zero (x : BitVec 64) : x.rotateLeft 0 = x := by
  rw [BitVec.rotateLeft_def, Nat.zero_mod, BitVec.shiftLeft_zero, Nat.sub_zero, BitVec.ushiftRight_eq_zero (by omega), BitVec.or_zero]
/-- The two rounds are one. -/
theorem round_same (s : List (BitVec 64)) (r : Nat) (h : s.length = 25) : rroundL s r = roundL s r := by
  unfold rroundL roundL thetaL
  obtain ⟨c0, c1, c2, c3, c4, hc⟩ := len5 (csum_len s 25)
  rw [hc]
  clear hc
  obtain ⟨s0, s1, s2, s3, s4, s5, s6, s7, s8, s9, s10, s11, s12, s13, s14, s15, s16, s17, s18, s19, s20, s21, s22, s23, s24, rfl⟩ := len25 h
  rw [th_lit, rp_lit, rb_lit, chi_lit, rc_lit]
  simp only [BitVec.xor_assoc, rot_zero]
end Go.Proofs.Ytmlaenfgfgloeaa
