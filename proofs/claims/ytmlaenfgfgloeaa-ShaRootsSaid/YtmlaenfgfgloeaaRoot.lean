import Derived.Test.YtmlaenfgfgloeaaPrm
import Derived.Test.YtmlaenfgfgloeaaNatS
import Derived.Test.YtmlaenfgfgloeaaNatT
import Derived.Test.YtmlaenfgfgloeaaNatPw
/-! conclaveref03.Root. -/
set_option maxRecDepth 4000
set_option linter.unusedVariables false
set_option linter.unusedSimpArgs false
namespace Go.Proofs.Ytmlaenfgfgloeaa
open Go.RowKit

def kb (x : Nat) : Nat → List Nat
  | 0 => []
  | i + 1 => kb x i ++ [x / 256 ^ i % 256]
theorem kb_len (x i : Nat) : (kb x i).length = i := by induction i <;> simp [kb, *]
theorem kb_dig (x i : Nat) : Dig (kb x i) := by
  induction i with
  | zero => intro d hd; simp [kb] at hd
  | succ i ih => exact Dig.app ih (fun d hd => by simp at hd; subst hd; exact Nat.mod_lt _ (by omega))
theorem kb_num (x i : Nat) : num (kb x i) = x % 256 ^ i := by
  induction i with
  | zero => simp [kb, num, Nat.mod_one]
  | succ i ih =>
    rw [kb, num_app, ih, kb_len, Nat.pow_succ, Nat.mod_mul]
    simp [num]
theorem RdN.lit1 (w : World) : RdN (w.alloc (.cells #[.int .i64 1] 3)) (.slice (some ⟨w.heap.size, 0, none⟩) 1 1) 1 := by
  have h : dg 1 = [1] := by rw [dg_pos 1 (by omega), show 1 / 256 = 0 from rfl, dg_zero]
  have := ArrL.rd (ArrL.new w [1]) 1 (by simp)
  unfold RdN; rw [h]; exact this
def rootB (p deg v k : Nat) : Bool := decide ((k + 2 ^ 64 * v) ^ deg ≤ p * 2 ^ (64 * deg)) && decide (p * 2 ^ (64 * deg) < (k + 2 ^ 64 * v + 1) ^ deg)
theorem cmpI_le0 (a b : Nat) : cmpI a b ≤ 0 ↔ a ≤ b := by
  unfold cmpI; split
  · omega
  · split <;> omega
theorem cmpI_gt0 (a b : Nat) : 0 < cmpI a b ↔ b < a := by
  unfold cmpI; split
  · omega
  · split <;> omega
theorem pow_small (a d : Nat) (ha : a ≤ 22) (hd : d ≤ 3) : a ^ d ≤ 10648 := by
  have h1 : a ^ d ≤ 22 ^ d := Nat.pow_le_pow_left ha d
  have h2 : 22 ^ d ≤ 22 ^ 3 := Nat.pow_le_pow_right (by omega) hd
  omega
theorem pow_dg (x d : Nat) (hx : x < 2 ^ 80) (hd : d ≤ 3) : (dg (x ^ d)).length ≤ 64 := by
  refine dg_len _ 64 ?_
  have h1 : x ^ d ≤ (2 ^ 80) ^ d := Nat.pow_le_pow_left (Nat.le_of_lt hx) d
  have h2 : (2 ^ 80) ^ d ≤ (2 ^ 80) ^ 3 := Nat.pow_le_pow_right (Nat.pow_pos (by omega)) hd
  exact Nat.lt_of_le_of_lt (Nat.le_trans h1 h2) (by decide)
theorem RdL.lit2 (w : World) (a b : Nat) : RdL (w.alloc (.cells #[.int .i64 (a : Int), .int .i64 (b : Int)] 3)) (.slice (some ⟨w.heap.size, 0, none⟩) 2 2) [a, b] :=
  ArrL.rd (ArrL.new w [a, b]) 2 (by simp)

set_option maxRecDepth 100000 in
set_option maxHeartbeats 4000000 in
theorem root_any (i deg v k : Nat) (w : World) (hi : i < 80) (hdeg : deg = 2 ∨ deg = 3) (hv : v ≤ 21) (hk : k < 2 ^ 64) (hv1 : v ^ deg ≤ prN i) (hv2 : prN i < (v + 1) ^ deg) :
    Calls Try.prog 23 #[.int .i64 (i : Int), .int .i64 (deg : Int), .int .u64 (k : Int)] w fun e w' => e = .returned (.bool (rootB (prN i) deg v k)) ∧ Below w.heap.size w w' := by
  obtain ⟨i0, hi0, hz0, hz1, hz2⟩ := info_parts infoI
  have hP := hid (fun w => prime_any i w hi)
  obtain ⟨hp2, hp9⟩ := prN_bd i hi
  obtain ⟨p, hp⟩ : ∃ p, p = prN i := ⟨_, rfl⟩
  rw [← hp] at hP hp2 hp9 hv1 hv2 ⊢
  have hd2 : 2 ≤ deg := by omega
  have hd3 : deg ≤ 3 := by omega
  have HV1 := hid hv1
  have HV2 := hid hv2
  have HK := hid hk
  clear hp hi hv1 hv2 hk hdeg
  have hk0 : (0 : Int) ≤ (k : Int) := by omega
  obtain ⟨R, hR⟩ : ∃ R, R = rootB p deg v k := ⟨_, rfl⟩
  rw [← hR]
  have HR := hid hR
  clear hR
  go_enter Try.func23, Try.ntmps23
  go_wp2_with (go_at_call 41; (with_reducible refine (hP.out _).mono ?_); rintro e w1 ⟨rfl, hb1⟩)
  go_loopw [8] (fun hv wr => ∃ u : Nat, u ≤ v ∧ hv = .int .i64 (u : Int) ∧ Below w.heap.size w wr)
    (fun hv _ => v + 1 - (intOf hv).toNat)
  case atStart => exact ⟨0, by omega, rfl, hb1⟩
  case round =>
    clear hb1
    obtain ⟨u, hu, rfl, hb⟩ := hrel
    obtain ⟨w2, hw2⟩ : ∃ w2 : World, w2 = wr := ⟨_, rfl⟩
    subst hw2
    go_wp2
    go_loopw [9, 10] (fun nv dv wr => ∃ d : Nat, d ≤ deg ∧ nv = .int .i64 (((u + 1) ^ d : Nat) : Int) ∧ dv = .int .i64 (d : Int) ∧ Below w.heap.size w wr)
      (fun _ dv _ => deg - (intOf dv).toNat)
    case atStart => exact ⟨0, by omega, rfl, rfl, hb⟩
    case round =>
      clear hb
      obtain ⟨d, hd, rfl, rfl, hb⟩ := hrel
      by_cases hlt : d < deg
      · have h1 := pow_small (u + 1) (d + 1) (by omega) (by omega)
        have hmul : wrap64 ((((u + 1) ^ d : Nat) : Int) * ((u : Int) + 1)) = (((u + 1) ^ (d + 1) : Nat) : Int) := by
          have h2 : (((u + 1) ^ (d + 1) : Nat) : Int) = (((u + 1) ^ d : Nat) : Int) * ((u : Int) + 1) := by rw [Nat.pow_succ, Int.natCast_mul]; rfl
          rw [← h2]
          unfold wrap64; omega
        obtain ⟨P, hPe⟩ : ∃ P, P = (u + 1) ^ d := ⟨_, rfl⟩
        obtain ⟨P1, hPe1⟩ : ∃ P1, P1 = (u + 1) ^ (d + 1) := ⟨_, rfl⟩
        rw [← hPe, ← hPe1] at hmul
        rw [← hPe]
        have HP1 := hid hPe1
        clear hPe hPe1 h1
        go_wp2
        go_roundw
        case rel => exact ⟨d + 1, by omega, by rw [hmul, HP1.out], by go_num, hb⟩
        case measure => simp [intOf]; omega
      · obtain rfl : d = deg := by omega
        by_cases hul : u < v
        · have hle : (u + 1) ^ d ≤ p := Nat.le_trans (Nat.pow_le_pow_left (by omega) d) HV1.out
          obtain ⟨P, hPe⟩ : ∃ P, P = (u + 1) ^ d := ⟨_, rfl⟩
          rw [← hPe] at hle ⊢
          clear hPe
          have hng : ¬ (p : Int) < (P : Int) := by omega
          go_wp2
          go_roundw
          case rel => exact ⟨u + 1, by omega, by go_num, hb⟩
          case measure => simp [intOf]; omega
        · obtain rfl : u = v := by omega
          have hgt := HV2.out
          obtain ⟨P, hPe⟩ : ∃ P, P = (u + 1) ^ d := ⟨_, rfl⟩
          rw [← hPe] at hgt ⊢
          clear hPe hul hlt
          have hng : (p : Int) < (P : Int) := by omega
          go_wp2
          obtain ⟨w3, hw3⟩ : ∃ w3 : World, w3 = wr := ⟨_, rfl⟩
          rw [← hw3] at hb ⊢
          have hbs := hb.size
          clear hw3
          go_loopw [11, 12] (fun lv bv wr => ∃ b : Nat, b ≤ 8 ∧ bv = .int .i64 (b : Int) ∧ Hid (wr.ownsRow w.heap.size 3 1 lv b (digV (kb k b))) ∧ Below w.heap.size w wr)
            (fun _ bv _ => 8 - (intOf bv).toNat)
          case atStart => exact ⟨0, by omega, rfl, hid (World.ownsRow_nil _ _ _ _), hb⟩
          case round =>
            clear hb hbs
            obtain ⟨b, hb8, rfl, ho, hb⟩ := hrel
            have hbs := hb.size
            by_cases hlb : b < 8
            · have hq : bits .and .i64 (wrap64 ((k : Int) / 2 ^ (8 * b))) 255 = ((k / 256 ^ b % 256 : Nat) : Int) := by
                rw [i64_and255, wrap64_mod, show (256 : Nat) ^ b = 2 ^ (8 * b) from by rw [show (256 : Nat) = 2 ^ 8 from rfl, ← Nat.pow_mul]]
                rw [Int.natCast_emod, Int.natCast_ediv, Int.natCast_pow]; rfl
              obtain ⟨x, hx⟩ : ∃ x, x = k / 256 ^ b % 256 := ⟨_, rfl⟩
              have HX := hid (show digV (kb k (b + 1)) = digV (kb k b) ++ [.int .i64 (x : Int)] by rw [hx]; exact (digV_snoc _ _).symm)
              rw [← hx] at hq
              have HL2 := hid ho.out.lt
              have hsh : (8 * (b : Int)).toNat = 8 * b := by omega
              clear hx
              go_wp2_with (at_builtin; refine wpList_append_any rfl (.tmp 39) (.tmp 47) 73 rfl w.heap.size 3 i0 _ 1 8 uNat hi0 hz0 hz1 hz2 rfl (by decide) _ _ rfl rfl b _ (ho.out.alloc _) 1 _ ⟨rfl, by simp [Value.oneCell'], _, _, rfl, fun _ => ⟨_, rfl, cell_one_new _ _ _⟩⟩ (by unfold maxLen; omega) (by omega) (by simp; omega) ?_)
              intro v2 w4 ho2 hg2 _
              rw [← HX.out] at ho2
              have H2 := hid ho2
              have hb2 : Below w.heap.size w w4 := (hb.alloc hb.size _).grown hg2 (by simp; omega) (fun k e => by have := (HL2.out k e).1; omega)
              clear ho2 hg2 hq HX HL2
              go_wp2
              go_roundw
              case rel => exact ⟨b + 1, by omega, by go_num, H2, hb2⟩
              case measure => simp [intOf]; omega
            · obtain rfl : b = 8 := by omega
              have hkn : num (kb k 8) = k := by rw [kb_num]; exact Nat.mod_eq_of_lt HK.out
              have hkl := kb_len k 8
              have hkd := kb_dig k 8
              obtain ⟨l, hl⟩ : ∃ l, l = kb k 8 := ⟨_, rfl⟩
              rw [← hl] at ho hkn hkl hkd
              have HX := hid (show digV (l ++ [u]) = digV l ++ [.int .i64 (u : Int)] from (digV_snoc _ _).symm)
              have HL2 := hid ho.out.lt
              have hbs := hb.size
              clear hl hlb hb8
              go_wp2_with (at_builtin; refine wpList_append_any rfl (.tmp 49) (.tmp 51) 73 rfl w.heap.size 3 i0 _ 1 8 uNat hi0 hz0 hz1 hz2 rfl (by decide) _ _ rfl rfl 8 _ (ho.out.alloc _) 1 _ ⟨rfl, by simp [Value.oneCell'], _, _, rfl, fun _ => ⟨_, rfl, cell_one_new _ _ _⟩⟩ (by unfold maxLen; omega) (by omega) (by simp; omega) ?_)
              intro v2 w4 ho2 hg2 _
              rw [← HX.out] at ho2
              have hb2 : Below w.heap.size w w4 := (hb.alloc hb.size _).grown hg2 (by simp; omega) (fun k e => by have := (HL2.out k e).1; omega)
              have hll : (l ++ [u]).length = 9 := by simp [hkl]
              have hR := RdL.owned (by rw [hll]; exact ho2)
              have hln : num (l ++ [u]) = k + 2 ^ 64 * u := by rw [num_app, hkn, hkl]; simp [num]
              have HT := hid (trim_any _ _ w4 hR (Dig.app hkd (fun d hd => by simp at hd; omega)) (by rw [hll]; omega))
              rw [hln] at HT
              have hxl : k + 2 ^ 64 * u < 2 ^ 79 := by have := HK.out; omega
              have HXL := hid hxl
              obtain ⟨x, hx⟩ : ∃ x, x = k + 2 ^ 64 * u := ⟨_, rfl⟩
              rw [← hx] at HT HXL
              have HR2 : Hid (R = (decide (x ^ d ≤ p * 2 ^ (64 * d)) && decide (p * 2 ^ (64 * d) < (x + 1) ^ d))) := hid (by rw [HR.out, hx]; rfl)
              clear hx hxl hln hR hll ho2 hg2 HL2 HX hkd hkl hkn HR ho hb
              go_wp2_with fail
              (with_reducible refine HT.out.mono ?_)
              rintro e w5 ⟨vx, rfl, hx5, hb5⟩
              have hb6 := hb2.trans (hb5.mono hb2.size)
              have hX5 := hid hx5
              clear hx5 hb5 hb2 HT
              have h1l : (dg 1).length ≤ 65536 := Nat.le_trans (dg_len 1 1 (by decide)) (by omega)
              have hxdg : (dg x).length ≤ 64 := by have := pow_dg x 1 (by have := HXL.out; omega) (by omega); rwa [Nat.pow_one] at this
              go_wp2_with fail
              refine (plus_any x 1 _ _ _ (hX5.out.below ((Below.refl _ _).alloc (Nat.le_refl _) _)) (RdN.lit1 w5) (by omega) h1l).mono ?_
              rintro e w6 ⟨vy, rfl, hy6, hb7⟩
              have hX6 := hid ((hX5.out.below ((Below.refl _ _).alloc (Nat.le_refl _) (.cells #[.int .i64 1] 3))).below hb7)
              have hY6 := hid hy6
              have hb8 := hb6.alloc hb6.size (.cells #[.int .i64 1] 3)
              have hb9 := hb8.trans (hb7.mono hb8.size)
              obtain ⟨y, hy⟩ : ∃ y, y = x + 1 := ⟨_, rfl⟩
              rw [← hy] at hY6 HR2
              have hyl := hid (show y < 2 ^ 80 by rw [hy]; have := HXL.out; omega)
              clear hy6 hb7 hb8 hb6 hX5 hxdg hy
              go_wp2_with fail
              have hA7 := hid ((RdN.lit1 w6).below ((Below.refl _ _).alloc (Nat.le_refl _) (.cells #[.int .i64 1] 3)))
              have hB7 := hid (RdN.lit1 (w6.alloc (.cells #[.int .i64 1] 3)))
              have hX7 := hid (hX6.out.below (((Below.refl _ _).alloc (Nat.le_refl _) (.cells #[.int .i64 1] 3)).alloc (by simp) (.cells #[.int .i64 1] 3)))
              have hY7 := hid (hY6.out.below (((Below.refl _ _).alloc (Nat.le_refl _) (.cells #[.int .i64 1] 3)).alloc (by simp) (.cells #[.int .i64 1] 3)))
              have hb10 := (hb9.alloc hb9.size (.cells #[.int .i64 1] 3)).alloc (by have := hb9.size; simp; omega) (.cells #[.int .i64 1] 3)
              clear hX6 hY6 hb9
              go_loopw [15, 16, 17] (fun av bv tv wr => ∃ t : Nat, t ≤ d ∧ tv = .int .i64 (t : Int) ∧ Hid (RdN wr av (x ^ t)) ∧ Hid (RdN wr bv (y ^ t)) ∧ Hid (RdN wr vx x) ∧ Hid (RdN wr vy y) ∧ Below w.heap.size w wr)
                (fun _ _ tv _ => d - (intOf tv).toNat)
              case atStart => exact ⟨0, by omega, rfl, by rw [Nat.pow_zero]; simpa using hA7, by rw [Nat.pow_zero]; simpa using hB7, hX7, hY7, hb10⟩
              case round =>
                clear hA7 hB7 hX7 hY7 hb10
                obtain ⟨t, ht, rfl, hA, hB, hX, hY, hb⟩ := hrel
                by_cases hlt : t < d
                · have l1 := pow_dg x t (by have := HXL.out; omega) (by omega)
                  have l2 := pow_dg y t hyl.out (by omega)
                  have l3 : (dg x).length ≤ 64 := by have := pow_dg x 1 (by have := HXL.out; omega) (by omega); rwa [Nat.pow_one] at this
                  have l4 : (dg y).length ≤ 64 := by have := pow_dg y 1 hyl.out (by omega); rwa [Nat.pow_one] at this
                  have T1 := hid (times_any (x ^ t) x _ _ _ hA.out hX.out (by omega) (by omega))
                  have T2 := hid (fun va vb w ha hb => times_any (y ^ t) y va vb w ha hb (by omega) (by omega))
                  rw [← Nat.pow_succ] at T1 T2
                  clear l1 l2 l3 l4 hA
                  go_wp2_with fail
                  refine T1.out.mono ?_
                  rintro e w7 ⟨va, rfl, ha7, hb7⟩
                  have hA8 := hid ha7
                  have hB8 := hid (hB.out.below hb7)
                  have hX8 := hid (hX.out.below hb7)
                  have hY8 := hid (hY.out.below hb7)
                  have hb8 := hb.trans (hb7.mono hb.size)
                  clear T1 ha7 hb7 hB hX hY hb
                  go_wp2_with fail
                  refine (T2.out _ _ _ hB8.out hY8.out).mono ?_
                  rintro e w8 ⟨vb, rfl, hb9, hbb⟩
                  have hA9 := hid (hA8.out.below hbb)
                  have hB9 := hid hb9
                  have hX9 := hid (hX8.out.below hbb)
                  have hY9 := hid (hY8.out.below hbb)
                  have hb10 := hb8.trans (hbb.mono hb8.size)
                  clear T2 hb9 hbb hA8 hB8 hX8 hY8 hb8
                  go_wp2
                  go_roundw
                  case rel => exact ⟨t + 1, by omega, by go_num, hA9, hB9, hX9, hY9, hb10⟩
                  case measure => simp [intOf]; omega
                · obtain rfl : t = d := by omega
                  have l1 := pow_dg x t (by have := HXL.out; omega) (by omega)
                  have l2 := pow_dg y t hyl.out (by omega)
                  clear hlt hX hY
                  have hpn : num [p % 256, p / 256] = p := by simp [num]; omega
                  have hpd : Dig [p % 256, p / 256] := fun d hd => by simp at hd; omega
                  have L2 : ∀ w : World, RdL (w.alloc (.cells #[.int .i64 ((p : Int) % 256), .int .i64 ((p : Int) / 256)] 3)) (.slice (some ⟨w.heap.size, 0, none⟩) 2 2) [p % 256, p / 256] := fun w => by
                    have := RdL.lit2 w (p % 256) (p / 256)
                    rw [Int.natCast_emod, Int.natCast_ediv] at this
                    exact this
                  have HT := hid (fun w => trim_any _ _ _ (L2 w) hpd (by simp))
                  rw [hpn] at HT
                  have hpl : (dg p).length ≤ 65536 := Nat.le_trans (dg_len p 2 (by omega)) (by omega)
                  have hwl : (dg (2 ^ (64 * t))).length ≤ 65536 := Nat.le_trans (dg_len _ 25 (by
                    rw [show (256 : Nat) = 2 ^ 8 from rfl, ← Nat.pow_mul]
                    exact Nat.pow_lt_pow_right (by omega) (by omega))) (by omega)
                  have HPW := hid (fun w => power_any (64 * t) w (by omega))
                  have htm := hid (fun va vb w ha hb => times_any p (2 ^ (64 * t)) va vb w ha hb hpl hwl)
                  have hwl2 : (dg (p * 2 ^ (64 * t))).length ≤ 65536 := Nat.le_trans (dg_len _ 26 (by
                    have h1 : 2 ^ (64 * t) ≤ 2 ^ (8 * 24) := Nat.pow_le_pow_right (by omega) (by omega)
                    have h2 : p * 2 ^ (64 * t) ≤ 409 * 2 ^ (8 * 24) := Nat.mul_le_mul hp9 h1
                    refine Nat.lt_of_le_of_lt h2 ?_
                    rw [show (256 : Nat) = 2 ^ 8 from rfl, ← Nat.pow_mul]; decide)) (by omega)
                  have DX := dg_dig (x ^ t)
                  have DY := dg_dig (y ^ t)
                  have DW := dg_dig (p * 2 ^ (64 * t))
                  have C1 := hid (fun va vb w ha hb => cmp_any (dg (x ^ t)) (dg (p * 2 ^ (64 * t))) va vb w ha hb DX DW (by omega) hwl2)
                  have C2 := hid (fun va vb w ha hb => cmp_any (dg (y ^ t)) (dg (p * 2 ^ (64 * t))) va vb w ha hb DY DW (by omega) hwl2)
                  rw [num_dg, num_dg] at C1 C2
                  obtain ⟨W, hW⟩ : ∃ W, W = p * 2 ^ (64 * t) := ⟨_, rfl⟩
                  rw [← hW] at htm C1 C2 HR2
                  have h64 : ((64 * t : Nat) : Int) = 64 * (t : Int) := by omega
                  rw [h64] at HPW
                  clear hpn hpd L2 hpl hwl hwl2 DX DY DW hW l1 l2 h64
                  go_wp2_with fail
                  (with_reducible refine (HT.out _).mono ?_)
                  rintro e w7 ⟨vp, rfl, hp7, hb7⟩
                  have hbl := (Below.refl wr.heap.size wr).alloc (Nat.le_refl _) (.cells #[.int .i64 ((p : Int) % 256), .int .i64 ((p : Int) / 256)] 3)
                  have hbm := hbl.trans (hb7.mono hbl.size)
                  have hA7 := hid (hA.out.below hbm)
                  have hB7 := hid (hB.out.below hbm)
                  have hP7 := hid hp7
                  have hb8 := hb.trans (hbm.mono hb.size)
                  clear hp7 hb7 hbl hbm hA hB hb HT
                  go_wp2_with fail
                  (with_reducible refine (HPW.out _).mono ?_)
                  rintro e w8 ⟨vq, rfl, hq8, hb7⟩
                  have hA8 := hid (hA7.out.below hb7)
                  have hB8 := hid (hB7.out.below hb7)
                  have hP8 := hid (hP7.out.below hb7)
                  have hQ8 := hid hq8
                  have hb9 := hb8.trans (hb7.mono hb8.size)
                  clear hq8 hb7 hA7 hB7 hP7 hb8 HPW
                  go_wp2_with fail
                  refine (htm.out _ _ _ hP8.out hQ8.out).mono ?_
                  rintro e w9 ⟨vw, rfl, hw9, hb7⟩
                  have hA9 := hid (hA8.out.below hb7)
                  have hB9 := hid (hB8.out.below hb7)
                  have hW9 := hid hw9
                  have hb10 := hb9.trans (hb7.mono hb9.size)
                  clear hw9 hb7 hA8 hB8 hP8 hQ8 hb9 htm
                  obtain ⟨X, hX⟩ : ∃ X, X = x ^ t := ⟨_, rfl⟩
                  obtain ⟨Y, hY⟩ : ∃ Y, Y = y ^ t := ⟨_, rfl⟩
                  rw [← hX] at C1 HR2 hA9
                  rw [← hY] at C2 HR2 hB9
                  clear hX hY
                  by_cases h1 : X ≤ W
                  · have g1 : cmpI X W ≤ 0 := (cmpI_le0 X W).2 h1
                    rw [decide_eq_true h1, Bool.true_and] at HR2
                    obtain ⟨c1, hc1⟩ : ∃ c, c = cmpI X W := ⟨_, rfl⟩
                    rw [← hc1] at C1 g1
                    have g2 : 0 < cmpI Y W ↔ W < Y := cmpI_gt0 Y W
                    obtain ⟨c2, hc2⟩ : ∃ c, c = cmpI Y W := ⟨_, rfl⟩
                    rw [← hc2] at C2 g2
                    have HD := hid (show decide (0 < c2) = R by rw [HR2.out]; exact decide_eq_decide.2 g2)
                    clear hc1 hc2 g2 h1
                    go_wp2_with fail
                    refine (C1.out _ _ _ hA9.out hW9.out).mono ?_
                    rintro e w10 ⟨rfl, rfl⟩
                    go_wp2_with fail
                    refine (C2.out _ _ _ hB9.out hW9.out).mono ?_
                    rintro e w10 ⟨rfl, rfl⟩
                    go_wp2
                    go_ret
                    exact ⟨ret_bool (by rw [← HD.out]), hb10⟩
                  · have g1 : ¬ cmpI X W ≤ 0 := fun h => h1 ((cmpI_le0 X W).1 h)
                    rw [decide_eq_false h1, Bool.false_and] at HR2
                    obtain ⟨c1, hc1⟩ : ∃ c, c = cmpI X W := ⟨_, rfl⟩
                    rw [← hc1] at C1 g1
                    clear hc1 h1
                    go_wp2_with fail
                    refine (C1.out _ _ _ hA9.out hW9.out).mono ?_
                    rintro e w10 ⟨rfl, rfl⟩
                    go_wp2
                    go_ret
                    exact ⟨ret_bool (by rw [HR2.out]), hb10⟩
end Go.Proofs.Ytmlaenfgfgloeaa
