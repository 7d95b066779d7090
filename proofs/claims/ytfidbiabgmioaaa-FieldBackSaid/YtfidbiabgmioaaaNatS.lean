import Derived.Test.YtfidbiabgmioaaaNatW
/-! conclaveref01: Plus, Less, Cmp. -/
set_option maxRecDepth 4000
set_option linter.unusedVariables false
set_option linter.unusedSimpArgs false
namespace Go.Proofs.Ytfidbiabgmioaaa
open Go.RowKit

theorem wrap_i64_id (x : Int) (h0 : -9223372036854775808 ≤ x) (h1 : x ≤ 9223372036854775807) : IntKind.i64.wrap x = x := by
  rw [IntKind.wrap_i64]; omega
theorem digV_snoc (l : List Nat) (d : Nat) : digV l ++ [.int .i64 (d : Int)] = digV (l ++ [d]) := by simp [digV]

set_option maxHeartbeats 1000000 in
theorem plus_any (a b : Nat) (va vb : Value) (w : World) (ha : RdN w va a) (hb : RdN w vb b) (la : (dg a).length ≤ 65536) (lb : (dg b).length ≤ 65536) :
    Calls Try.prog 90 #[va, vb] w fun e w' => ∃ v', e = .returned v' ∧ RdN w' v' (a + b) ∧ Below w.heap.size w w' := by
  obtain ⟨i0, hi0, hz0, hz1, hz2⟩ := info_parts infoI
  have HA := hid ha
  have HB := hid hb
  have DA := hid (dg_dig a)
  have DB := hid (dg_dig b)
  obtain ⟨aa, ca, rfl, hca, -⟩ := ha
  obtain ⟨ab, cb, rfl, hcb, -⟩ := hb
  obtain ⟨x, hx⟩ : ∃ x, x = dg a := ⟨_, rfl⟩
  obtain ⟨y, hy⟩ : ∃ y, y = dg b := ⟨_, rfl⟩
  have hsum : num x + num y = a + b := by rw [hx, hy, num_dg, num_dg]
  have HSUM := hid hsum
  unfold RdN at HA HB
  rw [← hx] at HA DA la hca ⊢
  rw [← hy] at HB DB lb hcb ⊢
  clear hx hy hsum
  obtain ⟨M, hM⟩ : ∃ M, M = max x.length y.length := ⟨_, rfl⟩
  have m1 : x.length ≤ M := by rw [hM]; exact Nat.le_max_left _ _
  have m2 : y.length ≤ M := by rw [hM]; exact Nat.le_max_right _ _
  have m3 : M ≤ x.length ∨ M ≤ y.length := by rw [hM]; omega
  clear hM
  go_enter Try.func90, Try.ntmps90
  go_wp2
  go_loopw [5, 6, 7] (fun ov cv iv wr => ∃ i : Nat, i ≤ M + 1 ∧ iv = .int .i64 i ∧ cv = .int .i64 ((plO x y i).2 : Nat) ∧ Hid (wr.ownsRow w.heap.size 3 1 ov i (digV (plO x y i).1)) ∧ Below w.heap.size w wr)
    (fun _ _ iv _ => M + 1 - (intOf iv).toNat)
  case atStart => exact ⟨0, by omega, rfl, rfl, hid (World.ownsRow_nil _ _ _ _), Below.refl _ _⟩
  case round =>
    obtain ⟨i, hi, rfl, rfl, ho, hb⟩ := hrel
    obtain ⟨s1, s2, s3, s4⟩ := plO_spec x y DA.out DB.out i
    by_cases hlt : i ≤ M
    · have HAW := hid fun j (hj : j ≤ 1048576) => at_any x j _ wr (HA.out.below hb) (by omega) hj
      have HBW := hid fun j (hj : j ≤ 1048576) => at_any y j _ wr (HB.out.below hb) (by omega) hj
      have g1 := nd_dig DA.out i
      have g2 := nd_dig DB.out i
      have HE : Hid (digV (plO x y (i + 1)).1 = digV (plO x y i).1 ++ [.int .i64 (((plO x y i).2 + nd x i + nd y i) % 256 : Nat)] ∧ (plO x y (i + 1)).2 = ((plO x y i).2 + nd x i + nd y i) / 256) := hid ⟨(digV_snoc _ _).symm, rfl⟩
      obtain ⟨c, hc⟩ : ∃ c, c = (plO x y i).2 := ⟨_, rfl⟩
      rw [← hc] at s3 HE ⊢
      have hbs := hb.size
      clear s1 s2 s4 hc
      by_cases hix : i ≤ x.length
      all_goals
        go_wp2_with (first | (go_at_call 112; first | ((with_reducible refine (HAW.out _ (by omega)).mono ?_); rintro e w' ⟨rfl, rfl⟩) | ((with_reducible refine (HBW.out _ (by omega)).mono ?_); rintro e w' ⟨rfl, rfl⟩)) | (at_builtin; refine wpList_append_any rfl (.tmp 29) (.tmp 32) 42 rfl w.heap.size 3 i0 _ 1 8 uNat hi0 hz0 hz1 hz2 rfl (by decide) _ _ rfl rfl i _ (ho.out.alloc _) 1 _ ⟨rfl, by simp [Value.oneCell'], _, _, rfl, fun _ => ⟨_, rfl, cell_one_new _ _ _⟩⟩ (by unfold maxLen; omega) (by omega) (by simp; omega) ?_))
        intro v2 w2 ho2 hg2 _
        have hlt2 := ho.out.lt
        have e2 : ((c : Int) + (nd x i : Nat) + (nd y i : Nat)) % 256 = (((c + nd x i + nd y i) % 256 : Nat) : Int) := by omega
        rw [e2, ← HE.out.1] at ho2
        have H2 := hid ho2
        have hb2 : Below w.heap.size w w2 := (hb.alloc hb.size _).grown hg2 (by simp; omega) (fun k e => by have := (hlt2 k e).1; omega)
        have hq : ((c : Int) + (nd x i : Nat) + (nd y i : Nat)) / 256 = (((plO x y (i + 1)).2 : Nat) : Int) := by rw [HE.out.2]; omega
        have HQ := hid hq
        clear ho2 hg2 e2 hlt2 hq
        go_wp2
        go_roundw
        case rel => exact ⟨i + 1, by omega, by go_num, by rw [HQ.out], H2, hb2⟩
        case measure => simp [intOf]; omega
    · obtain rfl : i = M + 1 := by omega
      have hn := hid (plO_num x y DA.out DB.out M m1 m2)
      have hlen : (plO x y (M + 1)).1.length = M + 1 := s1
      have hR := RdL.owned (by rw [hlen]; exact ho.out)
      have h1 : ¬ (((M + 1 : Nat) : Int) ≤ (x.length : Int)) := by omega
      have h2 : ¬ (((M + 1 : Nat) : Int) ≤ (y.length : Int)) := by omega
      have HT := hid (trim_any _ _ wr hR s2 (by rw [hlen]; omega))
      clear hR s1 s2 s3 s4 hlen
      go_wp2_with (go_at_call 113; (with_reducible refine HT.out.mono ?_); rintro e w' ⟨v', rfl, hr', hb'⟩)
      go_ret
      exact ⟨_, rfl, by rw [← HSUM.out, ← hn.out]; exact hr', hb.trans (hb'.mono hb.size)⟩

set_option maxHeartbeats 1000000 in
theorem less_any (a b : Nat) (va vb : Value) (w : World) (ha : RdN w va a) (hb : RdN w vb b) (la : (dg a).length ≤ 65536) (hle : b ≤ a) :
    Calls Try.prog 97 #[va, vb] w fun e w' => ∃ v', e = .returned v' ∧ RdN w' v' (a - b) ∧ Below w.heap.size w w' := by
  obtain ⟨i0, hi0, hz0, hz1, hz2⟩ := info_parts infoI
  have lb := dg_len_mono b a hle
  have HA := hid ha
  have HB := hid hb
  have DA := hid (dg_dig a)
  have DB := hid (dg_dig b)
  obtain ⟨aa, ca, rfl, hca, -⟩ := ha
  obtain ⟨ab, cb, rfl, hcb, -⟩ := hb
  have hdn := lsO_num (dg a) (dg b) DA.out DB.out lb (by rw [num_dg, num_dg]; exact hle)
  rw [num_dg, num_dg] at hdn
  obtain ⟨x, hx⟩ : ∃ x, x = dg a := ⟨_, rfl⟩
  obtain ⟨y, hy⟩ : ∃ y, y = dg b := ⟨_, rfl⟩
  rw [← hx, ← hy] at hdn
  have HDN := hid hdn
  unfold RdN at HA HB
  rw [← hx] at HA DA la hca lb ⊢
  rw [← hy] at HB DB lb hcb ⊢
  clear hx hy hdn
  go_enter Try.func97, Try.ntmps97
  go_wp2
  go_loopw [5, 6, 7] (fun ov cv iv wr => ∃ i : Nat, i ≤ x.length ∧ iv = .int .i64 i ∧ cv = .int .i64 (-((lsO x y i).2 : Int)) ∧ Hid (wr.ownsRow w.heap.size 3 1 ov i (digV (lsO x y i).1)) ∧ Below w.heap.size w wr)
    (fun _ _ iv _ => x.length - (intOf iv).toNat)
  case atStart => exact ⟨0, by omega, rfl, rfl, hid (World.ownsRow_nil _ _ _ _), Below.refl _ _⟩
  case round =>
    obtain ⟨i, hi, rfl, rfl, ho, hb⟩ := hrel
    obtain ⟨s1, s2, s3, s4⟩ := lsO_spec x y DA.out DB.out i
    by_cases hlt : i < x.length
    · have HAW := hid fun j (hj : j ≤ 1048576) => at_any x j _ wr (HA.out.below hb) (by omega) hj
      have HBW := hid fun j (hj : j ≤ 1048576) => at_any y j _ wr (HB.out.below hb) (by omega) hj
      have g1 := nd_dig DA.out i
      have g2 := nd_dig DB.out i
      have HE : Hid (lsO x y (i + 1) = if nd x i < nd y i + (lsO x y i).2 then ((lsO x y i).1 ++ [nd x i + 256 - nd y i - (lsO x y i).2], 1) else ((lsO x y i).1 ++ [nd x i - nd y i - (lsO x y i).2], 0)) := hid rfl
      obtain ⟨c, hc⟩ : ∃ c, c = (lsO x y i).2 := ⟨_, rfl⟩
      rw [← hc] at s3 HE ⊢
      have hbs := hb.size
      clear s1 s2 s4 hc
      have hlt2 := hid (ho.out.lt)
      by_cases hneg : nd x i < nd y i + c
      · have hE := HE.out
        rw [if_pos hneg] at hE
        have HE2 : Hid (digV (lsO x y (i + 1)).1 = digV (lsO x y i).1 ++ [.int .i64 ((nd x i + 256 - nd y i - c : Nat) : Int)] ∧ (lsO x y (i + 1)).2 = 1) := hid ⟨by rw [hE]; exact (digV_snoc _ _).symm, by rw [hE]⟩
        have t1 : -(c : Int) + (nd x i : Nat) - (nd y i : Nat) < 0 := by omega
        clear HE hE
        go_wp2_with (first | (go_at_call 112; first | ((with_reducible refine (HAW.out _ (by omega)).mono ?_); rintro e w' ⟨rfl, rfl⟩) | ((with_reducible refine (HBW.out _ (by omega)).mono ?_); rintro e w' ⟨rfl, rfl⟩)) | (at_builtin; refine wpList_append_any rfl (.tmp 25) (.tmp 28) 42 rfl w.heap.size 3 i0 _ 1 8 uNat hi0 hz0 hz1 hz2 rfl (by decide) _ _ rfl rfl i _ (ho.out.alloc _) 1 _ ⟨rfl, by simp [Value.oneCell'], _, _, rfl, fun _ => ⟨_, rfl, cell_one_new _ _ _⟩⟩ (by unfold maxLen; omega) (by omega) (by simp; omega) ?_))
        intro v2 w2 ho2 hg2 _
        have e2 : -(c : Int) + (nd x i : Nat) - (nd y i : Nat) + 256 = ((nd x i + 256 - nd y i - c : Nat) : Int) := by omega
        rw [e2, ← HE2.out.1] at ho2
        have H2 := hid ho2
        have hb2 : Below w.heap.size w w2 := (hb.alloc hb.size _).grown hg2 (by simp; omega) (fun k e => by have := (hlt2.out k e).1; omega)
        clear ho2 hg2 e2
        go_wp2
        go_roundw
        case rel => exact ⟨i + 1, by omega, by go_num, by rw [HE2.out.2]; rfl, H2, hb2⟩
        case measure => simp [intOf]; omega
      · have hE := HE.out
        rw [if_neg hneg] at hE
        have HE2 : Hid (digV (lsO x y (i + 1)).1 = digV (lsO x y i).1 ++ [.int .i64 ((nd x i - nd y i - c : Nat) : Int)] ∧ (lsO x y (i + 1)).2 = 0) := hid ⟨by rw [hE]; exact (digV_snoc _ _).symm, by rw [hE]⟩
        have t1 : ¬ (-(c : Int) + (nd x i : Nat) - (nd y i : Nat) < 0) := by omega
        clear HE hE
        go_wp2_with (first | (go_at_call 112; first | ((with_reducible refine (HAW.out _ (by omega)).mono ?_); rintro e w' ⟨rfl, rfl⟩) | ((with_reducible refine (HBW.out _ (by omega)).mono ?_); rintro e w' ⟨rfl, rfl⟩)) | (at_builtin; refine wpList_append_any rfl (.tmp 30) (.tmp 32) 42 rfl w.heap.size 3 i0 _ 1 8 uNat hi0 hz0 hz1 hz2 rfl (by decide) _ _ rfl rfl i _ (ho.out.alloc _) 1 _ ⟨rfl, by simp [Value.oneCell'], _, _, rfl, fun _ => ⟨_, rfl, cell_one_new _ _ _⟩⟩ (by unfold maxLen; omega) (by omega) (by simp; omega) ?_))
        intro v2 w2 ho2 hg2 _
        have e2 : -(c : Int) + (nd x i : Nat) - (nd y i : Nat) = ((nd x i - nd y i - c : Nat) : Int) := by omega
        rw [e2, ← HE2.out.1] at ho2
        have H2 := hid ho2
        have hb2 : Below w.heap.size w w2 := (hb.alloc hb.size _).grown hg2 (by simp; omega) (fun k e => by have := (hlt2.out k e).1; omega)
        clear ho2 hg2 e2
        go_wp2
        go_roundw
        case rel => exact ⟨i + 1, by omega, by go_num, by rw [HE2.out.2]; rfl, H2, hb2⟩
        case measure => simp [intOf]; omega
    · obtain rfl : i = x.length := by omega
      have hlen : (lsO x y x.length).1.length = x.length := s1
      have hR := RdL.owned (by rw [hlen]; exact ho.out)
      have HT := hid (trim_any _ _ wr hR s2 (by rw [hlen]; omega))
      clear hR s1 s2 s3 s4 hlen
      go_wp2_with (go_at_call 113; (with_reducible refine HT.out.mono ?_); rintro e w' ⟨v', rfl, hr', hb'⟩)
      go_ret
      exact ⟨_, rfl, by rw [← HDN.out]; exact hr', hb.trans (hb'.mono hb.size)⟩

set_option maxHeartbeats 1000000 in
theorem cmp_any (x y : List Nat) (va vb : Value) (w : World) (ha : RdL w va x) (hb : RdL w vb y) (dx : Dig x) (dy : Dig y) (la : x.length ≤ 65536) (lb : y.length ≤ 65536) :
    Calls Try.prog 43 #[va, vb] w fun e w' => e = .returned (.int .i64 (cmpI (num x) (num y))) ∧ w = w' := by
  have HA := hid ha
  have HB := hid hb
  have DA := hid dx
  have DB := hid dy
  obtain ⟨aa, ca, rfl, hca, -⟩ := ha
  obtain ⟨ab, cb, rfl, hcb, -⟩ := hb
  have HAW := hid fun j (hj : j ≤ 1048576) => at_any x j _ w HA.out (by omega) hj
  have HBW := hid fun j (hj : j ≤ 1048576) => at_any y j _ w HB.out (by omega) hj
  obtain ⟨M, hM⟩ : ∃ M, M = max x.length y.length := ⟨_, rfl⟩
  have m1 : x.length ≤ M := by rw [hM]; exact Nat.le_max_left _ _
  have m2 : y.length ≤ M := by rw [hM]; exact Nat.le_max_right _ _
  have m3 : M ≤ 65536 := by omega
  have hmm : max (x.length : Int) (y.length : Int) = (M : Int) := by omega
  clear dx dy hM
  go_enter Try.func43, Try.ntmps43
  go_wp2
  all_goals
    go_loop [5] (fun iv => ∃ i : Nat, i ≤ M ∧ iv = .int .i64 ((i : Int) - 1) ∧ Hid (num (x.drop i) = num (y.drop i))) (fun iv => (intOf iv + 1).toNat)
    case atStart => exact ⟨M, Nat.le_refl _, by (congr 1; omega), hid (by rw [List.drop_eq_nil_of_le m1, List.drop_eq_nil_of_le m2])⟩
    case round =>
      obtain ⟨i, hi, rfl, he⟩ := hrel
      by_cases h0 : i = 0
      · subst h0
        have hz := cmpI_eq he.out
        simp only [List.drop_zero] at hz
        have HZ := hid hz
        clear hz hmm
        go_wp2
        go_ret
        exact ⟨by first | (rw [HZ.out]; done) | (rw [HZ.out]; rfl), rfl⟩
      · obtain ⟨k, rfl⟩ : ∃ k, i = k + 1 := ⟨i - 1, by omega⟩
        have e1 : (((k + 1 : Nat) : Int) - 1) = (k : Int) := by omega
        have dX := num_drop x k
        have dY := num_drop y k
        rw [he.out] at dX
        clear hmm h0
        rw [e1]
        clear e1
        rcases Nat.lt_trichotomy (nd x k) (nd y k) with hlt | hlt | hlt
        · have hc := hid (cmpI_lt (num_less x y DA.out k (by unfold nd at hlt; omega)))
          clear dX dY
          go_wp2_with (go_at_call 112; first | ((with_reducible refine (HAW.out _ (by omega)).mono ?_); rintro e w' ⟨rfl, rfl⟩) | ((with_reducible refine (HBW.out _ (by omega)).mono ?_); rintro e w' ⟨rfl, rfl⟩))
          go_ret
          exact ⟨by first | (rw [hc.out]; done) | (rw [hc.out]; rfl), rfl⟩
        · have hn := hid (show num (x.drop k) = num (y.drop k) by unfold nd at hlt; omega)
          have hn1 : ¬ nd x k < nd y k := by omega
          have hn2 : ¬ nd y k < nd x k := by omega
          clear dX dY hlt
          go_wp2_with (go_at_call 112; first | ((with_reducible refine (HAW.out _ (by omega)).mono ?_); rintro e w' ⟨rfl, rfl⟩) | ((with_reducible refine (HBW.out _ (by omega)).mono ?_); rintro e w' ⟨rfl, rfl⟩))
          go_round
          case rel => exact ⟨k, by omega, rfl, hn⟩
          case measure => simp [intOf] <;> omega
        · have hc := hid (cmpI_gt (num_less y x DB.out k (by unfold nd at hlt; omega)))
          have hn1 : ¬ nd x k < nd y k := by omega
          clear dX dY
          go_wp2_with (go_at_call 112; first | ((with_reducible refine (HAW.out _ (by omega)).mono ?_); rintro e w' ⟨rfl, rfl⟩) | ((with_reducible refine (HBW.out _ (by omega)).mono ?_); rintro e w' ⟨rfl, rfl⟩))
          go_ret
          exact ⟨by first | (rw [hc.out]; done) | (rw [hc.out]; rfl), rfl⟩
end Go.Proofs.Ytfidbiabgmioaaa
