import Derived.Test.YtfidbiabgmioaaaNat
import Derived.Test.YtfidbiabgmioaaaApp
import Derived.Laws.OwnMore
import Derived.Maps.AppendAt
import Derived.Deep.AppendLies
import Derived.Laws.BitsLemmas
import Derived.Laws.Bits128
import Derived.Laws.MakeOwn
/-! conclaveref01: Trim, at, Cmp, Plus, Less. -/
set_option maxRecDepth 4000
set_option linter.unusedVariables false
set_option linter.unusedSimpArgs false
namespace Go.Proofs.Ytfidbiabgmioaaa
open Go.RowKit

/-- One digit: closed to the walk's simp. -/
def nd (l : List Nat) (i : Nat) : Nat := l.getD i 0
theorem nd_dig {l : List Nat} (h : Dig l) (i : Nat) : nd l i < 256 := h.getD i
theorem nd_out {l : List Nat} {i : Nat} (h : l.length ≤ i) : nd l i = 0 := by
  unfold nd; rw [List.getD_eq_getElem?_getD, List.getElem?_eq_none h]; rfl
def digV (l : List Nat) : List Value := l.map fun d : Nat => Value.int .i64 (d : Int)
theorem digV_len (l : List Nat) : (digV l).length = l.length := by simp [digV]
/-- The slice v has, in w, the digits l. -/
def RdL (w : World) (v : Value) (l : List Nat) : Prop :=
  ∃ a cap, v = .slice a l.length cap ∧ l.length ≤ cap ∧ (l ≠ [] → ∃ b off, a = some ⟨b, off, none⟩ ∧ b < w.heap.size ∧ ∀ j, j < l.length → w.cell? ⟨b, off + j, none⟩ = some (.int .i64 ((nd l j : Nat) : Int)))
theorem RdL.below {w w' : World} {v : Value} {l : List Nat} (h : RdL w v l) (hb : Below w.heap.size w w') : RdL w' v l := by
  obtain ⟨a, cap, e, hc, h⟩ := h
  refine ⟨a, cap, e, hc, fun hx => ?_⟩
  obtain ⟨b, off, e2, h2, h3⟩ := h hx
  exact ⟨b, off, e2, Nat.lt_of_lt_of_le h2 hb.size, fun j hj => by rw [hb.cell (p := ⟨b, off + j, none⟩) h2]; exact h3 j hj⟩
theorem RdL.ext {w : World} {v : Value} {l : List Nat} (h : RdL w v l) (x : World) : RdL (w.ext x) v l := h.below (w.ext_below x)
theorem RdL.toV {w : World} {v : Value} {l : List Nat} (h : RdL w v l) : RdV w v l.length 1 (digV l) := by
  obtain ⟨a, cap, e, hc, h⟩ := h
  refine ⟨by simp [digV], ?_, a, cap, e, fun hpos => ?_⟩
  · intro u hu; simp [digV] at hu; obtain ⟨y, _, rfl⟩ := hu; rfl
  · obtain ⟨b, off, rfl, _, h3⟩ := h (by intro e'; rw [e'] at hpos; simp at hpos)
    refine ⟨_, rfl, fun j u hu => ?_⟩
    have ha : (⟨b, off, none⟩ : Addr).add j = ⟨b, off + j, none⟩ := by unfold Addr.add; split <;> simp_all
    have hj : j < l.length := by
      rcases Nat.lt_or_ge j l.length with h' | h'
      · exact h'
      · rw [List.getElem?_eq_none (by simpa [digV] using h')] at hu; simp at hu
    rw [ha, h3 j hj, ← hu]
    simp [nd, digV, hj]
theorem RdL.owned {w : World} {B : Nat} {e : TypeId} {v : Value} {l : List Nat} (h : w.ownsRow B e 1 v l.length (digV l)) : RdL w v l := by
  obtain ⟨h1, h2⟩ := h
  rcases h2 with ⟨rfl, h0⟩ | ⟨g, cap, cur, rfl, hb, hg, hnc, hcm, hcs, htake⟩
  · have : l = [] := by cases l <;> simp_all
    subst this; exact ⟨none, 0, rfl, Nat.le_refl _, fun h => absurd rfl h⟩
  · refine ⟨_, cap, rfl, hnc, fun _ => ⟨g, 0, rfl, (Array.getElem?_eq_some_iff.1 hg).1, fun j hj => ?_⟩⟩
    have := cell_of_row w g j cur e (0, 0) hg
    have h4 : cur.toList[j]? = (digV l)[j]? := by rw [← htake, List.getElem?_take, if_pos (by omega)]
    rw [Nat.zero_add, this, ← Array.getElem?_toList, h4]
    simp [nd, digV, hj]
/-- The slice v has the number n. -/
def RdN (w : World) (v : Value) (n : Nat) : Prop := RdL w v (dg n)
theorem RdN.below {w w' : World} {v : Value} {n : Nat} (h : RdN w v n) (hb : Below w.heap.size w w') : RdN w' v n := RdL.below h hb
theorem RdN.ext {w : World} {v : Value} {n : Nat} (h : RdN w v n) (x : World) : RdN (w.ext x) v n := RdL.ext h x
theorem infoI : (Try.prog.info? 3).map (fun i => (i.zero, i.size, i.bytes)) = some (some (.int .i64 0), 1, 8) := by kernel_rfl
theorem uNat : Try.prog.underlying 42 = some (.slice 3) := by kernel_rfl

theorem RdL.cut {w : World} {a : Option Addr} {L cap : Nat} {l : List Nat} (h : RdL w (.slice a L cap) l) (k : Nat) (hk : k ≤ L) : RdL w (.slice a k cap) (l.take k) := by
  obtain ⟨a', cap', e, hc, h⟩ := h
  simp at e
  obtain ⟨rfl, rfl, rfl⟩ := e
  have hl : (l.take k).length = k := by rw [List.length_take]; omega
  refine ⟨a, cap, by rw [hl], by rw [hl]; omega, fun hx => ?_⟩
  obtain ⟨b, off, e2, h2, h3⟩ := h (by intro e; subst e; simp at hx)
  refine ⟨b, off, e2, h2, fun j hj => ?_⟩
  rw [hl] at hj
  rw [h3 j (by omega)]
  simp [nd, List.getD_eq_getElem?_getD, List.getElem?_take, hj]
theorem at_any (l : List Nat) (i : Nat) (v : Value) (w : World) (hr : RdL w v l) (hl : l.length ≤ 1048576) (hi : i ≤ 1048576) :
    Calls Try.prog 112 #[v, .int .i64 i] w fun e w' => e = .returned (.int .i64 ((nd l i : Nat) : Int)) ∧ w = w' := by
  obtain ⟨a, cap, rfl, hc, hr⟩ := hr
  by_cases hlt : i < l.length
  · obtain ⟨b, off, rfl, hb, hcell⟩ := hr (by intro e; subst e; simp at hlt)
    have c := hcell i hlt
    clear hr hcell
    go_enter Try.func112, Try.ntmps112
    go_wp2
    go_ret
    exact ⟨rfl, rfl⟩
  · have h0 := nd_out (l := l) (i := i) (by omega)
    rw [h0]
    have h1 : ¬ ((i : Int) < (l.length : Int)) := by omega
    clear hr h0
    go_enter Try.func112, Try.ntmps112
    go_wp2
    go_ret
    exact ⟨rfl, rfl⟩

set_option maxRecDepth 10000 in
set_option maxHeartbeats 1000000 in
theorem trim_any (l : List Nat) (v : Value) (w : World) (hr : RdL w v l) (hD : Dig l) (hl : l.length ≤ 1048576) :
    Calls Try.prog 113 #[v] w fun e w' => ∃ v', e = .returned v' ∧ RdN w' v' (num l) ∧ Below w.heap.size w w' := by
  obtain ⟨i0, hi0, hz0, hz1, hz2⟩ := info_parts infoI
  have HR := hid hr
  obtain ⟨a, cap, rfl, hc, hr⟩ := hr
  have HX := hid hr
  have HD := hid hD
  clear hr hD
  go_enter Try.func113, Try.ntmps113
  go_wp2
  go_loopw [3] (fun kv wr => ∃ k : Nat, k ≤ l.length ∧ kv = .int .i64 k ∧ Hid (∀ j, k ≤ j → j < l.length → l.getD j 0 = 0) ∧ Below w.heap.size w wr)
    (fun kv _ => (intOf kv).toNat)
  case atStart => exact ⟨l.length, Nat.le_refl _, rfl, hid (fun j h1 h2 => by omega), Below.refl _ _⟩
  case round =>
    obtain ⟨k, hk, rfl, hz, hb⟩ := hrel
    by_cases hgo : 0 < k ∧ nd l (k - 1) = 0
    · obtain ⟨hk2, hd⟩ := hgo
      obtain ⟨b, off, rfl, hbl, hcell⟩ := HX.out (by intro e; subst e; simp at hk; omega)
      have hk1 : ((k : Int) - 1).toNat = k - 1 := by omega
      have c := (hb.cell (p := ⟨b, off + (k - 1), none⟩) hbl).trans (hcell (k - 1) (by omega))
      rw [hd] at c
      have HD1 := hid hd
      have HZ := hid hz.out
      clear hcell hd hz
      go_wp2
      go_roundw
      case rel =>
        refine ⟨k - 1, by omega, by go_num, hid fun j h1 h2 => ?_, hb⟩
        by_cases e : j = k - 1
        · subst e; exact HD1.out
        · exact HZ.out j (by omega) h2
      case measure => simp [intOf]; omega
    · have hst : k = 0 ∨ l.getD (k - 1) 0 ≠ 0 := by
        rcases Nat.eq_zero_or_pos k with h | h
        · exact .inl h
        · exact .inr fun e => hgo ⟨h, e⟩
      have HT := hid (dg_num l k HD.out hk hz.out hst)
      have hcut := hid ((HR.out.below (hb.mono (Nat.le_refl _))).cut k hk)
      have ho1 : (wr.alloc (.cells #[] 3)).ownsRow w.heap.size 3 1 (.slice (some ⟨wr.heap.size, 0, none⟩) 0 0) 0 [] :=
        World.ownsRow_lit (base := w.heap.size) (size := 1) (e := 3) wr #[] 0 hb.size (by simp) (by simp)
      have hbs := hb.size
      have hw1 : Below w.heap.size w (wr.alloc (.cells #[] 3)) := hb.alloc hb.size _
      have htl : (l.take k).length = k := by rw [List.length_take]; omega
      have hkc : k ≤ cap := by omega
      have hRV0 := (RdL.toV (hcut.out.below ((Below.refl wr.heap.size wr).alloc (Nat.le_refl _) (.cells #[] 3))))
      rw [htl] at hRV0
      have hRV := hid hRV0
      have fin : ∀ v2 w2, w2.ownsRow w.heap.size 3 1 v2 k (digV (l.take k)) → (wr.alloc (.cells #[] 3)).grownBy w2 (Value.slice (some ⟨wr.heap.size, 0, none⟩) 0 0).ownBlock → RdN w2 v2 (num l) ∧ Below w.heap.size w w2 := fun v2 w2 ho2 hg2 => by
        refine ⟨?_, hw1.grown hg2 (by simp; omega) (fun k e => by simp [Value.ownBlock] at e; omega)⟩
        unfold RdN
        rw [← HT.out]
        refine RdL.owned (B := w.heap.size) (e := 3) ?_
        rw [htl]
        exact ho2
      have FIN := hid fin
      have hcell := HX.out
      clear hz hgo HD HX htl hcut fin hRV0
      rcases Nat.eq_zero_or_pos k with h0 | h0
      · subst h0
        go_wp2_with (at_builtin; refine wpList_append_any rfl (.tmp 18) (.tmp 21) 42 rfl w.heap.size 3 i0 _ 1 8 uNat hi0 hz0 hz1 hz2 rfl (by decide) _ _ rfl rfl 0 [] ho1 0 (digV (l.take 0)) hRV.out (by unfold maxLen; omega) (by omega) (by simp; omega) ?_)
        intro v2 w2 ho2 hg2 _
        go_wp2
        go_ret
        obtain ⟨f1, f2⟩ := FIN.out v2 w2 ho2 hg2
        exact ⟨_, rfl, f1, f2⟩
      · obtain ⟨b, off, rfl, hbl, hcell⟩ := hcell (by intro e; subst e; simp at hk; omega)
        have hk1 : ((k : Int) - 1).toNat = k - 1 := by omega
        have hk2 : (0 : Int) < k := by omega
        have c := (hb.cell (p := ⟨b, off + (k - 1), none⟩) hbl).trans (hcell (k - 1) (by omega))
        have hd : ¬ nd l (k - 1) = 0 := by
          rcases hst with h | h
          · omega
          · exact h
        clear hcell hst
        go_wp2_with (at_builtin; refine wpList_append_any rfl (.tmp 18) (.tmp 21) 42 rfl w.heap.size 3 i0 _ 1 8 uNat hi0 hz0 hz1 hz2 rfl (by decide) _ _ rfl rfl 0 [] ho1 k (digV (l.take k)) hRV.out (by unfold maxLen; omega) (by omega) (by simp; omega) ?_)
        intro v2 w2 ho2 hg2 _
        go_wp2
        go_ret
        obtain ⟨f1, f2⟩ := FIN.out v2 w2 ho2 hg2
        exact ⟨_, rfl, f1, f2⟩
end Go.Proofs.Ytfidbiabgmioaaa

/-! conclaveref01: Plus, Less, Cmp. -/
namespace Go.Proofs.Ytfidbiabgmioaaa
open Go.RowKit

theorem wrap_i64_id (x : Int) (h0 : -9223372036854775808 ≤ x) (h1 : x ≤ 9223372036854775807) : IntKind.i64.wrap x = x := by
  rw [IntKind.wrap_i64]; omega
theorem digV_snoc (l : List Nat) (d : Nat) : digV l ++ [.int .i64 (d : Int)] = digV (l ++ [d]) := by simp [digV]

set_option maxHeartbeats 1000000 in
theorem plus_any (a b : Nat) (va vb : Value) (w : World) (ha : RdN w va a) (hb : RdN w vb b) (la : (dg a).length ≤ 65536) (lb : (dg b).length ≤ 65536) :
    Calls Try.prog 90 #[va, vb] w fun e w' => ∃ v', e = .returned v' ∧ RdN w' v' (a + b) ∧ Below w.heap.size w w' := by
  obtain ⟨i0, hi0, hz0, hz1, hz2⟩ := info_parts infoI
  have HA := hid ha
  have HB := hid hb
  have DA := hid (dg_dig a)
  have DB := hid (dg_dig b)
  obtain ⟨aa, ca, rfl, hca, -⟩ := ha
  obtain ⟨ab, cb, rfl, hcb, -⟩ := hb
  obtain ⟨x, hx⟩ : ∃ x, x = dg a := ⟨_, rfl⟩
  obtain ⟨y, hy⟩ : ∃ y, y = dg b := ⟨_, rfl⟩
  have hsum : num x + num y = a + b := by rw [hx, hy, num_dg, num_dg]
  have HSUM := hid hsum
  unfold RdN at HA HB
  rw [← hx] at HA DA la hca ⊢
  rw [← hy] at HB DB lb hcb ⊢
  clear hx hy hsum
  obtain ⟨M, hM⟩ : ∃ M, M = max x.length y.length := ⟨_, rfl⟩
  have m1 : x.length ≤ M := by rw [hM]; exact Nat.le_max_left _ _
  have m2 : y.length ≤ M := by rw [hM]; exact Nat.le_max_right _ _
  have m3 : M ≤ x.length ∨ M ≤ y.length := by rw [hM]; omega
  clear hM
  go_enter Try.func90, Try.ntmps90
  go_wp2
  go_loopw [5, 6, 7] (fun ov cv iv wr => ∃ i : Nat, i ≤ M + 1 ∧ iv = .int .i64 i ∧ cv = .int .i64 ((plO x y i).2 : Nat) ∧ Hid (wr.ownsRow w.heap.size 3 1 ov i (digV (plO x y i).1)) ∧ Below w.heap.size w wr)
    (fun _ _ iv _ => M + 1 - (intOf iv).toNat)
  case atStart => exact ⟨0, by omega, rfl, rfl, hid (World.ownsRow_nil _ _ _ _), Below.refl _ _⟩
  case round =>
    obtain ⟨i, hi, rfl, rfl, ho, hb⟩ := hrel
    obtain ⟨s1, s2, s3, s4⟩ := plO_spec x y DA.out DB.out i
    by_cases hlt : i ≤ M
    · have HAW := hid fun j (hj : j ≤ 1048576) => at_any x j _ wr (HA.out.below hb) (by omega) hj
      have HBW := hid fun j (hj : j ≤ 1048576) => at_any y j _ wr (HB.out.below hb) (by omega) hj
      have g1 := nd_dig DA.out i
      have g2 := nd_dig DB.out i
      have HE : Hid (digV (plO x y (i + 1)).1 = digV (plO x y i).1 ++ [.int .i64 (((plO x y i).2 + nd x i + nd y i) % 256 : Nat)] ∧ (plO x y (i + 1)).2 = ((plO x y i).2 + nd x i + nd y i) / 256) := hid ⟨(digV_snoc _ _).symm, rfl⟩
      obtain ⟨c, hc⟩ : ∃ c, c = (plO x y i).2 := ⟨_, rfl⟩
      rw [← hc] at s3 HE ⊢
      have hbs := hb.size
      clear s1 s2 s4 hc
      by_cases hix : i ≤ x.length
      all_goals
        go_wp2_with (first | (go_at_call 112; first | ((with_reducible refine (HAW.out _ (by omega)).mono ?_); rintro e w' ⟨rfl, rfl⟩) | ((with_reducible refine (HBW.out _ (by omega)).mono ?_); rintro e w' ⟨rfl, rfl⟩)) | (at_builtin; refine wpList_append_any rfl (.tmp 29) (.tmp 32) 42 rfl w.heap.size 3 i0 _ 1 8 uNat hi0 hz0 hz1 hz2 rfl (by decide) _ _ rfl rfl i _ (ho.out.alloc _) 1 _ ⟨rfl, by simp [Value.oneCell'], _, _, rfl, fun _ => ⟨_, rfl, cell_one_new _ _ _⟩⟩ (by unfold maxLen; omega) (by omega) (by simp; omega) ?_))
        intro v2 w2 ho2 hg2 _
        have hlt2 := ho.out.lt
        have e2 : ((c : Int) + (nd x i : Nat) + (nd y i : Nat)) % 256 = (((c + nd x i + nd y i) % 256 : Nat) : Int) := by omega
        rw [e2, ← HE.out.1] at ho2
        have H2 := hid ho2
        have hb2 : Below w.heap.size w w2 := (hb.alloc hb.size _).grown hg2 (by simp; omega) (fun k e => by have := (hlt2 k e).1; omega)
        have hq : ((c : Int) + (nd x i : Nat) + (nd y i : Nat)) / 256 = (((plO x y (i + 1)).2 : Nat) : Int) := by rw [HE.out.2]; omega
        have HQ := hid hq
        clear ho2 hg2 e2 hlt2 hq
        go_wp2
        go_roundw
        case rel => exact ⟨i + 1, by omega, by go_num, by rw [HQ.out], H2, hb2⟩
        case measure => simp [intOf]; omega
    · obtain rfl : i = M + 1 := by omega
      have hn := hid (plO_num x y DA.out DB.out M m1 m2)
      have hlen : (plO x y (M + 1)).1.length = M + 1 := s1
      have hR := RdL.owned (by rw [hlen]; exact ho.out)
      have h1 : ¬ (((M + 1 : Nat) : Int) ≤ (x.length : Int)) := by omega
      have h2 : ¬ (((M + 1 : Nat) : Int) ≤ (y.length : Int)) := by omega
      have HT := hid (trim_any _ _ wr hR s2 (by rw [hlen]; omega))
      clear hR s1 s2 s3 s4 hlen
      go_wp2_with (go_at_call 113; (with_reducible refine HT.out.mono ?_); rintro e w' ⟨v', rfl, hr', hb'⟩)
      go_ret
      exact ⟨_, rfl, by rw [← HSUM.out, ← hn.out]; exact hr', hb.trans (hb'.mono hb.size)⟩

set_option maxHeartbeats 1000000 in
theorem less_any (a b : Nat) (va vb : Value) (w : World) (ha : RdN w va a) (hb : RdN w vb b) (la : (dg a).length ≤ 65536) (hle : b ≤ a) :
    Calls Try.prog 97 #[va, vb] w fun e w' => ∃ v', e = .returned v' ∧ RdN w' v' (a - b) ∧ Below w.heap.size w w' := by
  obtain ⟨i0, hi0, hz0, hz1, hz2⟩ := info_parts infoI
  have lb := dg_len_mono b a hle
  have HA := hid ha
  have HB := hid hb
  have DA := hid (dg_dig a)
  have DB := hid (dg_dig b)
  obtain ⟨aa, ca, rfl, hca, -⟩ := ha
  obtain ⟨ab, cb, rfl, hcb, -⟩ := hb
  have hdn := lsO_num (dg a) (dg b) DA.out DB.out lb (by rw [num_dg, num_dg]; exact hle)
  rw [num_dg, num_dg] at hdn
  obtain ⟨x, hx⟩ : ∃ x, x = dg a := ⟨_, rfl⟩
  obtain ⟨y, hy⟩ : ∃ y, y = dg b := ⟨_, rfl⟩
  rw [← hx, ← hy] at hdn
  have HDN := hid hdn
  unfold RdN at HA HB
  rw [← hx] at HA DA la hca lb ⊢
  rw [← hy] at HB DB lb hcb ⊢
  clear hx hy hdn
  go_enter Try.func97, Try.ntmps97
  go_wp2
  go_loopw [5, 6, 7] (fun ov cv iv wr => ∃ i : Nat, i ≤ x.length ∧ iv = .int .i64 i ∧ cv = .int .i64 (-((lsO x y i).2 : Int)) ∧ Hid (wr.ownsRow w.heap.size 3 1 ov i (digV (lsO x y i).1)) ∧ Below w.heap.size w wr)
    (fun _ _ iv _ => x.length - (intOf iv).toNat)
  case atStart => exact ⟨0, by omega, rfl, rfl, hid (World.ownsRow_nil _ _ _ _), Below.refl _ _⟩
  case round =>
    obtain ⟨i, hi, rfl, rfl, ho, hb⟩ := hrel
    obtain ⟨s1, s2, s3, s4⟩ := lsO_spec x y DA.out DB.out i
    by_cases hlt : i < x.length
    · have HAW := hid fun j (hj : j ≤ 1048576) => at_any x j _ wr (HA.out.below hb) (by omega) hj
      have HBW := hid fun j (hj : j ≤ 1048576) => at_any y j _ wr (HB.out.below hb) (by omega) hj
      have g1 := nd_dig DA.out i
      have g2 := nd_dig DB.out i
      have HE : Hid (lsO x y (i + 1) = if nd x i < nd y i + (lsO x y i).2 then ((lsO x y i).1 ++ [nd x i + 256 - nd y i - (lsO x y i).2], 1) else ((lsO x y i).1 ++ [nd x i - nd y i - (lsO x y i).2], 0)) := hid rfl
      obtain ⟨c, hc⟩ : ∃ c, c = (lsO x y i).2 := ⟨_, rfl⟩
      rw [← hc] at s3 HE ⊢
      have hbs := hb.size
      clear s1 s2 s4 hc
      have hlt2 := hid (ho.out.lt)
      by_cases hneg : nd x i < nd y i + c
      · have hE := HE.out
        rw [if_pos hneg] at hE
        have HE2 : Hid (digV (lsO x y (i + 1)).1 = digV (lsO x y i).1 ++ [.int .i64 ((nd x i + 256 - nd y i - c : Nat) : Int)] ∧ (lsO x y (i + 1)).2 = 1) := hid ⟨by rw [hE]; exact (digV_snoc _ _).symm, by rw [hE]⟩
        have t1 : -(c : Int) + (nd x i : Nat) - (nd y i : Nat) < 0 := by omega
        clear HE hE
        go_wp2_with (first | (go_at_call 112; first | ((with_reducible refine (HAW.out _ (by omega)).mono ?_); rintro e w' ⟨rfl, rfl⟩) | ((with_reducible refine (HBW.out _ (by omega)).mono ?_); rintro e w' ⟨rfl, rfl⟩)) | (at_builtin; refine wpList_append_any rfl (.tmp 25) (.tmp 28) 42 rfl w.heap.size 3 i0 _ 1 8 uNat hi0 hz0 hz1 hz2 rfl (by decide) _ _ rfl rfl i _ (ho.out.alloc _) 1 _ ⟨rfl, by simp [Value.oneCell'], _, _, rfl, fun _ => ⟨_, rfl, cell_one_new _ _ _⟩⟩ (by unfold maxLen; omega) (by omega) (by simp; omega) ?_))
        intro v2 w2 ho2 hg2 _
        have e2 : -(c : Int) + (nd x i : Nat) - (nd y i : Nat) + 256 = ((nd x i + 256 - nd y i - c : Nat) : Int) := by omega
        rw [e2, ← HE2.out.1] at ho2
        have H2 := hid ho2
        have hb2 : Below w.heap.size w w2 := (hb.alloc hb.size _).grown hg2 (by simp; omega) (fun k e => by have := (hlt2.out k e).1; omega)
        clear ho2 hg2 e2
        go_wp2
        go_roundw
        case rel => exact ⟨i + 1, by omega, by go_num, by rw [HE2.out.2]; rfl, H2, hb2⟩
        case measure => simp [intOf]; omega
      · have hE := HE.out
        rw [if_neg hneg] at hE
        have HE2 : Hid (digV (lsO x y (i + 1)).1 = digV (lsO x y i).1 ++ [.int .i64 ((nd x i - nd y i - c : Nat) : Int)] ∧ (lsO x y (i + 1)).2 = 0) := hid ⟨by rw [hE]; exact (digV_snoc _ _).symm, by rw [hE]⟩
        have t1 : ¬ (-(c : Int) + (nd x i : Nat) - (nd y i : Nat) < 0) := by omega
        clear HE hE
        go_wp2_with (first | (go_at_call 112; first | ((with_reducible refine (HAW.out _ (by omega)).mono ?_); rintro e w' ⟨rfl, rfl⟩) | ((with_reducible refine (HBW.out _ (by omega)).mono ?_); rintro e w' ⟨rfl, rfl⟩)) | (at_builtin; refine wpList_append_any rfl (.tmp 30) (.tmp 32) 42 rfl w.heap.size 3 i0 _ 1 8 uNat hi0 hz0 hz1 hz2 rfl (by decide) _ _ rfl rfl i _ (ho.out.alloc _) 1 _ ⟨rfl, by simp [Value.oneCell'], _, _, rfl, fun _ => ⟨_, rfl, cell_one_new _ _ _⟩⟩ (by unfold maxLen; omega) (by omega) (by simp; omega) ?_))
        intro v2 w2 ho2 hg2 _
        have e2 : -(c : Int) + (nd x i : Nat) - (nd y i : Nat) = ((nd x i - nd y i - c : Nat) : Int) := by omega
        rw [e2, ← HE2.out.1] at ho2
        have H2 := hid ho2
        have hb2 : Below w.heap.size w w2 := (hb.alloc hb.size _).grown hg2 (by simp; omega) (fun k e => by have := (hlt2.out k e).1; omega)
        clear ho2 hg2 e2
        go_wp2
        go_roundw
        case rel => exact ⟨i + 1, by omega, by go_num, by rw [HE2.out.2]; rfl, H2, hb2⟩
        case measure => simp [intOf]; omega
    · obtain rfl : i = x.length := by omega
      have hlen : (lsO x y x.length).1.length = x.length := s1
      have hR := RdL.owned (by rw [hlen]; exact ho.out)
      have HT := hid (trim_any _ _ wr hR s2 (by rw [hlen]; omega))
      clear hR s1 s2 s3 s4 hlen
      go_wp2_with (go_at_call 113; (with_reducible refine HT.out.mono ?_); rintro e w' ⟨v', rfl, hr', hb'⟩)
      go_ret
      exact ⟨_, rfl, by rw [← HDN.out]; exact hr', hb.trans (hb'.mono hb.size)⟩

set_option maxHeartbeats 1000000 in
theorem cmp_any (x y : List Nat) (va vb : Value) (w : World) (ha : RdL w va x) (hb : RdL w vb y) (dx : Dig x) (dy : Dig y) (la : x.length ≤ 65536) (lb : y.length ≤ 65536) :
    Calls Try.prog 43 #[va, vb] w fun e w' => e = .returned (.int .i64 (cmpI (num x) (num y))) ∧ w = w' := by
  have HA := hid ha
  have HB := hid hb
  have DA := hid dx
  have DB := hid dy
  obtain ⟨aa, ca, rfl, hca, -⟩ := ha
  obtain ⟨ab, cb, rfl, hcb, -⟩ := hb
  have HAW := hid fun j (hj : j ≤ 1048576) => at_any x j _ w HA.out (by omega) hj
  have HBW := hid fun j (hj : j ≤ 1048576) => at_any y j _ w HB.out (by omega) hj
  obtain ⟨M, hM⟩ : ∃ M, M = max x.length y.length := ⟨_, rfl⟩
  have m1 : x.length ≤ M := by rw [hM]; exact Nat.le_max_left _ _
  have m2 : y.length ≤ M := by rw [hM]; exact Nat.le_max_right _ _
  have m3 : M ≤ 65536 := by omega
  have hmm : max (x.length : Int) (y.length : Int) = (M : Int) := by omega
  clear dx dy hM
  go_enter Try.func43, Try.ntmps43
  go_wp2
  all_goals
    go_loop [5] (fun iv => ∃ i : Nat, i ≤ M ∧ iv = .int .i64 ((i : Int) - 1) ∧ Hid (num (x.drop i) = num (y.drop i))) (fun iv => (intOf iv + 1).toNat)
    case atStart => exact ⟨M, Nat.le_refl _, by (congr 1; omega), hid (by rw [List.drop_eq_nil_of_le m1, List.drop_eq_nil_of_le m2])⟩
    case round =>
      obtain ⟨i, hi, rfl, he⟩ := hrel
      by_cases h0 : i = 0
      · subst h0
        have hz := cmpI_eq he.out
        simp only [List.drop_zero] at hz
        have HZ := hid hz
        clear hz hmm
        go_wp2
        go_ret
        exact ⟨by first | (rw [HZ.out]; done) | (rw [HZ.out]; rfl), rfl⟩
      · obtain ⟨k, rfl⟩ : ∃ k, i = k + 1 := ⟨i - 1, by omega⟩
        have e1 : (((k + 1 : Nat) : Int) - 1) = (k : Int) := by omega
        have dX := num_drop x k
        have dY := num_drop y k
        rw [he.out] at dX
        clear hmm h0
        rw [e1]
        clear e1
        rcases Nat.lt_trichotomy (nd x k) (nd y k) with hlt | hlt | hlt
        · have hc := hid (cmpI_lt (num_less x y DA.out k (by unfold nd at hlt; omega)))
          clear dX dY
          go_wp2_with (go_at_call 112; first | ((with_reducible refine (HAW.out _ (by omega)).mono ?_); rintro e w' ⟨rfl, rfl⟩) | ((with_reducible refine (HBW.out _ (by omega)).mono ?_); rintro e w' ⟨rfl, rfl⟩))
          go_ret
          exact ⟨by first | (rw [hc.out]; done) | (rw [hc.out]; rfl), rfl⟩
        · have hn := hid (show num (x.drop k) = num (y.drop k) by unfold nd at hlt; omega)
          have hn1 : ¬ nd x k < nd y k := by omega
          have hn2 : ¬ nd y k < nd x k := by omega
          clear dX dY hlt
          go_wp2_with (go_at_call 112; first | ((with_reducible refine (HAW.out _ (by omega)).mono ?_); rintro e w' ⟨rfl, rfl⟩) | ((with_reducible refine (HBW.out _ (by omega)).mono ?_); rintro e w' ⟨rfl, rfl⟩))
          go_round
          case rel => exact ⟨k, by omega, rfl, hn⟩
          case measure => simp [intOf] <;> omega
        · have hc := hid (cmpI_gt (num_less y x DB.out k (by unfold nd at hlt; omega)))
          have hn1 : ¬ nd x k < nd y k := by omega
          clear dX dY
          go_wp2_with (go_at_call 112; first | ((with_reducible refine (HAW.out _ (by omega)).mono ?_); rintro e w' ⟨rfl, rfl⟩) | ((with_reducible refine (HBW.out _ (by omega)).mono ?_); rintro e w' ⟨rfl, rfl⟩))
          go_ret
          exact ⟨by first | (rw [hc.out]; done) | (rw [hc.out]; rfl), rfl⟩
end Go.Proofs.Ytfidbiabgmioaaa

/-! Digits: more of the plain law; rows of digits in memory. -/
namespace Go.Proofs.Ytfidbiabgmioaaa
open Go.RowKit

theorem i64_and1 (n : Int) : bits .and .i64 n 1 = n % 2 := by
  have h1 : (BitVec.ofInt 64 1).toNat = 2 ^ 1 - 1 := by decide
  have key : (BitVec.ofInt 64 n &&& BitVec.ofInt 64 1).toNat = (n % ((2 ^ 64 : Nat) : Int)).toNat % 2 ^ 1 := by
    rw [BitVec.toNat_and, BitVec.toNat_ofInt, h1, Nat.and_two_pow_sub_one_eq_mod]
  show IntKind.i64.wrap ((BitVec.ofInt 64 n &&& BitVec.ofInt 64 1).toNat : Nat) = n % 2
  rw [key, IntKind.wrap_i64]
  omega
theorem i64_and255 (n : Int) : bits .and .i64 n 255 = n % 256 := by
  have h1 : (BitVec.ofInt 64 255).toNat = 2 ^ 8 - 1 := by decide
  have key : (BitVec.ofInt 64 n &&& BitVec.ofInt 64 255).toNat = (n % ((2 ^ 64 : Nat) : Int)).toNat % 2 ^ 8 := by
    rw [BitVec.toNat_and, BitVec.toNat_ofInt, h1, Nat.and_two_pow_sub_one_eq_mod]
  show IntKind.i64.wrap ((BitVec.ofInt 64 n &&& BitVec.ofInt 64 255).toNat : Nat) = n % 256
  rw [key, IntKind.wrap_i64]
  omega
theorem ofInt_nat64 (a : Nat) (h : a < 18446744073709551616) : (BitVec.ofInt 64 (a : Int)).toNat = a := by
  rw [BitVec.toNat_ofInt]; omega
theorem i64_or_small (a b : Nat) (ha : a < 256) (hb : b < 256) : bits .or .i64 (a : Int) (b : Int) = ((a ||| b : Nat) : Int) := by
  have hx : a ||| b < 2 ^ 8 := Nat.or_lt_two_pow (by omega) (by omega)
  show IntKind.i64.wrap ((BitVec.ofInt 64 (a : Int) ||| BitVec.ofInt 64 (b : Int)).toNat : Int) = _
  rw [BitVec.toNat_or, ofInt_nat64 a (by omega), ofInt_nat64 b (by omega), IntKind.wrap_i64]
  omega

theorem num_set (l : List Nat) (j x : Nat) (h : j < l.length) : num (l.set j x) + 256 ^ j * nd l j = num l + 256 ^ j * x := by
  have h1 := num_split l j (by omega)
  have h2 := num_split (l.set j x) j (by simp; omega)
  have e1 : (l.set j x).take j = l.take j := by rw [List.take_set]; exact List.set_eq_of_length_le (by rw [List.length_take]; omega)
  have e2 := num_drop l j
  have e3 := num_drop (l.set j x) j
  have e4 : (l.set j x).drop (j + 1) = l.drop (j + 1) := by rw [List.drop_set, if_pos (by omega)]
  have e5 : (l.set j x).getD j 0 = x := by rw [List.getD_eq_getElem?_getD, List.getElem?_set_self h]; rfl
  rw [e1] at h2
  rw [e4, e5] at e3
  unfold nd
  rw [h1, h2, e2, e3, Nat.mul_add, Nat.mul_add]
  omega
/-- One digit of a number. -/
theorem nd_num (l : List Nat) (hD : Dig l) (m : Nat) : nd l m = num l / 256 ^ m % 256 := by
  have hd := nd_dig hD m
  have h2 := num_drop l m
  have hp : 0 < 256 ^ m := Nat.pow_pos (by omega)
  rcases Nat.lt_or_ge m l.length with h | h
  · have h1 := num_split l m (Nat.le_of_lt h)
    have h3 : num (l.take m) < 256 ^ m := by
      have := num_lt _ (hD.take m)
      rw [List.length_take, Nat.min_eq_left (Nat.le_of_lt h)] at this; exact this
    rw [h1, Nat.add_mul_div_left _ _ hp, Nat.div_eq_of_lt h3, Nat.zero_add, h2]
    show nd l m = (nd l m + _) % 256
    omega
  · rw [nd_out h]
    have := num_lt l hD
    have h4 : 256 ^ l.length ≤ 256 ^ m := Nat.pow_le_pow_right (by omega) h
    rw [Nat.div_eq_of_lt (by omega)]
/-- Block g holds the digits l, and nothing else. -/
def ArrL (w : World) (g : Nat) (l : List Nat) : Prop := w.heap[g]? = some (.cells (digV l).toArray 3 (0, 0))
theorem ArrL.lt {w : World} {g : Nat} {l : List Nat} (h : ArrL w g l) : g < w.heap.size := (Array.getElem?_eq_some_iff.1 h).1
theorem ArrL.cell {w : World} {g : Nat} {l : List Nat} (h : ArrL w g l) (j : Nat) (hj : j < l.length) : w.cell? ⟨g, j, none⟩ = some (.int .i64 ((nd l j : Nat) : Int)) := by
  unfold ArrL at h
  simp [World.cell?, h, digV, nd, hj]
theorem ArrL.free {w : World} {g : Nat} {l : List Nat} (h : ArrL w g l) (j : Nat) : w.frozen? ⟨g, j, none⟩ = false := by
  unfold ArrL at h
  simp [World.frozen?, h]
theorem ArrL.set {w : World} {g : Nat} {l : List Nat} (h : ArrL w g l) (j x : Nat) : ArrL (w.setCell ⟨g, j, none⟩ (.int .i64 (x : Int))) g (l.set j x) := by
  unfold ArrL at *
  simp [World.setCell, Array.getElem?_modify, h, digV, List.map_set]
theorem ArrL.other {w : World} {g : Nat} {l : List Nat} (h : ArrL w g l) {a : Addr} (ha : g ≠ a.block) (v : Value) : ArrL (w.setCell a v) g l := by
  unfold ArrL at *
  rw [Below.heap_setCell _ _ _ _ ha]; exact h
theorem ArrL.below {w w' : World} {g B : Nat} {l : List Nat} (h : ArrL w g l) (hb : Below B w w') (hB : g < B) : ArrL w' g l := by
  unfold ArrL at *
  rw [hb.block g hB]; exact h
theorem ArrL.ext {w : World} {g : Nat} {l : List Nat} (h : ArrL w g l) (x : World) : ArrL (w.ext x) g l := h.below (w.ext_below x) h.lt
theorem ArrL.alloc {w : World} {g : Nat} {l : List Nat} (h : ArrL w g l) (o : Obj) : ArrL (w.alloc o) g l := by
  unfold ArrL at *
  rw [Below.heap_alloc _ _ _ (ArrL.lt h)]; exact h
theorem ArrL.new (w : World) (l : List Nat) : ArrL (w.alloc (.cells (digV l).toArray 3)) w.heap.size l := by
  unfold ArrL
  show (w.heap.push _)[w.heap.size]? = _
  simp
theorem ArrL.rd {w : World} {g : Nat} {l : List Nat} (h : ArrL w g l) (cap : Nat) (hc : l.length ≤ cap) : RdL w (.slice (some ⟨g, 0, none⟩) l.length cap) l :=
  ⟨_, cap, rfl, hc, fun _ => ⟨g, 0, rfl, h.lt, fun j hj => by rw [Nat.zero_add]; exact h.cell j hj⟩⟩
theorem digV_rep (n : Nat) : (digV (List.replicate n 0)).toArray = Array.replicate n (.int .i64 0) := by
  simp [digV]
theorem mkNat (N : Nat) (hN : N ≤ 1048576) (w : World) : (Instr.makeSlice 42 (.int .i64 (N : Int)) (.int .i64 (N : Int))).run Try.prog w = .ok (.slice (some ⟨w.heap.size, 0, none⟩) N N) (w.alloc (.cells (digV (List.replicate N 0)).toArray 3)) := by
  obtain ⟨i0, hi0, hz0, hz1, hz2⟩ := info_parts infoI
  have h := run_make (P := Try.prog) w 42 3 i0 (.int .i64 0) uNat hi0 hz0 .i64 .i64 (N : Int) (N : Int) (by omega) (Int.le_refl _) (by rw [hz2]; omega) (by omega)
  rw [h, Int.toNat_natCast, hz1, Nat.mul_one, digV_rep]
  congr 3
  apply Array.ext
  · simp [madeCells]
  · intro j h1 h2
    simp [madeCells, Value.cells, Nat.mod_one]
end Go.Proofs.Ytfidbiabgmioaaa

/-! conclaveref01.Times. -/
namespace Go.Proofs.Ytfidbiabgmioaaa
open Go.RowKit

theorem at_ext (l : List Nat) (i : Nat) (v : Value) (w : World) (hr : RdL w v l) (hl : l.length ≤ 1048576) (hi : i ≤ 1048576) (x : World) :
    Calls Try.prog 112 #[v, .int .i64 i] (w.ext x) fun e w' => e = .returned (.int .i64 ((nd l i : Nat) : Int)) ∧ Below (w.ext x).heap.size (w.ext x) w' :=
  (at_any l i v (w.ext x) (hr.ext x) hl hi).mono fun e w' ⟨h1, h2⟩ => ⟨h1, by subst h2; exact Below.refl _ _⟩

/-- One step of the inner loop. -/
theorem times_step (o x y : List Nat) (N i k c b : Nat) (ho : Dig o) (hx : Dig x) (hy : Dig y) (hN : o.length = N) (hik : i + k < N) (hc : c ≤ 255)
    (h : num o + 256 ^ (i + k) * c = b + 256 ^ i * (nd x i * num (y.take k))) :
    num (o.set (i + k) ((c + nd o (i + k) + nd x i * nd y k) % 256)) + 256 ^ (i + (k + 1)) * ((c + nd o (i + k) + nd x i * nd y k) / 256) = b + 256 ^ i * (nd x i * num (y.take (k + 1))) ∧
      (c + nd o (i + k) + nd x i * nd y k) / 256 ≤ 255 := by
  have h1 := nd_dig ho (i + k)
  have h2 := nd_dig hx i
  have h3 := nd_dig hy k
  have hm : nd x i * nd y k ≤ 255 * 255 := Nat.mul_le_mul (by omega) (by omega)
  generalize hs : c + nd o (i + k) + nd x i * nd y k = s
  have h4 := num_set o (i + k) (s % 256) (by omega)
  have h5 : num (y.take (k + 1)) = num (y.take k) + 256 ^ k * nd y k := num_take_succ y k
  refine ⟨?_, by omega⟩
  have e1 : 256 ^ (i + k) * (s % 256) + 256 ^ (i + (k + 1)) * (s / 256) = 256 ^ (i + k) * s := by
    rw [← Nat.add_assoc, Nat.pow_succ, Nat.mul_assoc, ← Nat.mul_add, Nat.mod_add_div]
  have e2 : 256 ^ (i + k) * s = 256 ^ (i + k) * c + 256 ^ (i + k) * nd o (i + k) + 256 ^ (i + k) * (nd x i * nd y k) := by rw [← hs, Nat.mul_add, Nat.mul_add]
  have e3 : 256 ^ i * (nd x i * num (y.take (k + 1))) = 256 ^ i * (nd x i * num (y.take k)) + 256 ^ (i + k) * (nd x i * nd y k) := by
    rw [h5, Nat.mul_add, Nat.mul_add, Nat.pow_add]
    congr 1
    simp only [Nat.mul_assoc, Nat.mul_comm, Nat.mul_left_comm]
  omega
/-- Behind the last digit nothing is carried on. -/
theorem times_end (o x y : List Nat) (i c : Nat) (hx : Dig x) (hy : Dig y) (hi : i < x.length)
    (h : num o + 256 ^ (i + (y.length + 1)) * c = num (x.take i) * num y + 256 ^ i * (nd x i * num y)) : c = 0 := by
  have h1 : num (x.take i) * num y + 256 ^ i * (nd x i * num y) = num (x.take (i + 1)) * num y := by
    rw [num_take_succ, Nat.add_mul, Nat.mul_assoc]; rfl
  rw [h1] at h
  have h2 : num (x.take (i + 1)) < 256 ^ (i + 1) := by
    have := num_lt _ (hx.take (i + 1))
    rw [List.length_take, Nat.min_eq_left (by omega)] at this; exact this
  have h3 := num_lt y hy
  have h4 : num (x.take (i + 1)) * num y < 256 ^ (i + 1) * 256 ^ y.length := by
    apply Nat.mul_lt_mul_of_lt_of_le h2 (Nat.le_of_lt h3)
    exact Nat.pow_pos (by omega)
  rw [← Nat.pow_add, show i + 1 + y.length = i + (y.length + 1) by omega] at h4
  rcases Nat.eq_zero_or_pos c with h0 | h0
  · exact h0
  · have : 256 ^ (i + (y.length + 1)) * 1 ≤ 256 ^ (i + (y.length + 1)) * c := Nat.mul_le_mul_left _ h0
    omega

set_option maxHeartbeats 1000000 in
theorem times_any (a b : Nat) (va vb : Value) (w : World) (ha : RdN w va a) (hb : RdN w vb b) (la : (dg a).length ≤ 65536) (lb : (dg b).length ≤ 65536) :
    Calls Try.prog 104 #[va, vb] w fun e w' => ∃ v', e = .returned v' ∧ RdN w' v' (a * b) ∧ Below w.heap.size w w' := by
  have HA := hid ha
  have HB := hid hb
  have DA := hid (dg_dig a)
  have DB := hid (dg_dig b)
  obtain ⟨aa, ca, rfl, hca, hxa⟩ := ha
  obtain ⟨ab, cb, rfl, hcb, -⟩ := hb
  obtain ⟨x, hx⟩ : ∃ x, x = dg a := ⟨_, rfl⟩
  obtain ⟨y, hy⟩ : ∃ y, y = dg b := ⟨_, rfl⟩
  have hprod : num x * num y = a * b := by rw [hx, hy, num_dg, num_dg]
  have HPROD := hid hprod
  unfold RdN at HA HB
  rw [← hx] at HA DA la hca hxa ⊢
  rw [← hy] at HB DB lb hcb ⊢
  have HXA := hid hxa
  clear hx hy hprod hxa
  obtain ⟨N, hN⟩ : ∃ N, N = x.length + y.length + 1 := ⟨_, rfl⟩
  have eN : (x.length : Int) + (y.length : Int) + 1 = (N : Int) := by omega
  have HN := hid hN
  have hN0 : 0 < N := by omega
  have hNb : N ≤ 131073 := by omega
  have hmk := mkNat N (by omega)
  clear hN
  go_enter Try.func104, Try.ntmps104
  go_wp2
  go_loopw [6] (fun iv wr => ∃ i : Nat, i ≤ x.length ∧ iv = .int .i64 i ∧ Hid (∃ o, ArrL wr w.heap.size o ∧ o.length = N ∧ Dig o ∧ num o = num (x.take i) * num y) ∧ Below w.heap.size w wr)
    (fun iv _ => x.length - (intOf iv).toNat)
  case atStart => exact ⟨0, by omega, rfl, hid ⟨_, ArrL.new _ _, by simp, Dig.rep _, by rw [num_rep]; simp [num]⟩, (Below.refl _ _).alloc (Nat.le_refl _) _⟩
  case round =>
    clear hmk
    obtain ⟨i, hi, rfl, ho, hb⟩ := hrel
    obtain ⟨o0, ho0⟩ := ho.out
    have HO0 := hid ho0
    clear ho ho0
    by_cases hlt : i < x.length
    · obtain ⟨ba, offa, rfl, hbl, hcell⟩ := HXA.out (by intro e; subst e; simp at hlt)
      have hcx := hcell i hlt
      have gX := nd_dig DA.out i
      clear hcell
      go_wp2
      obtain ⟨wo, hwo⟩ : ∃ wo : World, wo = wr := ⟨_, rfl⟩
      subst hwo
      go_loopw [7, 8] (fun cv kv wr => ∃ k c : Nat, k ≤ y.length + 1 ∧ (k = y.length + 1 → c = 0) ∧ c ≤ 255 ∧ kv = .int .i64 k ∧ cv = .int .i64 c ∧ Hid (∃ o, ArrL wr w.heap.size o ∧ o.length = N ∧ Dig o ∧ num o + 256 ^ (i + k) * c = num (x.take i) * num y + 256 ^ i * (nd x i * num (y.take k))) ∧ Below w.heap.size w wr)
        (fun _ kv _ => y.length + 1 - (intOf kv).toNat)
      case atStart =>
        obtain ⟨h1, h2, h3, h4⟩ := HO0.out
        exact ⟨0, 0, by omega, fun h => rfl, by omega, rfl, rfl, hid ⟨o0, h1, h2, h3, by rw [h4]; simp [num]⟩, hb⟩
      case round =>
        clear HO0 hb
        obtain ⟨k, c, hk, hkc, hc, rfl, rfl, ho, hb⟩ := hrel
        obtain ⟨o, ho1, ho2, ho3, ho4⟩ := ho.out
        have hNv := HN.out
        have HO4 := hid ho4
        clear ho ho4
        by_cases hgo : k < y.length ∨ 0 < c
        · have hky : k ≤ y.length := by
            rcases hgo with h | h
            · omega
            · rcases Nat.lt_or_ge k (y.length + 1) with h1 | h1
              · omega
              · have := hkc (by omega); omega
          have hik : i + k < N := by omega
          obtain ⟨e1, e2⟩ := times_step o x y N i k c _ ho3 DA.out DB.out ho2 hik hc HO4.out
          have E1 := hid e1
          have hend : k = y.length → (c + nd o (i + k) + nd x i * nd y k) / 256 = 0 := fun e => by
            subst e
            have h9 := E1.out
            rw [show y.take (y.length + 1) = y from List.take_of_length_le (by omega)] at h9
            exact times_end _ x y i _ DA.out DB.out hlt h9
          have HEND := hid hend
          have c1 := ho1.cell (i + k) (by omega)
          have f1 := ho1.free (i + k)
          have l1 := ho1.lt
          have cx := (hb.cell (p := ⟨ba, offa + i, none⟩) hbl).trans hcx
          have lb1 : ba < wr.heap.size := Nat.lt_of_lt_of_le hbl hb.size
          have HAT := hid (at_ext y k _ wr (HB.out.below hb) (by omega) (by omega))
          have gO := nd_dig ho3 (i + k)
          have gY := nd_dig DB.out k
          have hm : nd x i * nd y k ≤ 65025 := Nat.mul_le_mul (by omega : nd x i ≤ 255) (by omega : nd y k ≤ 255)
          have hm2 : ((nd x i : Nat) : Int) * ((nd y k : Nat) : Int) = ((nd x i * nd y k : Nat) : Int) := by rw [Int.natCast_mul]
          have hm3 : ((nd x i : Nat) : Int) * ((nd y k : Nat) : Int) ≤ 65025 := by omega
          have hm4 : (0 : Int) ≤ ((nd x i : Nat) : Int) * ((nd y k : Nat) : Int) := by omega
          have HM2 := hid hm2
          clear hm2
          have HO1 := hid ho1
          have HO2 := hid ho2
          have HO3 := hid ho3
          have HKC := hid hkc
          clear e1 hend hkc ho1 ho2 ho3
          by_cases hky2 : k < y.length
          all_goals
            have hc0 : ¬ k < y.length → 0 < c := fun h => by omega
            first | have hc1 : (0 : Int) < c := by have := hc0 hky2; omega | skip
            clear hc0 hgo hNv
            go_wp2_with (refine wp_region_ext (by kernel_rfl) (by kernel_rfl) ?_; (repeat (go_big_quiet_step (first | (go_at_call 112; with_reducible refine Calls.ext_of (HAT.out _))))); refine wpQuiet_nil ?_; rintro _ ⟨xw, rfl⟩)
            have q1 : ((c : Int) + ((nd o (i + k) : Nat) : Int) + ((nd x i : Nat) : Int) * ((nd y k : Nat) : Int)) / 256 = (((c + nd o (i + k) + nd x i * nd y k) / 256 : Nat) : Int) := by rw [HM2.out]; omega
            have q2 : ((c : Int) + ((nd o (i + k) : Nat) : Int) + ((nd x i : Nat) : Int) * ((nd y k : Nat) : Int)) % 256 = (((c + nd o (i + k) + nd x i * nd y k) % 256 : Nat) : Int) := by rw [HM2.out]; omega
            go_roundw
            case rel =>
              rw [q1, q2]
              refine ⟨k + 1, (c + nd o (i + k) + nd x i * nd y k) / 256, by omega, fun e => HEND.out (by omega), e2, by go_num, rfl, hid ⟨_, (HO1.out.ext xw).set _ _, by rw [List.length_set]; exact HO2.out, HO3.out.set _ _ (by omega), E1.out⟩, (World.ext_below_of hb hb.size xw).setCell (p := ⟨w.heap.size, i + k, none⟩) (Nat.le_refl _) _⟩
            case measure => simp [intOf]; omega
        · have hky : y.length ≤ k := by omega
          obtain rfl : c = 0 := by omega
          have hn1 : ¬ k < y.length := by omega
          have HO1 := hid ho1
          have HO2 := hid ho2
          have HO3 := hid ho3
          clear ho1 ho2 ho3 hgo
          go_wp2
          go_roundw
          case rel =>
            refine ⟨i + 1, by omega, by go_num, hid ⟨o, HO1.out, HO2.out, HO3.out, ?_⟩, hb⟩
            have h9 := HO4.out
            rw [show y.take k = y from List.take_of_length_le hky, Nat.mul_zero, Nat.add_zero] at h9
            rw [h9, num_take_succ, Nat.add_mul, Nat.mul_assoc]; rfl
          case measure => simp [intOf]; omega
    · obtain rfl : i = x.length := by omega
      obtain ⟨h1, h2, h3, h4⟩ := HO0.out
      have hR := h1.rd N (by omega)
      rw [h2] at hR
      have HT := hid (trim_any o0 _ wr hR h3 (by omega))
      have HP := hid (show num o0 = a * b by rw [h4, List.take_of_length_le (Nat.le_refl _)]; exact HPROD.out)
      clear hR h1 h2 h3 h4
      go_wp2_with (go_at_call 113; (with_reducible refine HT.out.mono ?_); rintro e w' ⟨v', rfl, hr', hb'⟩)
      go_ret
      exact ⟨_, rfl, by rw [← HP.out]; exact hr', hb.trans (hb'.mono hb.size)⟩
end Go.Proofs.Ytfidbiabgmioaaa

/-! conclaveref01.Quo: the plain law. -/
namespace Go.Proofs.Ytfidbiabgmioaaa
open Go.RowKit

theorem num_take_set (l : List Nat) (k x : Nat) (h : k < l.length) : num ((l.set k x).take (k + 1)) = num (l.take k) + 256 ^ k * x := by
  rw [num_take_succ]
  have e1 : (l.set k x).take k = l.take k := by rw [List.take_set]; exact List.set_eq_of_length_le (by rw [List.length_take]; omega)
  have e5 : (l.set k x).getD k 0 = x := by rw [List.getD_eq_getElem?_getD, List.getElem?_set_self h]; rfl
  rw [e1, e5]
theorem nd_set_ne (l : List Nat) (k j x : Nat) (h : k ≠ j) : nd (l.set k x) j = nd l j := by
  unfold nd; rw [List.getD_eq_getElem?_getD, List.getElem?_set_ne h, ← List.getD_eq_getElem?_getD]
/-- Twice the number, and a bit more. -/
def db (r : List Nat) (bit : Nat) : Nat → List Nat × Nat
  | 0 => (r, bit)
  | k + 1 => ((db r bit k).1.set k (((db r bit k).2 + 2 * nd (db r bit k).1 k) % 256), ((db r bit k).2 + 2 * nd (db r bit k).1 k) / 256)
theorem db_spec (r : List Nat) (bit : Nat) (hr : Dig r) (hb : bit ≤ 1) (k : Nat) (hk : k ≤ r.length) :
    (db r bit k).1.length = r.length ∧ Dig (db r bit k).1 ∧ (db r bit k).2 ≤ 1 ∧ (∀ j, k ≤ j → nd (db r bit k).1 j = nd r j) ∧ num ((db r bit k).1.take k) + 256 ^ k * (db r bit k).2 = 2 * num (r.take k) + bit := by
  induction k with
  | zero => exact ⟨rfl, hr, hb, fun _ _ => rfl, by simp [db, num]⟩
  | succ k ih =>
    obtain ⟨h1, h2, h3, h4, h5⟩ := ih (by omega)
    have g1 := nd_dig hr k
    have e := h4 k (Nat.le_refl _)
    generalize hR : (db r bit k).1 = R at *
    generalize hC : (db r bit k).2 = c at *
    have e0 : db r bit (k + 1) = (R.set k ((c + 2 * nd R k) % 256), (c + 2 * nd R k) / 256) := by simp only [db, hR, hC]
    rw [e0]
    refine ⟨by simp [h1], h2.set _ _ (by omega), by simp only; omega, fun j hj => (by simp only; rw [nd_set_ne _ _ _ _ (by omega)]; exact h4 j (by omega)), ?_⟩
    simp only
    rw [num_take_set _ _ _ (by omega), num_take_succ r k]
    show _ = 2 * (num (r.take k) + 256 ^ k * nd r k) + bit
    rw [e]
    have e1 : 256 ^ k * ((c + 2 * nd r k) % 256) + 256 ^ (k + 1) * ((c + 2 * nd r k) / 256) = 256 ^ k * (c + 2 * nd r k) := by
      rw [Nat.pow_succ, Nat.mul_assoc, ← Nat.mul_add, Nat.mod_add_div]
    rw [Nat.mul_add (256 ^ k) c] at e1
    have e2 : 256 ^ k * (2 * nd r k) = 2 * (256 ^ k * nd r k) := by rw [Nat.mul_left_comm]
    omega
theorem db_num (r : List Nat) (bit : Nat) (hr : Dig r) (hb : bit ≤ 1) (h : 2 * num r + bit < 256 ^ r.length) : num (db r bit r.length).1 = 2 * num r + bit ∧ Dig (db r bit r.length).1 ∧ (db r bit r.length).1.length = r.length := by
  obtain ⟨h1, h2, h3, h4, h5⟩ := db_spec r bit hr hb r.length (Nat.le_refl _)
  rw [List.take_of_length_le (by omega), List.take_of_length_le (Nat.le_refl _)] at h5
  refine ⟨?_, h2, h1⟩
  rcases Nat.eq_zero_or_pos (db r bit r.length).2 with h0 | h0
  · rw [h0] at h5; omega
  · have : 256 ^ r.length * 1 ≤ 256 ^ r.length * (db r bit r.length).2 := Nat.mul_le_mul_left _ h0
    omega
/-- Less another number. -/
def sb (r y : List Nat) : Nat → List Nat × Nat
  | 0 => (r, 0)
  | k + 1 => if nd (sb r y k).1 k < nd y k + (sb r y k).2 then ((sb r y k).1.set k (nd (sb r y k).1 k + 256 - nd y k - (sb r y k).2), 1) else ((sb r y k).1.set k (nd (sb r y k).1 k - nd y k - (sb r y k).2), 0)
theorem sb_spec (r y : List Nat) (hr : Dig r) (hy : Dig y) (k : Nat) (hk : k ≤ r.length) :
    (sb r y k).1.length = r.length ∧ Dig (sb r y k).1 ∧ (sb r y k).2 ≤ 1 ∧ (∀ j, k ≤ j → nd (sb r y k).1 j = nd r j) ∧ num ((sb r y k).1.take k) + num (y.take k) = num (r.take k) + 256 ^ k * (sb r y k).2 := by
  induction k with
  | zero => exact ⟨rfl, hr, Nat.zero_le _, fun _ _ => rfl, by simp [sb, num]⟩
  | succ k ih =>
    obtain ⟨h1, h2, h3, h4, h5⟩ := ih (by omega)
    have g1 := nd_dig hr k
    have g2 := nd_dig hy k
    have e := h4 k (Nat.le_refl _)
    have e8 : num (y.take (k + 1)) = num (y.take k) + 256 ^ k * nd y k := num_take_succ y k
    have e9 : num (r.take (k + 1)) = num (r.take k) + 256 ^ k * nd r k := num_take_succ r k
    generalize hR : (sb r y k).1 = R at *
    generalize hC : (sb r y k).2 = c at *
    have e0 : sb r y (k + 1) = if nd R k < nd y k + c then (R.set k (nd R k + 256 - nd y k - c), 1) else (R.set k (nd R k - nd y k - c), 0) := by simp only [sb, hR, hC]
    rw [e0]
    have hp : 0 < 256 ^ k := Nat.pow_pos (by omega)
    by_cases hlt : nd R k < nd y k + c
    · rw [if_pos hlt]
      refine ⟨by simp [h1], h2.set _ _ (by omega), by simp, fun j hj => (by simp only; rw [nd_set_ne _ _ _ _ (by omega)]; exact h4 j (by omega)), ?_⟩
      simp only
      rw [num_take_set _ _ _ (by omega), e8, e9, Nat.pow_succ, e]
      have e2 : 256 ^ k * (nd r k + 256 - nd y k - c) + 256 ^ k * nd y k + 256 ^ k * c = 256 ^ k * nd r k + 256 ^ k * 256 := by
        rw [← Nat.mul_add, ← Nat.mul_add, ← Nat.mul_add]; congr 1; omega
      omega
    · rw [if_neg hlt]
      refine ⟨by simp [h1], h2.set _ _ (by omega), by simp, fun j hj => (by simp only; rw [nd_set_ne _ _ _ _ (by omega)]; exact h4 j (by omega)), ?_⟩
      simp only
      rw [num_take_set _ _ _ (by omega), e8, e9, e]
      have e2 : 256 ^ k * (nd r k - nd y k - c) + 256 ^ k * nd y k + 256 ^ k * c = 256 ^ k * nd r k := by
        rw [← Nat.mul_add, ← Nat.mul_add]; congr 1; omega
      omega
theorem sb_num (r y : List Nat) (hr : Dig r) (hy : Dig y) (hl : y.length ≤ r.length) (h : num y ≤ num r) : num (sb r y r.length).1 = num r - num y ∧ Dig (sb r y r.length).1 ∧ (sb r y r.length).1.length = r.length := by
  obtain ⟨h1, h2, h3, h4, h5⟩ := sb_spec r y hr hy r.length (Nat.le_refl _)
  rw [List.take_of_length_le (by omega), List.take_of_length_le hl, List.take_of_length_le (Nat.le_refl _)] at h5
  refine ⟨?_, h2, h1⟩
  have l1 := num_lt _ h2
  rw [h1] at l1
  rcases Nat.eq_zero_or_pos (sb r y r.length).2 with h0 | h0
  · rw [h0] at h5; omega
  · have : 256 ^ r.length * 1 ≤ 256 ^ r.length * (sb r y r.length).2 := Nat.mul_le_mul_left _ h0
    omega
/-- A bit of a number. -/
theorem nd_bit (x : List Nat) (hx : Dig x) (p : Nat) : nd x (p / 8) / 2 ^ (p % 8) % 2 = num x / 2 ^ p % 2 := by
  rw [nd_num x hx]
  have e : num x / 2 ^ p = num x / 256 ^ (p / 8) / 2 ^ (p % 8) := by
    rw [Nat.div_div_eq_div_mul, show (256 : Nat) = 2 ^ 8 from rfl, ← Nat.pow_mul, ← Nat.pow_add]
    congr 2
    omega
  rw [e]
  generalize num x / 256 ^ (p / 8) = X
  have hc : p % 8 = 0 ∨ p % 8 = 1 ∨ p % 8 = 2 ∨ p % 8 = 3 ∨ p % 8 = 4 ∨ p % 8 = 5 ∨ p % 8 = 6 ∨ p % 8 = 7 := by omega
  rcases hc with h | h | h | h | h | h | h | h <;> rw [h] <;> omega
/-- A bit set in a quotient. -/
theorem q_set (q : List Nat) (hq : Dig q) (p Q : Nat) (hn : num q = Q * 2 ^ (p + 1)) (hl : p / 8 < q.length) :
    (nd q (p / 8) ||| 2 ^ (p % 8)) < 256 ∧ num (q.set (p / 8) (nd q (p / 8) ||| 2 ^ (p % 8))) = (2 * Q + 1) * 2 ^ p := by
  have h1 : nd q (p / 8) = Q * 2 ^ (p % 8 + 1) % 256 := by
    rw [nd_num q hq, hn]
    have e : Q * 2 ^ (p + 1) = 256 ^ (p / 8) * (Q * 2 ^ (p % 8 + 1)) := by
      rw [Nat.mul_left_comm, show (256 : Nat) = 2 ^ 8 from rfl, ← Nat.pow_mul, ← Nat.pow_add]
      congr 2
      omega
    rw [e, Nat.mul_div_cancel_left _ (Nat.pow_pos (by omega))]
  have h2 : ∃ z, nd q (p / 8) = 2 ^ (p % 8 + 1) * z := by
    rw [h1]
    refine ⟨(Q * 2 ^ (p % 8 + 1) % 256) / 2 ^ (p % 8 + 1), ?_⟩
    have hc : p % 8 = 0 ∨ p % 8 = 1 ∨ p % 8 = 2 ∨ p % 8 = 3 ∨ p % 8 = 4 ∨ p % 8 = 5 ∨ p % 8 = 6 ∨ p % 8 = 7 := by omega
    rcases hc with h | h | h | h | h | h | h | h <;> rw [h] <;> omega
  obtain ⟨z, hz⟩ := h2
  have h3 : nd q (p / 8) ||| 2 ^ (p % 8) = nd q (p / 8) + 2 ^ (p % 8) := by
    rw [hz, ← Nat.two_pow_add_eq_or_of_lt (by rw [Nat.pow_succ]; have : 0 < 2 ^ (p % 8) := Nat.pow_pos (by omega)
                                              omega)]
  have h4 := nd_dig hq (p / 8)
  have h5 : nd q (p / 8) + 2 ^ (p % 8) < 256 := by
    have hc : p % 8 = 0 ∨ p % 8 = 1 ∨ p % 8 = 2 ∨ p % 8 = 3 ∨ p % 8 = 4 ∨ p % 8 = 5 ∨ p % 8 = 6 ∨ p % 8 = 7 := by omega
    rcases hc with h | h | h | h | h | h | h | h <;> rw [h] at hz ⊢ <;> omega
  rw [h3]
  refine ⟨h5, ?_⟩
  have h6 := num_set q (p / 8) (nd q (p / 8) + 2 ^ (p % 8)) hl
  rw [hn, Nat.mul_add] at h6
  have h7 : 256 ^ (p / 8) * 2 ^ (p % 8) = 2 ^ p := by
    rw [show (256 : Nat) = 2 ^ 8 from rfl, ← Nat.pow_mul, ← Nat.pow_add]; congr 1; omega
  rw [h7] at h6
  rw [Nat.add_mul, Nat.one_mul]
  have h8 : Q * 2 ^ (p + 1) = 2 * Q * 2 ^ p := by rw [Nat.pow_succ, Nat.mul_comm (2 ^ p) 2, ← Nat.mul_assoc, Nat.mul_comm Q 2]
  omega
/-- One bit more of a quotient. -/
theorem quo_bit (A B p : Nat) (hB : 0 < B) : let R := A / 2 ^ (p + 1) % B; let Q := A / 2 ^ (p + 1) / B; let bit := A / 2 ^ p % 2
    (2 * R + bit < B → A / 2 ^ p % B = 2 * R + bit ∧ A / 2 ^ p / B = 2 * Q) ∧ (B ≤ 2 * R + bit → A / 2 ^ p % B = 2 * R + bit - B ∧ A / 2 ^ p / B = 2 * Q + 1) := by
  intro R Q bit
  have h1 : A / 2 ^ (p + 1) = A / 2 ^ p / 2 := by rw [Nat.div_div_eq_div_mul, Nat.pow_succ]
  have h2 : A / 2 ^ p = 2 * (A / 2 ^ (p + 1)) + bit := by rw [h1]; show _ = 2 * (A / 2 ^ p / 2) + A / 2 ^ p % 2; omega
  have h3 : A / 2 ^ (p + 1) = B * Q + R := (Nat.div_add_mod _ _).symm
  have hR : R < B := Nat.mod_lt _ hB
  have hbit : bit ≤ 1 := by show A / 2 ^ p % 2 ≤ 1; omega
  have h4 : A / 2 ^ p = B * (2 * Q) + (2 * R + bit) := by rw [h2, h3, Nat.mul_add, ← Nat.mul_assoc 2 B, Nat.mul_comm 2 B, Nat.mul_assoc]; omega
  constructor
  · intro hlt
    rw [h4]
    exact ⟨by rw [Nat.mul_add_mod]; exact Nat.mod_eq_of_lt hlt, by rw [Nat.mul_add_div hB, Nat.div_eq_of_lt hlt] <;> omega⟩
  · intro hge
    have h5 : A / 2 ^ p = B * (2 * Q + 1) + (2 * R + bit - B) := by rw [h4, Nat.mul_add B (2 * Q) 1]; omega
    have hlt : 2 * R + bit - B < B := by omega
    rw [h5]
    exact ⟨by rw [Nat.mul_add_mod]; exact Nat.mod_eq_of_lt hlt, by rw [Nat.mul_add_div hB, Nat.div_eq_of_lt hlt] <;> omega⟩

/-- What stands in memory when i bits are left. -/
def QuoI (a b lx N g : Nat) (wr : World) (i : Nat) : Prop := ∃ q r, ArrL wr g q ∧ q.length = lx ∧ Dig q ∧ num q = a / 2 ^ i / b * 2 ^ i ∧ ArrL wr (g + 1) r ∧ r.length = N ∧ Dig r ∧ num r = a / 2 ^ i % b

set_option maxRecDepth 100000 in
set_option maxHeartbeats 4000000 in
theorem quo_any (a b : Nat) (va vb : Value) (w : World) (ha : RdN w va a) (hb : RdN w vb b) (la : (dg a).length ≤ 65536) (lb : (dg b).length ≤ 65000) (hb0 : 0 < b) :
    Calls Try.prog 89 #[va, vb] w fun e w' => ∃ v1 v2, e = .returned (.tuple #[v1, v2]) ∧ RdN w' v1 (a / b) ∧ RdN w' v2 (a % b) ∧ Below w.heap.size w w' := by
  have HA := hid ha
  have HB := hid hb
  have DA := hid (dg_dig a)
  have DB := hid (dg_dig b)
  obtain ⟨aa, ca, rfl, hca, hxa⟩ := ha
  obtain ⟨ab, cb, rfl, hcb, -⟩ := hb
  obtain ⟨x, hx⟩ : ∃ x, x = dg a := ⟨_, rfl⟩
  obtain ⟨y, hy⟩ : ∃ y, y = dg b := ⟨_, rfl⟩
  have NX := hid (show num x = a by rw [hx, num_dg])
  have NY := hid (show num y = b by rw [hy, num_dg])
  unfold RdN at HA HB
  rw [← hx] at HA DA la hca hxa ⊢
  rw [← hy] at HB DB lb hcb ⊢
  have HXA := hid hxa
  clear hx hy hxa
  obtain ⟨N, hN⟩ : ∃ N, N = y.length + 1 := ⟨_, rfl⟩
  have eN : (y.length : Int) + 1 = (N : Int) := by omega
  have HN := hid hN
  have hN0 : 0 < N := by omega
  have hNb : N ≤ 65001 := by omega
  have hmk1 := mkNat x.length (by omega)
  have hmk2 := mkNat N (by omega)
  clear hN
  go_enter Try.func89, Try.ntmps89
  go_wp2
  clear hmk1 hmk2
  go_loopw [9] (fun iv wr => ∃ i : Nat, i ≤ 8 * x.length ∧ iv = .int .i64 ((i : Int) - 1) ∧ Hid (QuoI a b x.length N w.heap.size wr i) ∧ Below w.heap.size w wr)
    (fun iv _ => (intOf iv + 1).toNat)
  case atStart =>
    have hz : a / 2 ^ (8 * x.length) = 0 := by
      have := num_lt x DA.out
      rw [NX.out, show (256 : Nat) = 2 ^ 8 from rfl, ← Nat.pow_mul] at this
      exact Nat.div_eq_of_lt this
    refine ⟨8 * x.length, Nat.le_refl _, by first | rfl | go_num, hid ⟨List.replicate x.length 0, List.replicate N 0, (ArrL.new _ _).alloc _, by simp, Dig.rep _, by rw [num_rep, hz]; simp, ?_, by simp, Dig.rep _, by rw [num_rep, hz]; simp⟩, ((Below.refl _ _).alloc (Nat.le_refl _) _).alloc (by simp) _⟩
    have := ArrL.new (w.alloc (.cells (digV (List.replicate x.length 0)).toArray 3)) (List.replicate N 0)
    rw [World.size_alloc] at this
    exact this
  case round =>
    obtain ⟨i, hi, rfl, hs, hb⟩ := hrel
    by_cases hlt : 0 < i
    · obtain ⟨p, rfl⟩ : ∃ p, i = p + 1 := ⟨i - 1, by omega⟩
      have e1 : (((p + 1 : Nat) : Int) - 1) = (p : Int) := by omega
      rw [e1]
      clear e1
      have h8 : p / 8 < x.length := by omega
      obtain ⟨ba, offa, rfl, hbl, hcell⟩ := HXA.out (by intro e; subst e; simp at h8)
      have cx := (hb.cell (p := ⟨ba, offa + p / 8, none⟩) hbl).trans (hcell (p / 8) h8)
      have gX := nd_dig DA.out (p / 8)
      have HS := hid hs.out
      have hbit : bits .and .i64 (((nd x (p / 8) : Nat) : Int) / 2 ^ (p % 8)) 1 = ((a / 2 ^ p % 2 : Nat) : Int) := by
        rw [i64_and1, ← NX.out, ← nd_bit x DA.out p]
        rw [show ((nd x (p / 8) : Nat) : Int) / 2 ^ (p % 8) = ((nd x (p / 8) / 2 ^ (p % 8) : Nat) : Int) by rw [Int.natCast_ediv, Int.natCast_pow]; rfl]
        omega
      obtain ⟨bit, hbt⟩ : ∃ bit, bit = a / 2 ^ p % 2 := ⟨_, rfl⟩
      rw [← hbt] at hbit
      have HBT := hid hbt
      clear hs hcell hbt
      go_wp2
      have hbt := HBT.out
      obtain ⟨q, r, q1, q2, q3, q4, r1, r2, r3, r4⟩ := HS.out
      have hb1 : bit ≤ 1 := by omega
      have hqb := hid (quo_bit a b p hb0)
      rw [← hbt] at hqb
      have hrb : num r < b := by rw [r4]; exact Nat.mod_lt _ hb0
      have hyb : b < 256 ^ y.length := by rw [← NY.out]; exact num_lt y DB.out
      have hfit : 2 * num r + bit < 256 ^ r.length := by
        rw [r2, HN.out, Nat.pow_succ]; omega
      have hdn := hid (db_num r bit r3 hb1 hfit)
      have HQ1 := hid q1
      have HR1 := hid r1
      have HQ := hid (show q.length = x.length ∧ Dig q ∧ num q = a / 2 ^ (p + 1) / b * 2 ^ (p + 1) from ⟨q2, q3, q4⟩)
      have HR := hid (show r.length = N ∧ Dig r ∧ num r = a / 2 ^ (p + 1) % b from ⟨r2, r3, r4⟩)
      have HB1 := hid hb1
      clear HS hbit hbt q1 q2 q3 q4 r1 r2 r3 r4 hrb hyb hfit cx gX hb1
      obtain ⟨wo, hwo⟩ : ∃ wo : World, wo = wr := ⟨_, rfl⟩
      subst hwo
      go_loopw [10, 11] (fun cv kv wr => ∃ k : Nat, k ≤ N ∧ kv = .int .i64 k ∧ cv = .int .i64 ((db r bit k).2 : Nat) ∧ Hid (ArrL wr w.heap.size q) ∧ Hid (ArrL wr (w.heap.size + 1) (db r bit k).1) ∧ Below w.heap.size w wr)
        (fun _ kv _ => N - (intOf kv).toNat)
      case atStart => exact ⟨0, by omega, rfl, rfl, HQ1, HR1, hb⟩
      case round =>
        clear HQ1 HR1 hb
        obtain ⟨k, hk, rfl, rfl, hQ, hR, hb⟩ := hrel
        obtain ⟨s1, s2, s3, s4, -⟩ := db_spec r bit HR.out.2.1 HB1.out k (by rw [HR.out.1]; exact hk)
        rw [HR.out.1] at s1
        by_cases hkn : k < N
        · have HE := hid (show db r bit (k + 1) = ((db r bit k).1.set k (((db r bit k).2 + 2 * nd (db r bit k).1 k) % 256), ((db r bit k).2 + 2 * nd (db r bit k).1 k) / 256) from rfl)
          obtain ⟨R, hRR⟩ : ∃ R, R = (db r bit k).1 := ⟨_, rfl⟩
          obtain ⟨c, hcc⟩ : ∃ c, c = (db r bit k).2 := ⟨_, rfl⟩
          rw [← hRR] at hR s1 s2 HE
          rw [← hcc] at s3 HE ⊢
          have c1 := hR.out.cell k (by omega)
          have f1 := hR.out.free k
          have l1 := hR.out.lt
          have g1 := nd_dig s2 k
          clear hRR hcc s1 s2 s4
          have q1 : ((c : Int) + 2 * ((nd R k : Nat) : Int)) % 256 = (((c + 2 * nd R k) % 256 : Nat) : Int) := by omega
          have q2 : ((c : Int) + 2 * ((nd R k : Nat) : Int)) / 256 = (((c + 2 * nd R k) / 256 : Nat) : Int) := by omega
          have Q1 := hid q1
          have Q2 := hid q2
          clear q1 q2
          go_wp2
          go_roundw
          case rel =>
            rw [i64_and255, Q1.out, Q2.out]
            refine ⟨k + 1, by omega, by go_num, by rw [HE.out], hid (hQ.out.other (by show w.heap.size ≠ w.heap.size + 1; omega) _), hid ?_, hb.setCell (p := ⟨w.heap.size + 1, k, none⟩) (by show w.heap.size ≤ w.heap.size + 1; omega) _⟩
            rw [HE.out]
            exact hR.out.set _ _
          case measure => simp [intOf]; omega
        · obtain rfl : k = N := by omega
          obtain ⟨d1, d2, d3⟩ := hdn.out
          rw [HR.out.1] at d1 d2 d3
          obtain ⟨R, hRR⟩ : ∃ R, R = (db r bit k).1 := ⟨_, rfl⟩
          rw [← hRR] at hR d1 d2 d3
          have hrd := hR.out.rd k (by omega)
          rw [d3] at hrd
          have hcm := hid (fun va (h : va = Value.slice (some ⟨w.heap.size + 1, 0, none⟩) k k) => cmp_any R y va _ wr (by rw [h]; exact hrd) (HB.out.below hb) d2 DB.out (by omega) (by omega))
          rw [NY.out, d1] at hcm
          have D := hid (show num R = 2 * num r + bit ∧ Dig R ∧ R.length = k from ⟨d1, d2, d3⟩)
          clear hkn hk hRR d1 d2 d3 s1 s2 s3 s4 hrd hdn
          by_cases hlt2 : 2 * num r + bit < b
          · have hneg := hid (cmpI_lt hlt2)
            have hc2 := hid (hcm.out _ rfl)
            rw [hneg.out] at hc2
            have HLT2 := hid hlt2
            clear hlt2 hcm
            go_wp2_with (go_at_call 43; (with_reducible refine hc2.out.mono ?_); rintro e w' ⟨rfl, rfl⟩)
            go_roundw
            case rel =>
              obtain ⟨h1, h2⟩ := hqb.out.1 (by rw [← HR.out.2.2]; exact HLT2.out)
              refine ⟨p, by omega, by go_num, hid ⟨q, R, hQ.out, HQ.out.1, HQ.out.2.1, ?_, hR.out, D.out.2.2, D.out.2.1, ?_⟩, hb⟩
              · rw [HQ.out.2.2, h2, Nat.pow_succ, Nat.mul_comm (2 ^ p) 2, ← Nat.mul_assoc, Nat.mul_comm _ 2]
              · rw [h1, D.out.1, HR.out.2.2]
            case measure => simp [intOf] <;> omega
          · have hc2 := hid (hcm.out _ rfl)
            have hge : b ≤ 2 * num r + bit := by omega
            obtain ⟨cv, hcv⟩ : ∃ cv, cv = cmpI (2 * num r + bit) b := ⟨_, rfl⟩
            have hcv2 : ¬ cv < 0 := by rw [hcv, cmpI_neg]; omega
            rw [← hcv] at hc2
            have hsn := hid (sb_num R y D.out.2.1 DB.out (by rw [D.out.2.2, HN.out]; omega) (by rw [D.out.1, NY.out]; exact hge))
            clear hcm hcv
            go_wp2_with (go_at_call 43; (with_reducible refine hc2.out.mono ?_); rintro e w' ⟨rfl, rfl⟩)
            obtain ⟨wq, hwq⟩ : ∃ wq : World, wq = wr := ⟨_, rfl⟩
            subst hwq
            have HGE := hid hge
            have HCV := hid hcv2
            clear hlt2 hge hcv2 hc2
            go_loopw [10, 12] (fun cv kv wr => ∃ j : Nat, j ≤ k ∧ kv = .int .i64 j ∧ cv = .int .i64 (-((sb R y j).2 : Int)) ∧ Hid (ArrL wr w.heap.size q) ∧ Hid (ArrL wr (w.heap.size + 1) (sb R y j).1) ∧ Below w.heap.size w wr)
              (fun _ kv _ => k - (intOf kv).toNat)
            case atStart => exact ⟨0, by omega, rfl, rfl, hQ, hR, hb⟩
            case round =>
              clear hQ hR hb
              obtain ⟨j, hj, rfl, rfl, hQ, hR, hb⟩ := hrel
              obtain ⟨s1, s2, s3, s4, -⟩ := sb_spec R y D.out.2.1 DB.out j (by rw [D.out.2.2]; exact hj)
              rw [D.out.2.2] at s1
              by_cases hjn : j < k
              · have HE := hid (show sb R y (j + 1) = if nd (sb R y j).1 j < nd y j + (sb R y j).2 then ((sb R y j).1.set j (nd (sb R y j).1 j + 256 - nd y j - (sb R y j).2), 1) else ((sb R y j).1.set j (nd (sb R y j).1 j - nd y j - (sb R y j).2), 0) from rfl)
                obtain ⟨S, hSS⟩ : ∃ S, S = (sb R y j).1 := ⟨_, rfl⟩
                obtain ⟨c, hcc⟩ : ∃ c, c = (sb R y j).2 := ⟨_, rfl⟩
                rw [← hSS] at hR s1 s2 HE
                rw [← hcc] at s3 HE ⊢
                have c1 := hR.out.cell j (by omega)
                have f1 := hR.out.free j
                have l1 := hR.out.lt
                have g1 := nd_dig s2 j
                have g2 := nd_dig DB.out j
                have HAT := hid (at_ext y j _ wr (HB.out.below hb) (by omega) (by omega))
                have hq : ∃ d c' : Nat, sb R y (j + 1) = (S.set j d, c') ∧ (-(c : Int) + ((nd S j : Nat) : Int) - ((nd y j : Nat) : Int)) % 256 = (d : Int) ∧ (-(c : Int) + ((nd S j : Nat) : Int) - ((nd y j : Nat) : Int)) / 256 = -(c' : Int) := by
                  rw [HE.out]
                  by_cases h : nd S j < nd y j + c
                  · rw [if_pos h]
                    exact ⟨_, _, rfl, by omega, by omega⟩
                  · rw [if_neg h]
                    exact ⟨_, _, rfl, by omega, by omega⟩
                have HQ' := hid hq
                clear hSS hcc s1 s2 s4 hq HE
                go_wp2_with (refine wp_region_ext (by kernel_rfl) (by kernel_rfl) ?_; (repeat (go_big_quiet_step (first | (go_at_call 112; with_reducible refine Calls.ext_of (HAT.out _))))); refine wpQuiet_nil ?_; rintro _ ⟨xw, rfl⟩)
                go_roundw
                case rel =>
                  obtain ⟨d, c', z1, z2, z3⟩ := HQ'.out
                  rw [i64_and255, z2, z3]
                  refine ⟨j + 1, by omega, by go_num, by rw [z1], hid ((hQ.out.ext _).other (by show w.heap.size ≠ w.heap.size + 1; omega) _), hid ?_, (World.ext_below_of hb hb.size _).setCell (p := ⟨w.heap.size + 1, j, none⟩) (by show w.heap.size ≤ w.heap.size + 1; omega) _⟩
                  rw [z1]
                  exact (hR.out.ext _).set _ _
                case measure => simp [intOf]; omega
              · obtain rfl : j = k := by omega
                obtain ⟨d1, d2, d3⟩ := hsn.out
                rw [D.out.2.2] at d1 d2 d3
                obtain ⟨S, hSS⟩ : ∃ S, S = (sb R y j).1 := ⟨_, rfl⟩
                rw [← hSS] at hR d1 d2 d3
                obtain ⟨t1, t2⟩ := q_set q HQ.out.2.1 p (a / 2 ^ (p + 1) / b) HQ.out.2.2 (by rw [HQ.out.1]; exact h8)
                have c1 := hQ.out.cell (p / 8) (by rw [HQ.out.1]; exact h8)
                have f1 := hQ.out.free (p / 8)
                have gQ := nd_dig HQ.out.2.1 (p / 8)
                have hor : bits .or .i64 ((nd q (p / 8) : Nat) : Int) ((2 ^ (p % 8) : Nat) : Int) = ((nd q (p / 8) ||| 2 ^ (p % 8) : Nat) : Int) := by
                  refine i64_or_small _ _ gQ ?_
                  have : 2 ^ (p % 8) ≤ 2 ^ 7 := Nat.pow_le_pow_right (by omega) (by omega)
                  omega
                have hpw : (2 : Int) ^ (p % 8) < 256 := by
                  have h7 : 2 ^ (p % 8) ≤ 2 ^ 7 := Nat.pow_le_pow_right (by omega : 0 < 2) (by omega : p % 8 ≤ 7)
                  have h9 : ((2 ^ (p % 8) : Nat) : Int) ≤ ((2 ^ 7 : Nat) : Int) := by exact_mod_cast h7
                  rw [Int.natCast_pow, Int.natCast_pow] at h9
                  exact Int.lt_of_le_of_lt h9 (by decide)
                have hpw0 : (0 : Int) ≤ (2 : Int) ^ (p % 8) := by
                  have : (0 : Int) ≤ ((2 ^ (p % 8) : Nat) : Int) := Int.natCast_nonneg _
                  rw [Int.natCast_pow] at this; exact this
                rw [Int.natCast_pow, show ((2 : Nat) : Int) = 2 from rfl] at hor
                have HOR := hid hor
                have T := hid (show _ ∧ _ from ⟨t1, t2⟩)
                have DD := hid (show num S = num R - num y ∧ Dig S ∧ S.length = j from ⟨d1, d2, d3⟩)
                clear hjn hj hSS d1 d2 d3 s1 s2 s3 s4 hsn hor t1 t2
                go_wp2
                go_roundw
                case rel =>
                  rw [HOR.out]
                  obtain ⟨h1, h2⟩ := hqb.out.2 (by rw [← HR.out.2.2]; exact HGE.out)
                  refine ⟨p, by omega, by go_num, hid ⟨_, S, hQ.out.set _ _, by rw [List.length_set]; exact HQ.out.1, HQ.out.2.1.set _ _ T.out.1, ?_, hR.out.other (by show w.heap.size + 1 ≠ w.heap.size; omega) _, DD.out.2.2, DD.out.2.1, ?_⟩, hb.setCell (p := ⟨w.heap.size, p / 8, none⟩) (Nat.le_refl _) _⟩
                  · rw [T.out.2, h2]
                  · rw [h1, DD.out.1, D.out.1, NY.out, HR.out.2.2]
                case measure => simp [intOf] <;> omega
    · obtain rfl : i = 0 := by omega
      obtain ⟨q, r, q1, q2, q3, q4, r1, r2, r3, r4⟩ := hs.out
      rw [Nat.pow_zero, Nat.div_one, Nat.mul_one] at q4
      rw [Nat.pow_zero, Nat.div_one] at r4
      have hq := q1.rd x.length (by omega)
      rw [q2] at hq
      have hr := r1.rd N (by omega)
      rw [r2] at hr
      have T1 := hid (trim_any q _ wr hq q3 (by omega))
      have HRR := hid hr
      have T2 := hid (fun w' (h : RdL w' (.slice (some ⟨w.heap.size + 1, 0, none⟩) N N) r) => trim_any r _ w' h r3 (by omega))
      rw [q4] at T1
      rw [r4] at T2
      clear hs q1 q2 q3 q4 r1 r2 r3 r4 hq hr
      go_wp2_with fail
      refine T1.out.mono ?_
      rintro e w1 ⟨v1, rfl, hv1, hb1⟩
      have hr1 := HRR.out.below hb1
      go_wp2_with fail
      refine (T2.out w1 hr1).mono ?_
      rintro e w2 ⟨v2, rfl, hv2, hb2⟩
      go_wp2
      go_ret2
      exact ⟨_, _, rfl, RdL.below hv1 hb2, hv2, hb.trans ((hb1.trans (hb2.mono hb1.size)).mono hb.size)⟩
end Go.Proofs.Ytfidbiabgmioaaa
