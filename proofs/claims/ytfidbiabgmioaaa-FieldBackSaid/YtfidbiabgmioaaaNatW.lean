import Derived.Test.YtfidbiabgmioaaaNat
import Derived.Test.YtfidbiabgmioaaaApp
import Derived.Laws.OwnMore
import Derived.Maps.AppendAt
import Derived.Deep.AppendLies
/-! conclaveref01: Trim, at, Cmp, Plus, Less. -/
set_option maxRecDepth 4000
set_option linter.unusedVariables false
set_option linter.unusedSimpArgs false
namespace Go.Proofs.Ytfidbiabgmioaaa
open Go.RowKit

/-- One digit: closed to the walk's simp. -/
def nd (l : List Nat) (i : Nat) : Nat := l.getD i 0
theorem nd_dig {l : List Nat} (h : Dig l) (i : Nat) : nd l i < 256 := h.getD i
theorem nd_out {l : List Nat} {i : Nat} (h : l.length ≤ i) : nd l i = 0 := by
  unfold nd; rw [List.getD_eq_getElem?_getD, List.getElem?_eq_none h]; rfl
def digV (l : List Nat) : List Value := l.map fun d : Nat => Value.int .i64 (d : Int)
theorem digV_len (l : List Nat) : (digV l).length = l.length := by simp [digV]
/-- The slice v has, in w, the digits l. -/
def RdL (w : World) (v : Value) (l : List Nat) : Prop :=
  ∃ a cap, v = .slice a l.length cap ∧ l.length ≤ cap ∧ (l ≠ [] → ∃ b off, a = some ⟨b, off, none⟩ ∧ b < w.heap.size ∧ ∀ j, j < l.length → w.cell? ⟨b, off + j, none⟩ = some (.int .i64 ((nd l j : Nat) : Int)))
theorem RdL.below {w w' : World} {v : Value} {l : List Nat} (h : RdL w v l) (hb : Below w.heap.size w w') : RdL w' v l := by
  obtain ⟨a, cap, e, hc, h⟩ := h
  refine ⟨a, cap, e, hc, fun hx => ?_⟩
  obtain ⟨b, off, e2, h2, h3⟩ := h hx
  exact ⟨b, off, e2, Nat.lt_of_lt_of_le h2 hb.size, fun j hj => by rw [hb.cell (p := ⟨b, off + j, none⟩) h2]; exact h3 j hj⟩
theorem RdL.ext {w : World} {v : Value} {l : List Nat} (h : RdL w v l) (x : World) : RdL (w.ext x) v l := h.below (w.ext_below x)
theorem RdL.toV {w : World} {v : Value} {l : List Nat} (h : RdL w v l) : RdV w v l.length 1 (digV l) := by
  obtain ⟨a, cap, e, hc, h⟩ := h
  refine ⟨by simp [digV], ?_, a, cap, e, fun hpos => ?_⟩
  · intro u hu; simp [digV] at hu; obtain ⟨y, _, rfl⟩ := hu; rfl
  · obtain ⟨b, off, rfl, _, h3⟩ := h (by intro e'; rw [e'] at hpos; simp at hpos)
    refine ⟨_, rfl, fun j u hu => ?_⟩
    have ha : (⟨b, off, none⟩ : Addr).add j = ⟨b, off + j, none⟩ := by unfold Addr.add; split <;> simp_all
    have hj : j < l.length := by
      rcases Nat.lt_or_ge j l.length with h' | h'
      · exact h'
      · rw [List.getElem?_eq_none (by simpa [digV] using h')] at hu; simp at hu
    rw [ha, h3 j hj, ← hu]
    simp [nd, digV, hj]
theorem RdL.owned {w : World} {B : Nat} {e : TypeId} {v : Value} {l : List Nat} (h : w.ownsRow B e 1 v l.length (digV l)) : RdL w v l := by
  obtain ⟨h1, h2⟩ := h
  rcases h2 with ⟨rfl, h0⟩ | ⟨g, cap, cur, rfl, hb, hg, hnc, hcm, hcs, htake⟩
  · have : l = [] := by cases l <;> simp_all
    subst this; exact ⟨none, 0, rfl, Nat.le_refl _, fun h => absurd rfl h⟩
  · refine ⟨_, cap, rfl, hnc, fun _ => ⟨g, 0, rfl, (Array.getElem?_eq_some_iff.1 hg).1, fun j hj => ?_⟩⟩
    have := cell_of_row w g j cur e (0, 0) hg
    have h4 : cur.toList[j]? = (digV l)[j]? := by rw [← htake, List.getElem?_take, if_pos (by omega)]
    rw [Nat.zero_add, this, ← Array.getElem?_toList, h4]
    simp [nd, digV, hj]
/-- The slice v has the number n. -/
def RdN (w : World) (v : Value) (n : Nat) : Prop := RdL w v (dg n)
theorem RdN.below {w w' : World} {v : Value} {n : Nat} (h : RdN w v n) (hb : Below w.heap.size w w') : RdN w' v n := RdL.below h hb
theorem RdN.ext {w : World} {v : Value} {n : Nat} (h : RdN w v n) (x : World) : RdN (w.ext x) v n := RdL.ext h x
theorem infoI : (Try.prog.info? 3).map (fun i => (i.zero, i.size, i.bytes)) = some (some (.int .i64 0), 1, 8) := by kernel_rfl
theorem uNat : Try.prog.underlying 42 = some (.slice 3) := by kernel_rfl

theorem RdL.cut {w : World} {a : Option Addr} {L cap : Nat} {l : List Nat} (h : RdL w (.slice a L cap) l) (k : Nat) (hk : k ≤ L) : RdL w (.slice a k cap) (l.take k) := by
  obtain ⟨a', cap', e, hc, h⟩ := h
  simp at e
  obtain ⟨rfl, rfl, rfl⟩ := e
  have hl : (l.take k).length = k := by rw [List.length_take]; omega
  refine ⟨a, cap, by rw [hl], by rw [hl]; omega, fun hx => ?_⟩
  obtain ⟨b, off, e2, h2, h3⟩ := h (by intro e; subst e; simp at hx)
  refine ⟨b, off, e2, h2, fun j hj => ?_⟩
  rw [hl] at hj
  rw [h3 j (by omega)]
  simp [nd, List.getD_eq_getElem?_getD, List.getElem?_take, hj]
theorem at_any (l : List Nat) (i : Nat) (v : Value) (w : World) (hr : RdL w v l) (hl : l.length ≤ 1048576) (hi : i ≤ 1048576) :
    Calls Try.prog 112 #[v, .int .i64 i] w fun e w' => e = .returned (.int .i64 ((nd l i : Nat) : Int)) ∧ w = w' := by
  obtain ⟨a, cap, rfl, hc, hr⟩ := hr
  by_cases hlt : i < l.length
  · obtain ⟨b, off, rfl, hb, hcell⟩ := hr (by intro e; subst e; simp at hlt)
    have c := hcell i hlt
    clear hr hcell
    go_enter Try.func112, Try.ntmps112
    go_wp2
    go_ret
    exact ⟨rfl, rfl⟩
  · have h0 := nd_out (l := l) (i := i) (by omega)
    rw [h0]
    have h1 : ¬ ((i : Int) < (l.length : Int)) := by omega
    clear hr h0
    go_enter Try.func112, Try.ntmps112
    go_wp2
    go_ret
    exact ⟨rfl, rfl⟩

set_option maxRecDepth 10000 in
set_option maxHeartbeats 1000000 in
theorem trim_any (l : List Nat) (v : Value) (w : World) (hr : RdL w v l) (hD : Dig l) (hl : l.length ≤ 1048576) :
    Calls Try.prog 113 #[v] w fun e w' => ∃ v', e = .returned v' ∧ RdN w' v' (num l) ∧ Below w.heap.size w w' := by
  obtain ⟨i0, hi0, hz0, hz1, hz2⟩ := info_parts infoI
  have HR := hid hr
  obtain ⟨a, cap, rfl, hc, hr⟩ := hr
  have HX := hid hr
  have HD := hid hD
  clear hr hD
  go_enter Try.func113, Try.ntmps113
  go_wp2
  go_loopw [3] (fun kv wr => ∃ k : Nat, k ≤ l.length ∧ kv = .int .i64 k ∧ Hid (∀ j, k ≤ j → j < l.length → l.getD j 0 = 0) ∧ Below w.heap.size w wr)
    (fun kv _ => (intOf kv).toNat)
  case atStart => exact ⟨l.length, Nat.le_refl _, rfl, hid (fun j h1 h2 => by omega), Below.refl _ _⟩
  case round =>
    obtain ⟨k, hk, rfl, hz, hb⟩ := hrel
    by_cases hgo : 0 < k ∧ nd l (k - 1) = 0
    · obtain ⟨hk2, hd⟩ := hgo
      obtain ⟨b, off, rfl, hbl, hcell⟩ := HX.out (by intro e; subst e; simp at hk; omega)
      have hk1 : ((k : Int) - 1).toNat = k - 1 := by omega
      have c := (hb.cell (p := ⟨b, off + (k - 1), none⟩) hbl).trans (hcell (k - 1) (by omega))
      rw [hd] at c
      have HD1 := hid hd
      have HZ := hid hz.out
      clear hcell hd hz
      go_wp2
      go_roundw
      case rel =>
        refine ⟨k - 1, by omega, by go_num, hid fun j h1 h2 => ?_, hb⟩
        by_cases e : j = k - 1
        · subst e; exact HD1.out
        · exact HZ.out j (by omega) h2
      case measure => simp [intOf]; omega
    · have hst : k = 0 ∨ l.getD (k - 1) 0 ≠ 0 := by
        rcases Nat.eq_zero_or_pos k with h | h
        · exact .inl h
        · exact .inr fun e => hgo ⟨h, e⟩
      have HT := hid (dg_num l k HD.out hk hz.out hst)
      have hcut := hid ((HR.out.below (hb.mono (Nat.le_refl _))).cut k hk)
      have ho1 : (wr.alloc (.cells #[] 3)).ownsRow w.heap.size 3 1 (.slice (some ⟨wr.heap.size, 0, none⟩) 0 0) 0 [] :=
        World.ownsRow_lit (base := w.heap.size) (size := 1) (e := 3) wr #[] 0 hb.size (by simp) (by simp)
      have hbs := hb.size
      have hw1 : Below w.heap.size w (wr.alloc (.cells #[] 3)) := hb.alloc hb.size _
      have htl : (l.take k).length = k := by rw [List.length_take]; omega
      have hkc : k ≤ cap := by omega
      have hRV0 := (RdL.toV (hcut.out.below ((Below.refl wr.heap.size wr).alloc (Nat.le_refl _) (.cells #[] 3))))
      rw [htl] at hRV0
      have hRV := hid hRV0
      have fin : ∀ v2 w2, w2.ownsRow w.heap.size 3 1 v2 k (digV (l.take k)) → (wr.alloc (.cells #[] 3)).grownBy w2 (Value.slice (some ⟨wr.heap.size, 0, none⟩) 0 0).ownBlock → RdN w2 v2 (num l) ∧ Below w.heap.size w w2 := fun v2 w2 ho2 hg2 => by
        refine ⟨?_, hw1.grown hg2 (by simp; omega) (fun k e => by simp [Value.ownBlock] at e; omega)⟩
        unfold RdN
        rw [← HT.out]
        refine RdL.owned (B := w.heap.size) (e := 3) ?_
        rw [htl]
        exact ho2
      have FIN := hid fin
      have hcell := HX.out
      clear hz hgo HD HX htl hcut fin hRV0
      rcases Nat.eq_zero_or_pos k with h0 | h0
      · subst h0
        go_wp2_with (at_builtin; refine wpList_append_any rfl (.tmp 18) (.tmp 21) 42 rfl w.heap.size 3 i0 _ 1 8 uNat hi0 hz0 hz1 hz2 rfl (by decide) _ _ rfl rfl 0 [] ho1 0 (digV (l.take 0)) hRV.out (by unfold maxLen; omega) (by omega) (by simp; omega) ?_)
        intro v2 w2 ho2 hg2 _
        go_wp2
        go_ret
        obtain ⟨f1, f2⟩ := FIN.out v2 w2 ho2 hg2
        exact ⟨_, rfl, f1, f2⟩
      · obtain ⟨b, off, rfl, hbl, hcell⟩ := hcell (by intro e; subst e; simp at hk; omega)
        have hk1 : ((k : Int) - 1).toNat = k - 1 := by omega
        have hk2 : (0 : Int) < k := by omega
        have c := (hb.cell (p := ⟨b, off + (k - 1), none⟩) hbl).trans (hcell (k - 1) (by omega))
        have hd : ¬ nd l (k - 1) = 0 := by
          rcases hst with h | h
          · omega
          · exact h
        clear hcell hst
        go_wp2_with (at_builtin; refine wpList_append_any rfl (.tmp 18) (.tmp 21) 42 rfl w.heap.size 3 i0 _ 1 8 uNat hi0 hz0 hz1 hz2 rfl (by decide) _ _ rfl rfl 0 [] ho1 k (digV (l.take k)) hRV.out (by unfold maxLen; omega) (by omega) (by simp; omega) ?_)
        intro v2 w2 ho2 hg2 _
        go_wp2
        go_ret
        obtain ⟨f1, f2⟩ := FIN.out v2 w2 ho2 hg2
        exact ⟨_, rfl, f1, f2⟩
end Go.Proofs.Ytfidbiabgmioaaa
