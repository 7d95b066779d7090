import Derived.Test.YtmlaenfgfgloeaaShaB
/-! sha.(*Hasher).Write. -/
set_option maxRecDepth 4000
set_option linter.unusedVariables false
set_option linter.unusedSimpArgs false
namespace Go.Proofs.Ytmlaenfgfgloeaa
open Go.RowKit

/-- The slice v has the bytes ys, in another block than hb. -/
def RdX (hb : Nat) (w : World) (v : Value) (ys : List (BitVec 8)) : Prop :=
  ∃ a cap, v = .slice a ys.length cap ∧ ys.length ≤ cap ∧ (ys ≠ [] → ∃ b off, a = some ⟨b, off, none⟩ ∧ b ≠ hb ∧ b < w.heap.size ∧ ∀ j, j < ys.length → w.cell? ⟨b, off + j, none⟩ = some (.int .u8 (yv (ny ys j))))
theorem RdX.of {hb : Nat} {w : World} {v : Value} {ys : List (BitVec 8)} (h : RdY w v ys) (hd : ∀ b off n c, v = .slice (some ⟨b, off, none⟩) n c → 0 < n → b ≠ hb) : RdX hb w v ys := by
  obtain ⟨a, cap, rfl, hc, h⟩ := h
  refine ⟨a, cap, rfl, hc, fun hx => ?_⟩
  obtain ⟨b, off, rfl, h2, h3⟩ := h hx
  exact ⟨b, off, rfl, hd _ _ _ _ rfl (by cases ys <;> simp_all), h2, h3⟩
theorem RdX.below {hb : Nat} {w w' : World} {v : Value} {ys : List (BitVec 8)} (h : RdX hb w v ys) (hg : Below w.heap.size w w') : RdX hb w' v ys := by
  obtain ⟨a, cap, rfl, hc, h⟩ := h
  refine ⟨a, cap, rfl, hc, fun hx => ?_⟩
  obtain ⟨b, off, rfl, h1, h2, h3⟩ := h hx
  exact ⟨b, off, rfl, h1, Nat.lt_of_lt_of_le h2 hg.size, fun j hj => by rw [hg.cell (p := ⟨b, off + j, none⟩) h2]; exact h3 j hj⟩
theorem RdX.kept {hb : Nat} {w w' : World} {v : Value} {ys : List (BitVec 8)} (h : RdX hb w v ys) (hg : w.grownBy w' (some hb)) : RdX hb w' v ys := by
  obtain ⟨a, cap, rfl, hc, h⟩ := h
  refine ⟨a, cap, rfl, hc, fun hx => ?_⟩
  obtain ⟨b, off, rfl, h1, h2, h3⟩ := h hx
  refine ⟨b, off, rfl, h1, Nat.lt_of_lt_of_le h2 hg.size, fun j hj => ?_⟩
  rw [← h3 j hj]
  unfold World.cell?
  rw [hg.block b h2 (by simpa using h1)]
theorem RdX.drop {hb : Nat} {w : World} {a : Option Addr} {g off L cap m : Nat} {ys : List (BitVec 8)} (h : RdX hb w (.slice (some ⟨g, off, none⟩) L cap) ys) (hm : m ≤ L) (ha : m < L → a = some ⟨g, off + m, none⟩) : RdX hb w (.slice a (L - m) (cap - m)) (ys.drop m) := by
  obtain ⟨a', cap', e, hc, h⟩ := h
  simp at e
  obtain ⟨rfl, rfl, rfl⟩ := e
  refine ⟨a, cap - m, by simp, by simp; omega, fun hx => ?_⟩
  have hlt : m < ys.length := by
    rcases Nat.lt_or_ge m ys.length with h' | h'
    · exact h'
    · exact absurd (List.drop_eq_nil_of_le h') hx
  obtain ⟨b, off', e2, h1, h2, h3⟩ := h (by intro e; subst e; simp at hlt)
  simp at e2
  obtain ⟨rfl, rfl⟩ := e2
  refine ⟨g, off + m, ha hlt, h1, h2, fun j hj => ?_⟩
  simp at hj
  rw [Nat.add_assoc, h3 (m + j) (by omega)]
  simp [ny, List.getD_eq_getElem?_getD]
theorem shaC_part (s : List (BitVec 64)) (y z : List (BitVec 8)) (n : Nat) (a : BitVec 64) (r : Nat) (hs : s.length = 8) (hy : y.length = 128) (hr : r + z.length ≤ 128) :
    setPart (shaC s y n a) (8 + r) (z.map fun x => Value.int .u8 (yv x)).toArray = shaC s (y.take r ++ z ++ y.drop (r + z.length)) n a := by
  unfold setPart shaC cellsB cellsY
  apply Array.ext'
  simp only [Array.toList_append, List.map_append, List.map_take, List.map_drop, List.size_toArray, List.length_map]
  generalize hA : s.map (fun x => Value.int .u64 (iv x)) = A
  generalize hB : y.map (fun x => Value.int .u8 (yv x)) = B
  generalize hZ : z.map (fun x => Value.int .u8 (yv x)) = Z
  have lA : A.length = 8 := by rw [← hA]; simpa using hs
  have lB : B.length = 128 := by rw [← hB]; simpa using hy
  have lZ : Z.length = z.length := by rw [← hZ]; simp
  rw [← lZ] at hr ⊢
  rw [List.take_append_of_le_length (by simp; omega), show List.take (8 + r) (A ++ B) = A ++ List.take r B from by rw [← lA, List.take_length_add_append],
    List.drop_append_of_le_length (by simp; omega), show List.drop (8 + r + Z.length) (A ++ B) = List.drop (r + Z.length) B from by rw [Nat.add_assoc, ← lA, List.drop_length_add_append]]
  simp
/-- What the hasher has taken in when it stands at p: of s and the text T. -/
def stS (s : List (BitVec 64)) (T : List (BitVec 8)) (p : Nat) : List (BitVec 64) := absS s T (p / 128)
def AtS (w : World) (hb : Nat) (s : List (BitVec 64)) (T : List (BitVec 8)) (p : Nat) (a : BitVec 64) : Prop :=
  ∃ y, y.length = 128 ∧ HasS w hb (stS s T p) y (p % 128) a ∧ y.take (p % 128) = (T.drop (128 * (p / 128))).take (p % 128)
theorem stS_len (s : List (BitVec 64)) (T : List (BitVec 8)) (p : Nat) : (stS s T p).length = s.length := absS_len _ _ _
/-- m bytes more. -/
theorem buf_more (y T : List (BitVec 8)) (p m : Nat) (hy : y.length = 128) (hm : p % 128 + m ≤ 128) (hT : p + m ≤ T.length) (h : y.take (p % 128) = (T.drop (128 * (p / 128))).take (p % 128)) :
    (y.take (p % 128) ++ (T.drop p).take m ++ y.drop (p % 128 + m)).take (p % 128 + m) = (T.drop (128 * (p / 128))).take (p % 128 + m) := by
  have hp : 128 * (p / 128) + p % 128 = p := Nat.div_add_mod p 128
  have e1 : (y.take (p % 128) ++ (T.drop p).take m).length = p % 128 + m := by simp; omega
  rw [List.take_left' e1, h, List.take_add, List.drop_drop, hp]

theorem sY1 : (Try.prog.info? 5).map (·.size) = some 1 := by kernel_rfl
theorem uSY2 : Try.prog.underlying 27 = some (.slice 5) := by kernel_rfl
theorem slRest (hb r : Nat) (hr : r < 128) (w : World) : (Instr.sliceAt 78 (.pointer (some ⟨hb, 8, none⟩)) (some (.int .i64 (r : Int))) none none).run Try.prog w = .ok (.slice (some ⟨hb, 8 + r, none⟩) (128 - r) (128 - r)) w := by
  have hl : Try.prog.arrayLen 78 = 128 := by kernel_rfl
  have he : Try.prog.elem 78 = 5 := by kernel_rfl
  have hu : Try.prog.underlying 78 = some (.array (Try.prog.arrayLen 78) (Try.prog.elem 78)) := by kernel_rfl
  obtain ⟨i, hi⟩ : ∃ i, Try.prog.info? 5 = some i := ⟨_, rfl⟩
  have hs : Try.prog.cellsOf 5 = 1 := by kernel_rfl
  rw [run_sliceAt_array_l w _ _ hu .i64 (r : Int) (by omega) (by rw [hl]; omega), hl, he, run_sizeOf w hi, hs]
  have : ¬ 128 = r := by omega
  simp [slicedAt, this, Addr.add]

set_option maxRecDepth 20000 in
set_option maxHeartbeats 1000000 in
theorem swrite_any (hb : Nat) (s : List (BitVec 64)) (T : List (BitVec 8)) (p : Nat) (a : BitVec 64) (v : Value) (w : World) (hs : s.length = 8) (hp : p ≤ T.length) (hH : AtS w hb s T p a) (hr : RdX hb w v (T.drop p)) (hl : T.length ≤ 140737488355328) :
    Calls Try.prog 25 #[.pointer (some ⟨hb, 0, none⟩), v] w fun e w' => e = .returned (.tuple #[]) ∧ AtS w' hb s T T.length (a + BitVec.ofNat 64 (T.length - p)) ∧ w.grownBy w' (some hb) := by
  obtain ⟨y, hy, hH, hyt⟩ := hH
  have HS := hid hs
  have HY := hid hy
  have HYT := hid hyt
  have HH := hid hH
  have HR := hid hr
  have hbl := hH.lt
  have ls : (stS s T p).length = 8 := (stS_len s T p).trans hs
  have c1 := hH.cellA ls hy
  have f1 := hH.free 137
  have HLS := hid ls
  obtain ⟨va, vc, rfl, hvc, -⟩ := hr
  have hdl : (T.drop p).length = T.length - p := by simp
  rw [hdl] at hvc HR ⊢
  clear hH hy hyt hs ls hdl
  go_enter Try.func25, Try.ntmps25
  go_wp2_with fail
  have hA : Hid (a + BitVec.ofNat 64 (T.length - p) = a + BitVec.ofNat 64 (T.length - p)) := hid rfl
  have hea : IntKind.u64.wrap (iv a + ((T.length - p : Nat) : Int)) = iv (a + BitVec.ofNat 64 (T.length - p)) := by
    rw [← iv_add, iv_ofNat _ (by omega)]
  rw [hea]
  obtain ⟨a2, ha2⟩ : ∃ x, x = a + BitVec.ofNat 64 (T.length - p) := ⟨_, rfl⟩
  rw [← ha2]
  have HA2 := hid ha2
  clear hA hea
  have hat : AtS (w.setCell ⟨hb, 137, none⟩ (.int .u64 (iv a2))) hb s T p a2 := ⟨y, HY.out, HasS.put HH.out 137 _ (shaC_setA _ _ _ _ _ HLS.out HY.out), HYT.out⟩
  have hg : w.grownBy (w.setCell ⟨hb, 137, none⟩ (.int .u64 (iv a2))) (some hb) := grownBy_setCell (grownBy_refl _ _) (.inl rfl) _
  have hrd := HR.out.kept hg
  have HAT := hid hat
  have HRD := hid hrd
  generalize w.setCell ⟨hb, 137, none⟩ (.int .u64 (iv a2)) = w1 at HAT HRD hg ⊢
  clear hat hrd HR HYT HH HLS HY c1 f1 ha2 y
  go_loopw [1] (fun vv wr => ∃ q : Nat, p ≤ q ∧ q ≤ T.length ∧ Hid (AtS wr hb s T q a2) ∧ Hid (RdX hb wr vv (T.drop q)) ∧ w.grownBy wr (some hb))
    (fun vv _ => match vv with | .slice _ n _ => n | _ => 0)
  case atStart => exact ⟨p, Nat.le_refl _, hp, HAT, HRD, hg⟩
  case round =>
    clear HAT HRD hg hvc
    obtain ⟨q, hpq, hq, hAt, hRd, hg⟩ := hrel
    have HR2 := hid hRd.out
    obtain ⟨ra, rc, rfl, hrc, hrx⟩ := hRd.out
    have hdl : (T.drop q).length = T.length - q := by simp
    rw [hdl] at hrc HR2 hrx ⊢
    have HX := hid hrx
    clear hdl hrx hRd
    by_cases hlt : q < T.length
    · obtain ⟨g, off, rfl, hgb, hgl, hcell⟩ := HX.out (by intro e; have := congrArg List.length e; simp at this; omega)
      have HCELL := hid hcell
      obtain ⟨y, hy, hH, hyt⟩ := hAt.out
      have ls := hid ((stS_len s T q).trans HS.out)
      have HH := hid hH
      have HY := hid hy
      have HYT := hid hyt
      have hbl2 := hH.lt
      have c1 := hH.cellN ls.out hy
      have f1 := hH.free
      have hr0 : q % 128 < 128 := Nat.mod_lt _ (by omega)
      obtain ⟨r, hr⟩ : ∃ r, r = q % 128 := ⟨_, rfl⟩
      rw [← hr] at c1 hr0 HH HYT
      have HRR := hid hr
      clear hcell hAt hy hH hyt hr HX
      go_wp2_with fail
      have hsl := slRest hb r hr0
      (refine wp_region_ext_tail 9 (by kernel_rfl) (by kernel_rfl) ?_; simp only [List.take_succ_cons, List.take_zero, List.drop_succ_cons, List.drop_zero]; (repeat (go_big_quiet_step (first | fail))); refine wpQuiet_nil ?_; rintro _ ⟨xw, rfl⟩)
      have hX : HasS (wr.ext xw) hb (stS s T q) y r a2 := HH.out.below (wr.ext_below xw) hbl2
      obtain ⟨m, hm⟩ : ∃ m, m = Nat.min (T.length - q) (128 - r) := ⟨_, rfl⟩
      have hm1 : m ≤ T.length - q := by rw [hm]; exact Nat.min_le_left _ _
      have hm2 : m ≤ 128 - r := by rw [hm]; exact Nat.min_le_right _ _
      have hm3 : m = T.length - q ∨ m = 128 - r := by
        rw [hm]; rcases Nat.le_total (T.length - q) (128 - r) with h | h
        · exact .inl (Nat.min_eq_left h)
        · exact .inr (Nat.min_eq_right h)
      have hzl : ((T.drop q).take m).length = m := by simp; omega
      have hcl : (((T.drop q).take m).map fun x => Value.int .u8 (yv x)).length = m := by rw [List.length_map, hzl]
      refine wpList_copy_row rfl (.tmp 27) (.tmp 28) 27 27 rfl 5 hb (8 + r) (128 - r) (128 - r) rfl ⟨g, off, none⟩ (T.length - q) rc rfl _ _ (((T.drop q).take m).map fun x => Value.int .u8 (yv x)) uSY2 sY1 hX (by rw [hcl, hm]) ?_ (by rw [hcl, shaC_size _ _ _ _ ls.out HY.out]; omega) ?_ ?_
      · intro j u hu
        have hj : j < m := by
          rcases Nat.lt_or_ge j m with h | h
          · exact h
          · rw [List.getElem?_eq_none (by rw [hcl]; exact h)] at hu; cases hu
        have h1 := HCELL.out j (by omega)
        have h2 : (wr.ext xw).cell? ⟨g, off + j, none⟩ = wr.cell? ⟨g, off + j, none⟩ := wr.cell?_ext xw g _ hgl
        rw [show (⟨g, off, none⟩ : Addr).add j = ⟨g, off + j, none⟩ from by unfold Addr.add; split <;> simp_all, h2, h1, ← hu]
        simp [ny, hj, List.getElem?_take, List.getD_eq_getElem?_getD, show q + j < T.length by omega]
      · intro u hu
        obtain ⟨x, _, rfl⟩ := List.mem_map.1 hu
        rfl
      rw [hcl, shaC_part _ _ _ _ _ _ ls.out HY.out (by rw [hzl]; omega), hzl]
      have hY2 : (y.take r ++ (T.drop q).take m ++ y.drop (r + m)).length = 128 := by
        have := HY.out
        simp; omega
      have hT2 : (y.take r ++ (T.drop q).take m ++ y.drop (r + m)).take (r + m) = (T.drop (128 * (q / 128))).take (r + m) := by
        have h7 := HYT.out
        rw [HRR.out] at h7 hm2 ⊢
        exact buf_more y T q m HY.out (by omega) (by omega) h7
      have hX2 : HasS ((wr.ext xw).setRow hb (shaC (stS s T q) (y.take r ++ (T.drop q).take m ++ y.drop (r + m)) r a2)) hb (stS s T q) (y.take r ++ (T.drop q).take m ++ y.drop (r + m)) r a2 := heap_setRow _ _ _ _ _ hX
      have hg2 : w.grownBy ((wr.ext xw).setRow hb (shaC (stS s T q) (y.take r ++ (T.drop q).take m ++ y.drop (r + m)) r a2)) (some hb) := grownBy_setRow (grownBy_ext hg xw) (.inl rfl) _
      have hgR : wr.grownBy ((wr.ext xw).setRow hb (shaC (stS s T q) (y.take r ++ (T.drop q).take m ++ y.drop (r + m)) r a2)) (some hb) := grownBy_setRow (grownBy_ext (grownBy_refl _ _) xw) (.inl rfl) _
      have hR3 := HR2.out.kept hgR
      generalize (wr.ext xw).setRow hb (shaC (stS s T q) (y.take r ++ (T.drop q).take m ++ y.drop (r + m)) r a2) = w3 at hX2 hg2 hR3 ⊢
      obtain ⟨y2, hy2⟩ : ∃ y2, y2 = y.take r ++ (T.drop q).take m ++ y.drop (r + m) := ⟨_, rfl⟩
      rw [← hy2] at hX2 hY2 hT2
      clear hy2 hX hgR hcl hzl hg HR2 HCELL hsl c1 f1
      have HX2 := hid hX2
      have HY2 := hid hY2
      have HT2 := hid hT2
      have HR3 := hid hR3
      have c1 := hX2.cellN ls.out hY2
      have f1 := hX2.free
      have l1 := hX2.lt
      clear hX2 hY2 hT2 hR3 hm hgb hgl
      simp only [goInt]
      have hqm : (T.drop q).drop m = T.drop (q + m) := List.drop_drop ..
      have HQM := hid hqm
      clear hqm
      by_cases hcm : rc = m
      all_goals
        have hdr : ∀ W, RdX hb W (.slice (some ⟨g, off, none⟩) (T.length - q) rc) (T.drop q) → RdX hb W (.slice (some ⟨g, if rc = m then off else off + m, none⟩) (T.length - q - m) (if rc = m then 0 else rc - m)) (T.drop (q + m)) := fun W h => by
          rw [← HQM.out, show (if rc = m then 0 else rc - m) = rc - m from by split <;> omega]; exact h.drop hm1 (fun h => by rw [if_neg (by omega)])
        first | simp only [if_pos hcm] at hdr | simp only [if_neg hcm] at hdr
        have HDR := hid hdr
        clear hdr
        by_cases hfull : r + m = 128
        · have hv : ((r : Int) + (m : Int)) = ((128 : Nat) : Int) := by omega
          have hB : HasS (w3.setCell ⟨hb, 136, none⟩ (.int .i64 ((r : Int) + (m : Int)))) hb (stS s T q) y2 128 a2 := HasS.put HX2.out 136 _ (by rw [hv]; exact shaC_setN _ _ _ _ _ ls.out HY2.out)
          have hgB := hid (grownBy_setCell (grownBy_refl w3 (some hb)) (p := ⟨hb, 136, none⟩) (.inl rfl) (.int .i64 ((r : Int) + (m : Int))))
          have HB := hid hB
          have HV := hid hv
          clear hv hB
          go_wp2_with (go_at_call 47; (with_reducible refine (block_any _ _ _ _ _ _ ls.out HY2.out HB.out).mono ?_); rintro e w4 ⟨rfl, hH4, hg4⟩)
          have hgw := grownBy_trans hgB.out hg4
          have hq1 : (q + m) / 128 = q / 128 + 1 := by have := HRR.out; omega
          have hq2 : (q + m) % 128 = 0 := by have := HRR.out; omega
          have hch : y2 = chunkS T (q / 128) := by
            have h8 := HT2.out
            rw [hfull, List.take_of_length_le (by rw [HY2.out]; exact Nat.le_refl _)] at h8
            exact h8
          have hst : stS s T (q + m) = blockL (stS s T q) y2 := by unfold stS; rw [hq1, hch]; rfl
          go_roundw
          case rel =>
            refine ⟨q + m, by omega, by omega, hid ⟨y2, HY2.out, ?_, ?_⟩, hid (HDR.out _ (HR3.out.kept hgw)), grownBy_trans hg2 hgw⟩
            · rw [hst, hq2]; exact hH4
            · rw [hq2]; simp
          case measure => simp; omega
        · have hv : ((r : Int) + (m : Int)) = ((r + m : Nat) : Int) := by omega
          have hB : HasS (w3.setCell ⟨hb, 136, none⟩ (.int .i64 ((r : Int) + (m : Int)))) hb (stS s T q) y2 (r + m) a2 := HasS.put HX2.out 136 _ (by rw [hv]; exact shaC_setN _ _ _ _ _ ls.out HY2.out)
          have hgB := grownBy_setCell (grownBy_refl w3 (some hb)) (p := ⟨hb, 136, none⟩) (.inl rfl) (.int .i64 ((r : Int) + (m : Int)))
          have HB := hid hB
          have HGB := hid hgB
          have hne : ¬ ((r : Int) + (m : Int) = 128) := by omega
          clear hB hv hgB
          go_wp2
          have hq1 : (q + m) / 128 = q / 128 := by have := HRR.out; omega
          have hq2 : (q + m) % 128 = r + m := by have := HRR.out; omega
          have hst : stS s T (q + m) = stS s T q := by unfold stS; rw [hq1]
          go_roundw
          case rel =>
            refine ⟨q + m, by omega, by omega, hid ⟨y2, HY2.out, ?_, ?_⟩, hid (HDR.out _ (HR3.out.kept HGB.out)), grownBy_trans hg2 HGB.out⟩
            · rw [hst, hq2]; exact HB.out
            · rw [hq2, hq1]; exact HT2.out
          case measure => simp; omega
    · obtain rfl : q = T.length := by omega
      have e0 : T.length - T.length = 0 := by omega
      rw [e0] at *
      go_wp2
      go_end0
      exact ⟨rfl, by rw [← HA2.out]; exact hAt.out, hg⟩
end Go.Proofs.Ytmlaenfgfgloeaa
