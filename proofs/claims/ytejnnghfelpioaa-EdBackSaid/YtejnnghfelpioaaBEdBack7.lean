import Derived.Laws.IdiomStrings
import Derived.Test.YtejnnghfelpioaaBEdBack6
set_option maxRecDepth 4000
set_option linter.unusedVariables false
set_option linter.unusedSimpArgs false
namespace Go.Proofs.Ytejnnghfelpioaa
open Go.RowKit
set_option maxRecDepth 100000 in
set_option maxHeartbeats 4000000 in
theorem seed_any (w : World) : Calls Try.prog 21 #[] w fun e w' => ∃ v', e = .returned v' ∧ RdY w' v' sdL ∧ Below w.heap.size w w' := by
  have hn := Blk.new 5 w (cellsY sdL)
  have hb := below_alloc w (.cells (cellsY sdL) 5)
  have hr := hid (blk_all hn (n := 32) rfl)
  go_enter Try.func21, Try.ntmps21
  go_wp2
  go_ret
  exact ⟨_, rfl, hr.out, hb⟩
set_option maxRecDepth 100000 in
set_option maxHeartbeats 8000000 in
theorem ealive_any (w : World) : Calls Try.prog 6 #[] w fun e w' => e = .returned (.bool true) ∧ Below w.heap.size w w' := by
  have cPb := hid fun (v : Value) (w : World) (h : RdY w v sdL) => public_any sdL v w h
  have cSg := hid fun (v : Value) (w : World) (h : RdY w v sdL) => sign_any sdL [] v (.slice none 0 0) w h (RdY.nil _ _ _) (by decide)
  have hE0 : opE sdL = 0 := by unfold opE; rw [if_pos (by decide +kernel)]
  rw [al_K, hE0] at cPb
  rw [al_s, hE0] at cSg
  have cV := hid fun w => verify_any kyL [] alS (.slice none 0 0) w (by decide +kernel) (by decide +kernel) (RdY.nil _ _ _) (by decide)
  have cF := hid fun (v : Value) (w : World) (h : RdY w v [1]) => verify_any kyL [1] alS v w (by decide +kernel) (by decide +kernel) h (by decide)
  rw [al_true] at cV
  rw [al_false] at cF
  have cB := hid fun w => base_any w
  have cO := hid fun w => on_any baseP w base_lt
  rw [base_on] at cO
  have iKy := hid (iK kyL (by decide +kernel))
  have iS := hid (iSg alS (by decide +kernel))
  have zK1 := hid (show (cellsY zKey).size = (cellsY kyL).size by decide +kernel)
  have zS1 := hid (show (cellsY zSig).size = (cellsY alS).size by decide +kernel)
  unfold key at cPb cV cF
  generalize baseP = pb at cB cO
  unfold pt at cB cO
  go_enter Try.func6, Try.ntmps6
  ((repeat ((fail_if_success (with_reducible refine Go.at_region ?_)); go_step)); refine wp_region_lit ?_)
  (refine wpList_plain rfl fun K hK => ?_; go_simp; refine hK _ _ ?_; clear hK K; (try simp only [Act.put, pvA, pv0, pv1]))
  refine wpList_nil ?_
  ((repeat ((fail_if_success (with_reducible refine Go.at_region ?_)); go_step)); refine wp_region_lit ?_)
  (refine wpList_plain rfl fun K hK => ?_; go_simp; refine (seed_any _).mono ?_; rintro _ w1 ⟨v1, rfl, hr1, hs1⟩; refine hK _ _ ?_; clear hK K; (try simp only [Act.put, pvA, pv0, pv1]))
  (refine wpList_plain rfl fun K hK => ?_; go_simp; refine (cPb.out _ _ hr1).mono ?_; rintro _ w2 ⟨rfl, hs2⟩; refine hK _ _ ?_; clear hK K; (try simp only [Act.put, pvA, pv0, pv1]))
  iterate 3 (refine wpList_plain rfl fun K hK => ?_; go_simp; refine hK _ _ ?_; clear hK K; (try simp only [Act.put, pvA, pv0, pv1]))
  have hs12 := hs1.trans (hs2.mono hs1.size)
  clear hr1 hs1 hs2
  (refine wpList_new 28 (cellsY zKey) rfl rfl zK ?_; intro G1 w3 hle3 hs3 hn3; (try simp only [Act.put, pvA, pv0, pv1]))
  (refine wpList_set _ _ _ rfl rfl rfl _ _ rfl rfl _ _ hn3 iKy.out zK1.out (one_cellsY _) ?_)
  (refine wpList_plain rfl fun K hK => ?_; go_simp; refine hK _ _ ?_; clear hK K; (try simp only [Act.put, pvA, pv0, pv1]))
  refine wpList_nil ?_
  have hG1 : w.heap.size ≤ G1 := by have := hs12.size; omega
  have fb1 := hid (hn3.set (cellsY kyL))
  have hbl4 := below_set (hs12.trans (hs3.mono hs12.size)) G1 hG1 (cellsY kyL)
  generalize w3.setRow G1 (cellsY kyL) = w4' at fb1 hbl4 ⊢
  clear hs12 hs3 hle3 hn3
  ((repeat ((fail_if_success (with_reducible refine Go.at_region ?_)); go_step)); refine wp_region_lit ?_)
  (refine wpList_plain rfl fun K hK => ?_; go_simp; refine (seed_any _).mono ?_; rintro _ w5 ⟨v5, rfl, hr5, hs5⟩; refine hK _ _ ?_; clear hK K; (try simp only [Act.put, pvA, pv0, pv1]))
  (refine wpList_plain rfl fun K hK => ?_; go_simp; refine (cSg.out _ _ hr5).mono ?_; rintro _ w6 ⟨rfl, hs6⟩; refine hK _ _ ?_; clear hK K; (try simp only [Act.put, pvA, pv0, pv1]))
  iterate 3 (refine wpList_plain rfl fun K hK => ?_; go_simp; refine hK _ _ ?_; clear hK K; (try simp only [Act.put, pvA, pv0, pv1]))
  have hs56 := hs5.trans (hs6.mono hs5.size)
  clear hr5 hs5 hs6
  (refine wpList_new 33 (cellsY zSig) rfl rfl zSg ?_; intro G3 w7 hle7 hs7 hn7; (try simp only [Act.put, pvA, pv0, pv1]))
  (refine wpList_set _ _ _ rfl rfl rfl _ _ rfl rfl _ _ hn7 iS.out zS1.out (one_cellsY _) ?_)
  (refine wpList_plain rfl fun K hK => ?_; go_simp; refine hK _ _ ?_; clear hK K; (try simp only [Act.put, pvA, pv0, pv1]))
  refine wpList_nil ?_
  have n13 : G1 ≠ G3 := by have := fb1.out.lt; have := hs56.size; omega
  have hG3 : w.heap.size ≤ G3 := by have := hbl4.size; have := hs56.size; omega
  have hb1 := hid (((fb1.out.step hs56).step hs7).other n13 (cellsY alS))
  have hb3 := hid (hn7.set (cellsY alS))
  have hbl8 := below_set (hbl4.trans ((hs56.trans (hs7.mono hs56.size)).mono hbl4.size)) G3 hG3 (cellsY alS)
  generalize w7.setRow G3 (cellsY alS) = w8 at hb1 hb3 hbl8 ⊢
  clear fb1 hbl4 hs56 hs7 hle7 hn7 cPb cSg
  (repeat ((fail_if_success (with_reducible refine Go.at_region ?_)); go_step))
  refine list_tail 38 ?_
  simp only [List.take_succ_cons, List.take_zero]
  iterate 4 (apply calm_on rfl; (focus (intro W hB; go_simp; exact ⟨rfl, Below.refl _ _⟩)); simp only [Act.put, pvA, pv0, pv1])
  (refine calm_cell rfl _ _ rfl _ _ rfl _ _ hb1.out (.int .u8 215) rfl o8 ?_; simp only [Act.put, pvA, pv0, pv1])
  iterate 4 (apply calm_on rfl; (focus (intro W hB; go_simp; exact ⟨rfl, Below.refl _ _⟩)); simp only [Act.put, pvA, pv0, pv1])
  (refine calm_cell rfl _ _ rfl _ _ rfl _ _ hb1.out (.int .u8 90) rfl o8 ?_; simp only [Act.put, pvA, pv0, pv1])
  iterate 4 (apply calm_on rfl; (focus (intro W hB; go_simp; exact ⟨rfl, Below.refl _ _⟩)); simp only [Act.put, pvA, pv0, pv1])
  (refine calm_cell rfl _ _ rfl _ _ rfl _ _ hb1.out (.int .u8 26) rfl o8 ?_; simp only [Act.put, pvA, pv0, pv1])
  iterate 8 (apply calm_on rfl; (focus (intro W hB; go_simp; exact ⟨rfl, Below.refl _ _⟩)); simp only [Act.put, pvA, pv0, pv1])
  (refine calm_cell rfl _ _ rfl _ _ rfl _ _ hb3.out (.int .u8 229) rfl o8 ?_; simp only [Act.put, pvA, pv0, pv1])
  iterate 4 (apply calm_on rfl; (focus (intro W hB; go_simp; exact ⟨rfl, Below.refl _ _⟩)); simp only [Act.put, pvA, pv0, pv1])
  (refine calm_cell rfl _ _ rfl _ _ rfl _ _ hb3.out (.int .u8 86) rfl o8 ?_; simp only [Act.put, pvA, pv0, pv1])
  iterate 3 (apply calm_on rfl; (focus (intro W hB; go_simp; exact ⟨rfl, Below.refl _ _⟩)); simp only [Act.put, pvA, pv0, pv1])
  (refine calm_whole rfl _ _ rfl _ rfl _ _ hb1.out gK iKy.out ?_; simp only [Act.put, pvA, pv0, pv1])
  (refine calm_whole rfl _ _ rfl _ rfl _ _ hb3.out gSig iS.out ?_; simp only [Act.put, pvA, pv0, pv1])
  (apply calm_on rfl; (focus (intro W hB; go_simp; refine (cV.out W).mono ?_; rintro _ _ ⟨rfl, hb'⟩; exact ⟨rfl, hb'⟩)); simp only [Act.put, pvA, pv0, pv1])
  iterate 2 (apply calm_on rfl; (focus (intro W hB; go_simp; exact ⟨rfl, Below.refl _ _⟩)); simp only [Act.put, pvA, pv0, pv1])
  (refine calm_whole rfl _ _ rfl _ rfl _ _ hb1.out gK iKy.out ?_; simp only [Act.put, pvA, pv0, pv1])
  refine calm_nil ?_
  intro w9 hs9
  simp only [List.drop_succ_cons, List.drop_zero]
  have hn10 := Blk.new 5 w9 (cellsY [1])
  have hb10 := below_alloc w9 (.cells (cellsY [1]) 5)
  have hr10 := hid (blk_all hn10 (n := 1) rfl)
  have g3 := hid ((hb3.out.step hs9).step hb10)
  have hbl10 := (hbl8.trans (hs9.mono hbl8.size)).trans (hb10.mono (hbl8.trans (hs9.mono hbl8.size)).size)
  clear hn10 hb10 hb1 hb3 hbl8 hs9
  (refine wpList_on rfl fun K hK => ?_; go_simp; refine hK _ (w9.alloc (.cells (cellsY [1]) 5)) ?_; clear hK K; (try simp only [Act.put, pvA, pv0, pv1]))
  generalize w9.alloc (.cells (cellsY [1]) 5) = w10 at hr10 g3 hbl10 ⊢
  (refine wpList_on rfl fun K hK => wp_load_block 33 (.tmp 3) rfl G3 rfl 33 (cellsY alS) (0, 0) g3.out uSig rfl iS.out (hK _ _ ?_); clear hK K; simp only [Act.put, pvA, pv0, pv1])
  (refine wpList_on rfl fun K hK => ?_; go_simp; refine (cF.out _ _ hr10.out).mono ?_; rintro _ w11 ⟨rfl, hs11⟩; refine hK _ _ ?_; clear hK K; (try simp only [Act.put, pvA, pv0, pv1]))
  iterate 3 (refine wpList_on rfl fun K hK => ?_; go_simp; refine hK _ _ ?_; clear hK K; (try simp only [Act.put, pvA, pv0, pv1]))
  (refine wpList_on rfl fun K hK => ?_; go_simp; refine (cB.out _).mono ?_; rintro _ w12 ⟨rfl, hs12⟩; refine hK _ _ ?_; clear hK K; (try simp only [Act.put, pvA, pv0, pv1]))
  (refine wpList_on rfl fun K hK => ?_; go_simp; refine (cO.out _).mono ?_; rintro _ w13 ⟨rfl, hs13⟩; refine hK _ _ ?_; clear hK K; (try simp only [Act.put, pvA, pv0, pv1]))
  iterate 2 (refine wpList_on rfl fun K hK => ?_; go_simp; refine hK _ _ ?_; clear hK K; (try simp only [Act.put, pvA, pv0, pv1]))
  refine wpList_nil ?_
  (repeat ((fail_if_success (with_reducible refine Go.at_region ?_)); go_step))
  go_ret
  have h1 := hs11.trans (hs12.mono hs11.size)
  have h2 := h1.trans (hs13.mono h1.size)
  exact ⟨rfl, hbl10.trans (h2.mono hbl10.size)⟩
end Go.Proofs.Ytejnnghfelpioaa
namespace Go.Proofs.Ytejnnghfelpioaa
open Go.RowKit
theorem word_arg (xs : List Int) (hl : xs.length = 4) (hw : ∀ y ∈ xs, (Lit.int .u64 y).wf = true) : ∃ x, x < 2 ^ 256 ∧ (.agg (xs.map (Value.int .u64)).toArray : Value) = wd x := by
  obtain ⟨a, b, c, d, rfl⟩ := len4 hl
  have ha := wf_u64 (hw a (by simp))
  have hb := wf_u64 (hw b (by simp))
  have hc := wf_u64 (hw c (by simp))
  have hd := wf_u64 (hw d (by simp))
  refine ⟨mk4 a.toNat b.toNat c.toNat d.toNat, mk4_lt _ _ _ _ (by omega) (by omega) (by omega) (by omega), ?_⟩
  unfold wd
  rw [cellsW_mk4 _ _ _ _ (by omega) (by omega) (by omega) (by omega), show ((a.toNat : Nat) : Int) = a by omega, show ((b.toNat : Nat) : Int) = b by omega, show ((c.toNat : Nat) : Int) = c by omega, show ((d.toNat : Nat) : Int) = d by omega]
  rfl
end Go.Proofs.Ytejnnghfelpioaa
namespace Go.Proofs.Ytejnnghfelpioaa
open Go.RowKit
end Go.Proofs.Ytejnnghfelpioaa
namespace Go.Proofs.Ytejnnghfelpioaa
open Go.RowKit
end Go.Proofs.Ytejnnghfelpioaa
namespace Go.Proofs.Ytejnnghfelpioaa
open Go.ChangeShapes Go.WideShapes Go.ChangeAt Go.RowKit
theorem fieldsPr : Try.prog.underlying 43 = some (.struct (Try.prog.fieldsOf 43)) := by kernel_rfl
theorem fieldsPr2 : (Try.prog.fieldsOf 43).toList.map (fun f => (f.type, f.offset)) = [(25, 0), (25, 4)] := by kernel_rfl
theorem uWd4 : Try.prog.underlying 25 = some (.array 4 23) := by kernel_rfl
theorem uU64 : Try.prog.underlying 23 = some (.int .u64) := by kernel_rfl
theorem cU64 : Try.prog.cellsOf 23 = 1 := by kernel_rfl
theorem cWd4 : Try.prog.cellsOf 25 = 4 := by kernel_rfl
theorem cPr8 : Try.prog.cellsOf 43 = 8 := by kernel_rfl
section
variable {H : Type} {enc : TypeId × Value → H} {W : World} {base : Nat} {r : Reach} {sp : Nat → Bool} {held : Bool}
theorem arg_pt {b0 : Nat} {v : Value} {d : DataW H} {p : List MemPlace} (hval : Value.okWide Try.prog W r base 43 v) (h : DataW.Trod enc Try.prog W b0 sp held 43 v d p) : ∃ q : P2, v = pt q ∧ LtP q := by
  simp only [Value.okWide, fieldsPr] at hval
  obtain ⟨cs, rfl, _, _⟩ := hval
  obtain ⟨fuel, hf⟩ := h
  obtain ⟨xs, m, _, _, hl, hn, hel⟩ := DataW.trod_struct fieldsPr hf
  have hfs := fieldsPr2
  obtain ⟨f0, f1, hfl⟩ : ∃ f0 f1, (Try.prog.fieldsOf 43).toList = [f0, f1] := by
    match h : (Try.prog.fieldsOf 43).toList with
    | [] => rw [h] at hfs; simp at hfs
    | [_] => rw [h] at hfs; simp at hfs
    | [f0, f1] => exact ⟨f0, f1, rfl⟩
    | _ :: _ :: _ :: _ => rw [h] at hfs; simp at hfs
  rw [hfl] at hfs
  simp only [List.map_cons, List.map_nil, List.cons.injEq, Prod.mk.injEq, and_true] at hfs
  obtain ⟨⟨t0, o0⟩, t1, o1⟩ := hfs
  have g0 : (Try.prog.fieldsOf 43)[0]? = some f0 := by rw [← Array.getElem?_toList, hfl]; rfl
  have g1 : (Try.prog.fieldsOf 43)[1]? = some f1 := by rw [← Array.getElem?_toList, hfl]; rfl
  have hn2 : xs.length = 2 := by rw [hn, ← Array.length_toList, hfl]; rfl
  have h0 := hel 0 f0 g0
  have h1 := hel 1 f1 g1
  rw [t0, o0, cWd4] at h0
  rw [t1, o1, cWd4] at h1
  match xs, hn2 with
  | [y0, y1], _ =>
    obtain ⟨a, ha, la, wa⟩ := cells_arr uWd4 uU64 cU64 cWd4 (by simpa using h0)
    obtain ⟨b, hb, lb, wb⟩ := cells_arr uWd4 uU64 cU64 cWd4 (by simpa using h1)
    obtain ⟨x, hx, ex⟩ := word_arg a la wa
    obtain ⟨y, hy, ey⟩ := word_arg b lb wb
    refine ⟨⟨x, y⟩, ?_, hx, hy⟩
    rw [cPr8] at hl
    have ex2 : (a.map (Value.int .u64)) = (cellsW x).toList := by unfold wd at ex; have := Value.agg.inj ex; rw [← this]
    have ey2 : (b.map (Value.int .u64)) = (cellsW y).toList := by unfold wd at ey; have := Value.agg.inj ey; rw [← this]
    have hcs : cs.toList = (cellsW x).toList ++ (cellsW y).toList := by
      have e1 : cs.toList = cs.toList.take 4 ++ (cs.toList.drop 4).take 4 := by
        rw [List.take_of_length_le (l := cs.toList.drop 4) (by have : cs.toList.length = 8 := hl; rw [List.length_drop]; omega), List.take_append_drop]
      have ha' : cs.toList.take 4 = a.map (Value.int .u64) := ha
      have hb' : (cs.toList.drop 4).take 4 = b.map (Value.int .u64) := hb
      rw [e1, ha', hb', ex2, ey2]
    unfold pt
    congr 1
    apply Array.ext'
    rw [hcs]
    rfl
end
set_option maxRecDepth 20000 in
theorem own_any (p : P2) (w : World) : Calls Try.prog 15 #[pt p] w fun e w' => e = .returned (pt p) ∧ Below w.heap.size w w' := by
  unfold pt
  obtain ⟨w0, hw0, k1, k2, hbl0⟩ := entry2 w 43 (cellsP p) 44 (cellsP zeroP)
  have bB : Try.prog.built 44 [(0, .agg (cellsW p.x)), (1, .agg (cellsW p.y))] = some (cellsP p) := bPe p.x p.y
  go_enter Try.func15, Try.ntmps15
  ((repeat ((fail_if_success (with_reducible refine Go.at_region ?_)); go_step)); refine wp_region_lit ?_)
  (refine wpList_box 43 (.tmp 0) rfl rfl (cellsP p) rfl ?_; simp only [Act.put, pvA, pv0, pv1]; (try simp only [World.size_alloc]))
  (refine wpList_alloc_new rfl 44 rfl (cellsP zeroP) zPe ?_; simp only [Act.put, pvA, pv0, pv1]; (try simp only [World.size_alloc]))
  refine wpList_nil ?_
  rw [← hw0]
  clear hw0
  ((repeat ((fail_if_success (with_reducible refine Go.at_region ?_)); go_step)); refine wp_region_lit ?_)
  (refine wpList_plain rfl fun K hK => ?_; go_simp; refine hK _ _ ?_; clear hK K; (try simp only [Act.put, pvA, pv0, pv1]))
  (refine wpList_getp _ _ rfl rfl _ _ rfl _ _ (cellsW p.x) k1 (inP_x p) gWd (iW p.x) ?_; simp only [Act.put, pvA, pv0, pv1])
  (refine wpList_plain rfl fun K hK => ?_; go_simp; refine hK _ _ ?_; clear hK K; (try simp only [Act.put, pvA, pv0, pv1]))
  (refine wpList_getp _ _ rfl rfl _ _ rfl _ _ (cellsW p.y) k1 (inP_y p) gWd (iW p.y) ?_; simp only [Act.put, pvA, pv0, pv1])
  (refine wpList_built rfl 44 _ rfl (cellsP p) (by first | (simp only [List.map_toArray, List.map_cons, List.map_nil]; exact bB) | exact bB) ?_; simp only [Act.put, pvA, pv0, pv1])
  (refine wpList_set _ _ _ rfl rfl rfl _ _ rfl rfl _ _ k2 (iPe _) rfl (one_cellsP _) ?_)
  refine wpList_nil ?_
  have kb := k2.set (cellsP p)
  have hbe := below_set hbl0 (w.heap.size + 1) (by omega) (cellsP p)
  (repeat ((fail_if_success (with_reducible refine Go.at_region ?_)); go_step))
  refine ret_blk (w.heap.size + 1) 44 _ rfl rfl kb gPe (iPe _) rfl ?_
  exact ⟨rfl, hbe⟩
end Go.Proofs.Ytejnnghfelpioaa
namespace Go.Proofs.Ytejnnghfelpioaa
open Go.RowKit
theorem pN_prime : IsP pN := ip_p
theorem two_roots (h p : Nat) (hp : IsP p) (hl : h < p) (hh : h * h % p = 1) : h = 1 ∨ h = p - 1 := by
  have h2 := hp.1
  have h0 : 1 ≤ h := by
    rcases Nat.eq_zero_or_pos h with e | e
    · rw [e, Nat.zero_mul, Nat.zero_mod] at hh; omega
    · exact e
  obtain ⟨g, rfl⟩ : ∃ g, h = g + 1 := ⟨h - 1, by omega⟩
  have e1 : (g + 1) * (g + 1) - 1 = g * (g + 2) := by
    rw [Nat.mul_add, Nat.add_mul, Nat.mul_add]; omega
  have hd : p ∣ g * (g + 2) := by
    rw [← e1]; exact dvd_sub_mod 1 _ p (by rw [hh, Nat.mod_eq_of_lt (by omega)])
  rcases hp.euclid hd with h3 | h3
  · rcases Nat.eq_zero_or_pos g with e | e
    · exact .inl (by omega)
    · have := Nat.le_of_dvd e h3; omega
  · have := Nat.le_of_dvd (by omega) h3; exact .inr (by omega)
theorem neg_sq (x p : Nat) (h : x ≤ p) : (p - x) * (p - x) % p = x * x % p := by
  obtain ⟨y, rfl⟩ : ∃ y, p = x + y := ⟨p - x, by omega⟩
  rw [Nat.add_sub_cancel_left]
  have e : y * y + (x + y) * x = x * x + (x + y) * y := by
    rw [Nat.add_mul, Nat.add_mul, Nat.mul_comm y x]; omega
  have h1 := Nat.add_mul_mod_self_left (y * y) (x + y) x
  have h2 := Nat.add_mul_mod_self_left (x * x) (x + y) y
  rw [← h1, e, h2]
theorem m_sq (x y p : Nat) : (x * y % p) * (x * y % p) % p = (x * x % p) * (y * y % p) % p := by
  rw [← Nat.mul_mod, ← Nat.mul_mod, Nat.mul_mul_mul_comm]
theorem sq_root (a : Nat) : sqOk (a * a % pN) = true ∧ sqX (a * a % pN) * sqX (a * a % pN) % pN = a * a % pN ∧ sqX (a * a % pN) % 2 = 0 := by
  obtain ⟨s, hs⟩ : ∃ s, s = a * a % pN := ⟨_, rfl⟩
  have hsl : s % pN = s := by rw [hs, Nat.mod_mod]
  have hok : sq1 s * sq1 s % pN = s := by
    unfold sq1
    split
    · rename_i h; rw [hsl] at h; exact h
    · rename_i h
      rw [hsl] at h
      have e0 : sq0 s * sq0 s % pN = (a * a % pN) * (a ^ ((pN - 1) / 2) % pN) % pN := by
        unfold sq0 powP
        rw [hsl, ← Nat.mul_mod, ← Nat.pow_add, hs, ← Nat.mul_mod]
        rw [pow_mod_cong (Nat.mod_mod (a * a) pN), ← Nat.pow_two, ← Nat.pow_mul, ← Nat.pow_add]
        rw [show 2 * ((pN + 3) / 8 + (pN + 3) / 8) = 2 + (pN - 1) / 2 by decide +kernel]
      obtain ⟨g, hg⟩ : ∃ g, g = a ^ ((pN - 1) / 2) % pN := ⟨_, rfl⟩
      rw [← hg, ← hs] at e0
      by_cases ha : a % pN = 0
      · have : s = 0 := by rw [hs, Nat.mul_mod, ha, Nat.mul_zero, Nat.zero_mod]
        rw [this, Nat.zero_mul, Nat.zero_mod] at e0
        rw [this] at h
        exact absurd e0 h
      · have hg2 : g * g % pN = 1 := by
          rw [hg, ← Nat.mul_mod, ← Nat.pow_add, show (pN - 1) / 2 + (pN - 1) / 2 = pN - 1 by decide +kernel]
          exact fermat pN pN_prime a ha
        rcases two_roots g pN pN_prime (by rw [hg]; exact Nat.mod_lt _ pN_pos) hg2 with e | e
        · rw [e, Nat.mul_one, hsl] at e0
          exact absurd e0 h
        · rw [m_sq, e0, show powP 2 (pN / 4) * powP 2 (pN / 4) % pN = pN - 1 by rw [pow_i]; decide +kernel, e, Nat.mul_mod, Nat.mod_mod, ← Nat.mul_mod, Nat.mul_assoc, Nat.mul_mod, show (pN - 1) * (pN - 1) % pN = 1 by decide +kernel, Nat.mul_one, Nat.mod_mod, hsl]
  have hk : sqOk s = true := by unfold sqOk; rw [hsl]; exact decide_eq_true hok
  rw [← hs]
  refine ⟨hk, ?_, ?_⟩
  · unfold sqX
    rw [if_pos hk]
    split
    · rw [neg_sq _ _ (Nat.le_of_lt (sq1_lt s))]; exact hok
    · exact hok
  · unfold sqX
    rw [if_pos hk]
    have hl := sq1_lt s
    have ho : pN % 2 = 1 := by decide +kernel
    split
    · omega
    · omega
end Go.Proofs.Ytejnnghfelpioaa
namespace Go.Proofs.Ytejnnghfelpioaa
open Go.RowKit
def iRt : FP := nF 19681161376707505956807079304988542015446066515923890162744021073123829784752
theorem iRt_sq : iRt * iRt = -1 := by
  have h : iRt * iRt + 1 = 0 := by
    unfold iRt
    rw [← nF_one, ← nF_mul, ← nF_add, ← nF_zero]
    exact nF_eq (by decide +kernel)
  grind
theorem dN_half : powP dN ((pN - 1) / 2) = pN - 1 := by rw [pow2 dN _ (by decide +kernel)]; decide +kernel
theorem pow_half (s d e n : Nat) (he : n + n = e) (h1 : s * s % pN = d % pN) : powP d n = powP s e := by unfold powP; rw [← pow_mod_cong h1, Nat.mul_pow, ← Nat.pow_add, he]
theorem pow_01 (s e : Nat) (h0 : 0 < e) (he : ∀ s, s % pN ≠ 0 → powP s e = 1) : powP s e = 1 ∨ powP s e = 0 := by
  by_cases h : s % pN = 0
  · right; unfold powP; rw [Nat.pow_mod, h, Nat.zero_pow h0, Nat.zero_mod]
  · exact .inl (he s h)
theorem fermatP (s : Nat) (h : s % pN ≠ 0) : powP s (pN - 1) = 1 := by unfold powP; exact fermat pN pN_isP s h
theorem d_nonsq (s : FP) : s * s ≠ dF := by
  intro h
  have h1 : s.val * s.val % pN = dN % pN := by
    have := congrArg Fin.val h
    rw [Fin.val_mul] at this
    exact this
  have h2 := pow_half s.val dN (pN - 1) ((pN - 1) / 2) (by decide +kernel) h1
  rw [dN_half] at h2
  rcases pow_01 s.val (pN - 1) (by decide +kernel) fermatP with e | e
  · rw [e] at h2; exact absurd h2 (by decide +kernel)
  · rw [e] at h2; exact absurd h2 (by decide +kernel)
theorem one_ne : (1 : FP) ≠ 0 := fun h => absurd (congrArg Fin.val h) (by decide +kernel)
theorem d_one (z : FP) : 1 + dF * (z * z) ≠ 0 := by
  intro h
  by_cases hz : z = 0
  · subst hz
    have e : dF * ((0 : FP) * 0) = 0 := by rw [Fin.mul_zero, Fin.mul_zero]
    rw [e, Fin.add_zero] at h
    exact one_ne h
  · have hi := mul_iF z hz
    have h2 := iRt_sq
    refine d_nonsq (iRt * iF z) ?_
    generalize iF z = zi at *
    generalize dF = d at *
    generalize iRt = i at *
    grind
theorem nF_of_lt {x : Nat} (h : x < pN) : (nF x).val = x := by rw [nF_val, Nat.mod_eq_of_lt h]
theorem nF_inj {x y : Nat} (hx : x < pN) (hy : y < pN) (h : nF x = nF y) : x = y := by
  have := congrArg Fin.val h
  rwa [nF_of_lt hx, nF_of_lt hy] at this
theorem nF_pw (u : Nat) : nF (powP u (pN - 2)) = iF (nF u) := (iF_nF u).symm
theorem decA_F (k : List (BitVec 8)) : nF (decA k) = (nF (decY k) * nF (decY k) - 1) * iF (1 + dF * (nF (decY k) * nF (decY k))) := by
  have e : ∀ d Y : FP, d * (Y * Y) + 1 = 1 + d * (Y * Y) := fun d Y => by grind
  have hd : nF dN = dF := rfl
  unfold decA
  rw [nF_mod, nF_mul, nF_sub, nF_mod, nF_mul, nF_one, nF_pw, nF_mod, nF_add, nF_mod, nF_mul, nF_mod, nF_mul, nF_one, hd, e]
theorem sqX_lt (a : Nat) : sqX a < pN := by
  unfold sqX
  split
  · split
    · have := sq1_lt a; omega
    · exact sq1_lt _
  · exact pN_pos
theorem sq_two (r x : FP) (h : r * r = x * x) : r = x ∨ r = -x := by
  by_cases hc : r - x = 0
  · left; grind
  · right
    have : r + x = 0 := F_zero_of (a := r - x) (by grind) hc
    grind
theorem pN_odd : pN % 2 = 1 := by decide +kernel
theorem neg_val (x : Nat) (h : x < pN) : (-(nF x)).val = if x = 0 then 0 else pN - x := by
  have e : -(nF x) = nF (pN - x) := by
    have : nF (pN - x) + nF x = 0 := by
      rw [← nF_add, ← nF_zero, show pN - x + x = pN by omega]
      exact nF_eq (by rw [Nat.mod_self, Nat.zero_mod])
    grind
  rw [e, nF_val]
  split
  · rename_i h0; rw [h0, Nat.sub_zero, Nat.mod_self]
  · rw [Nat.mod_eq_of_lt (by omega)]
theorem even_root (r x : Nat) (hr : r < pN) (hx : x < pN) (he : r % 2 = 0) (h : nF r * nF r = nF x * nF x) : r = if x % 2 = 1 then pN - x else x := by
  have ho := pN_odd
  rcases sq_two _ _ h with e | e
  · have := nF_inj hr hx e
    subst this
    rw [if_neg (by omega)]
  · have h2 := congrArg Fin.val e
    rw [nF_of_lt hr, neg_val x hx] at h2
    split at h2
    · rename_i h0; subst h0; rw [if_neg (by decide)]; exact h2
    · rename_i h0
      rw [if_pos (by omega)]; exact h2
theorem y31_lt (y : Nat) (h : y < pN) : (ny (leL y) 31).toNat < 128 := by
  have e : ny (leL y) 31 = b8 (y / 256 ^ 31) := by simp [ny, leL]
  rw [e]
  unfold b8
  have h1 : y / 256 ^ 31 < 128 := by
    rw [Nat.div_lt_iff_lt_mul (by decide)]
    exact Nat.lt_of_lt_of_le h (by decide +kernel)
  rw [BitVec.toNat_ofNat]
  omega
theorem top_nat (a b : BitVec 8) (h : a.toNat < 128) : (a ||| (b <<< 7)).toNat = a.toNat + b.toNat % 2 * 128 := by
  rw [BitVec.toNat_or, BitVec.toNat_shiftLeft, Nat.shiftLeft_eq, show b.toNat * 2 ^ 7 % 2 ^ 8 = b.toNat % 2 * 2 ^ 7 by omega]
  exact or_add _ _ 7 (by omega)
theorem and_127 (x : BitVec 8) : (x &&& (127 : BitVec 8)).toNat = x.toNat % 128 := by
  rw [BitVec.toNat_and, show BitVec.toNat (127 : BitVec 8) = 2 ^ 7 - 1 from rfl, Nat.and_two_pow_sub_one_eq_mod]
theorem top_bits (a b : BitVec 8) (h : a.toNat < 128) : ((a ||| (b <<< 7)) &&& (127 : BitVec 8)) = a ∧ (a ||| (b <<< 7)).toNat / 128 = b.toNat % 2 := by
  have e := top_nat a b h
  constructor
  · apply BitVec.eq_of_toNat_eq
    rw [and_127, e]
    omega
  · rw [e]; omega
theorem split_top (x : BitVec 8) (b : BitVec 8) (h : b.toNat % 2 = x.toNat / 128) : ((x &&& (127 : BitVec 8)) ||| (b <<< 7)) = x := by
  have hl := and_127 x
  apply BitVec.eq_of_toNat_eq
  rw [top_nat _ _ (by rw [hl]; omega), hl, h]; omega
theorem b8_par (x : Nat) : (ny (leL x) 0).toNat % 2 = x % 2 := by
  have e : ny (leL x) 0 = b8 x := by simp [ny, leL]
  rw [e]; unfold b8; rw [BitVec.toNat_ofNat]; omega
theorem yv_div (x : BitVec 8) : yv x / 128 = ((x.toNat / 128 : Nat) : Int) := by unfold yv; omega
theorem set_same (l : List (BitVec 8)) (i : Nat) (a b : BitVec 8) : (l.set i a).set i b = l.set i b := List.set_set ..
theorem set_ny (l : List (BitVec 8)) (i : Nat) : l.set i (ny l i) = l := by
  apply List.ext_getElem?
  intro j
  rw [List.getElem?_set]
  split
  · rename_i h; subst h
    split
    · rename_i h2; simp [ny, h2]
    · rename_i h2; rw [List.getElem?_eq_none (by omega)]
  · rfl
theorem ny_set31 (l : List (BitVec 8)) (hl : l.length = 32) (a : BitVec 8) : ny (l.set 31 a) 31 = a := by simp [ny, hl]
theorem dec_enc (p : P2) (h : onB p = true) : decP (encL p) = p ∧ decE (encL p) = 0 := by
  obtain ⟨hx, hy, hc⟩ := onB_onC h
  have ey : p.y % pN = p.y := Nat.mod_eq_of_lt hy
  have ex : p.x % pN = p.x := Nat.mod_eq_of_lt hx
  have hk : encL p = (leL p.y).set 31 (ny (leL p.y) 31 ||| (ny (leL p.x) 0 <<< 7)) := by unfold encL; rw [ey, ex]
  obtain ⟨t1, t2⟩ := top_bits (ny (leL p.y) 31) (ny (leL p.x) 0) (y31_lt _ hy)
  have hn : ny (encL p) 31 = ny (leL p.y) 31 ||| (ny (leL p.x) 0 <<< 7) := by rw [hk, ny_set31 _ (leL_len _)]
  have hlow : lowB (encL p) = leL p.y := by
    unfold lowB
    rw [hn, t1, hk, set_same, set_ny]
  have hodd : oddB (encL p) = decide (p.x % 2 = 1) := by
    unfold oddB
    rw [hn, yv_div, t2, b8_par]
    congr 1
    exact propext ⟨fun h => by omega, fun h => by omega⟩
  have hle : leN (leL p.y) = p.y := leN_leL _ (Nat.lt_trans hy pN_lt)
  have hY : decY (encL p) = p.y := by
    unfold decY; rw [hlow]; unfold fdN; rw [hle, if_pos ⟨leL_len _, hy⟩]
  have hE0 : fdE pN (lowB (encL p)) = 0 := by rw [hlow]; unfold fdE; rw [hle, if_pos (leL_len _), if_pos hy]
  have hA : decA (encL p) = p.x * p.x % pN := by
    refine nF_inj (Nat.mod_lt _ pN_pos) (Nat.mod_lt _ pN_pos) ?_
    rw [decA_F, hY, nF_mod, nF_mul]
    unfold onC at hc
    have h1 := d_one (nF p.y)
    have h2 := mul_iF _ h1
    obtain ⟨u, hu⟩ : ∃ u, u = 1 + dF * (nF p.y * nF p.y) := ⟨_, rfl⟩
    rw [← hu] at h2 ⊢
    generalize iF u = ui at h2 ⊢
    have e : nF p.y * nF p.y - 1 = nF p.x * nF p.x * u := by rw [hu]; clear h2 hu; generalize dF = d at *; grind
    rw [e]; grind
  obtain ⟨s1, s2, s3⟩ := sq_root p.x
  rw [← hA] at s1 s2 s3
  have hr := sqX_lt (decA (encL p))
  obtain ⟨r, hR⟩ : ∃ r, r = sqX (decA (encL p)) := ⟨_, rfl⟩
  have hR2 := hR
  rw [← hR] at s2 s3 hr
  have hrr : nF r * nF r = nF p.x * nF p.x := by
    rw [← nF_mul, ← nF_mul]
    refine nF_eq ?_
    rw [s2, hA]
  have hroot := even_root r p.x hr hx s3 hrr
  rw [hR2] at hroot
  have hB : decB (encL p) = true := by
    unfold decB
    rw [hE0, s1, hodd, hroot]
    by_cases ho : p.x % 2 = 1
    · rw [if_pos ho, decide_eq_true ho, decide_eq_false (show ¬ pN - p.x = 0 by omega)]; rfl
    · rw [if_neg ho, decide_eq_false ho]; rfl
  refine ⟨?_, by unfold decE; rw [if_pos hB]⟩
  unfold decP
  rw [if_pos hB, hodd, hroot, hY]
  by_cases ho : p.x % 2 = 1
  · rw [if_pos ho, if_pos (decide_eq_true ho)]
    have : subP 0 (pN - p.x) = p.x := by
      unfold subP
      rw [Nat.mod_eq_of_lt (show pN - p.x < pN by omega), Nat.zero_add, show pN - (pN - p.x) = p.x by omega, ex]
    rw [this]
  · rw [if_neg ho, if_neg (by rw [decide_eq_false ho]; decide)]
theorem dec_on (k : List (BitVec 8)) (hk : k.length = 32) (h : decE k = 0) : onB (decP k) = true ∧ encL (decP k) = k := by
  have hB : decB k = true := by
    cases hb : decB k with
    | true => rfl
    | false => unfold decE at h; rw [hb] at h; exact absurd h (by decide)
  have hB2 := hB
  unfold decB at hB2
  rw [Bool.and_eq_true, Bool.and_eq_true, decide_eq_true_eq] at hB2
  obtain ⟨hE, hok, hz⟩ := hB2
  have ll : (lowB k).length = 32 := by unfold lowB; rw [List.length_set, hk]
  have hlt : leN (lowB k) < pN := by
    unfold fdE at hE
    rw [if_pos ll] at hE
    split at hE
    · assumption
    · cases hE
  have hY : decY k = leN (lowB k) := by unfold decY fdN; rw [if_pos ⟨ll, hlt⟩]
  have hYl : leL (decY k) = lowB k := by rw [hY, leL_leN _ ll]
  have hyp : decY k < pN := by rw [hY]; exact hlt
  obtain ⟨r, hr⟩ : ∃ r, r = sqX (decA k) := ⟨_, rfl⟩
  have hrl : r < pN := by rw [hr]; exact sqX_lt _
  have hok2 : sq1 (decA k) * sq1 (decA k) % pN = decA k % pN := by unfold sqOk at hok; exact of_decide_eq_true hok
  have hev : r % 2 = 0 := by
    rw [hr]; unfold sqX
    rw [if_pos hok]
    have hl := sq1_lt (decA k)
    have ho := pN_odd
    split <;> omega
  have hsq : nF r * nF r = nF (decA k) := by
    rw [← nF_mul, hr]
    refine nF_eq ?_
    unfold sqX
    rw [if_pos hok]
    split
    · rw [neg_sq _ _ (Nat.le_of_lt (sq1_lt _))]; exact hok2
    · exact hok2
  obtain ⟨x, hx⟩ : ∃ x, x = if oddB k = true then subP 0 r else r := ⟨_, rfl⟩
  have hP : decP k = ⟨x, decY k⟩ := by unfold decP; rw [if_pos hB, ← hr, ← hx]
  have hxl : x < pN := by
    rw [hx]; split
    · exact Nat.mod_lt _ pN_pos
    · exact hrl
  have hxs : nF x * nF x = nF r * nF r := by
    rw [hx]; split
    · rw [nF_sub, nF_zero]; grind
    · rfl
  have hpar : x % 2 = if oddB k = true then 1 else 0 := by
    rw [hx]; split
    · rename_i ho
      rw [ho, ← hr] at hz
      have hr0 : r ≠ 0 := by intro e; rw [e] at hz; exact absurd hz (by decide)
      have := pN_odd
      unfold subP
      rw [Nat.mod_eq_of_lt hrl, Nat.zero_add, Nat.mod_eq_of_lt (show pN - r < pN by omega)]
      omega
    · exact hev
  have hcv : onC (nF x) (nF (decY k)) := by
    unfold onC
    rw [hxs, hsq, decA_F]
    have h1 := d_one (nF (decY k))
    have h2 := mul_iF _ h1
    obtain ⟨Y, hYY⟩ : ∃ Y, Y = nF (decY k) := ⟨_, rfl⟩
    rw [← hYY] at h2 ⊢
    obtain ⟨u, hu⟩ : ∃ u, u = 1 + dF * (Y * Y) := ⟨_, rfl⟩
    rw [← hu] at h2 ⊢
    generalize iF u = ui at h2 ⊢
    generalize dF = d at *
    grind
  refine ⟨?_, ?_⟩
  · rw [hP]; exact onB_of hxl hyp hcv
  · rw [hP]
    unfold encL
    rw [Nat.mod_eq_of_lt hyp, Nat.mod_eq_of_lt hxl, hYl]
    have h31 : ny (lowB k) 31 = (ny k 31 &&& (127 : BitVec 8)) := by unfold lowB; rw [ny_set31 _ hk]
    rw [h31, split_top (ny k 31) (ny (leL x) 0) ?_]
    · unfold lowB; rw [set_same, set_ny]
    · rw [b8_par, hpar]
      unfold oddB
      rw [yv_div]
      have := (ny k 31).isLt
      by_cases hq : (ny k 31).toNat / 128 = 1
      · rw [hq]; rfl
      · rw [if_neg (by rw [decide_eq_false (by omega)]; decide)]; omega
theorem dec_zero (k : List (BitVec 8)) (h : decE k ≠ 0) : decP k = zeroP := by
  unfold decE at h
  unfold decP
  split at h
  · exact absurd rfl h
  · rename_i h2; rw [if_neg h2]
end Go.Proofs.Ytejnnghfelpioaa
namespace Go.Proofs.Ytejnnghfelpioaa
open Go.RowKit
theorem cU8k : Try.prog.cellsOf 5 = 1 := by kernel_rfl
theorem iU8k : (Try.prog.info? 5).isSome = true := by kernel_rfl
theorem uU8k : Try.prog.underlying 5 = some (.int .u8) := by kernel_rfl
theorem eq_key (x y : List (BitVec 8)) (hx : x.length = 32) (hy : y.length = 32) (w : World) : (Op.equalIn 10000 28 (.agg (cellsY x)) (.agg (cellsY y))).run Try.prog w = .ok (decide (x = y)) w := by
  have e : ∀ l : List (BitVec 8), cellsY l = ((l.map yv).map (Value.int .u8)).toArray := fun l => by simp [cellsY]
  rw [e, e, run_equalIn_ints w 9998 uK iU8k cU8k uU8k _ _ (by simp [hx]) (by simp [hy])]
  congr 1
  refine decide_eq_decide.2 ⟨fun h => ?_, fun h => by rw [h]⟩
  apply List.ext_getElem?
  intro j
  have := congrArg (fun l : List Int => l[j]?) h
  simp only [List.getElem?_map] at this
  cases h1 : x[j]? <;> cases h2 : y[j]? <;> simp [h1, h2] at this ⊢
  exact yv_inj this
theorem key_arg (xs : List Int) (hl : xs.length = 32) (hw : ∀ y ∈ xs, (Lit.int .u8 y).wf = true) : ∃ k : List (BitVec 8), k.length = 32 ∧ (.agg (xs.map (Value.int .u8)).toArray : Value) = key k := by
  obtain ⟨ys, rfl⟩ := bytes_of xs fun y hy => wf_u8 (hw y hy)
  refine ⟨ys, by simpa using hl, ?_⟩
  unfold key cellsY
  rw [List.map_map]; rfl
set_option maxRecDepth 100000 in
set_option maxHeartbeats 8000000 in
theorem walk_EdBack (w : World) (p : P2) (hp : LtP p) (x0 : List Int) (lx : x0.length = 32) (wx : ∀ y ∈ x0, (Lit.int .u8 y).wf = true) :
    Calls Try.prog 4 #[pt p, .agg (x0.map (Value.int .u8)).toArray] w fun e w' => e = .returned (.bool true) ∧ Below w.heap.size w w' := by
  obtain ⟨k, hk, e0⟩ := key_arg x0 lx wx
  rw [e0]
  clear e0 lx wx
  have cD := hid fun w => dec_any k w hk
  have hcase : (decE k = 0 ∧ onB (decP k) = true ∧ encL (decP k) = k) ∨ (decE k = 20 ∧ decP k = zeroP) := by
    by_cases h : decE k = 0
    · exact .inl ⟨h, dec_on k hk h⟩
    · refine .inr ⟨?_, dec_zero k h⟩
      unfold decE at h ⊢
      split at h
      · exact absurd rfl h
      · rename_i hh; rw [if_neg hh]
  have hPl := decP_lt k
  have cO := hid fun w => on_any (decP k) w hPl
  have cE := hid fun w => enc_any (decP k) w hPl
  have iKk := hid (iK k hk)
  have hqk := eq_key k k hk hk
  rw [decide_eq_true rfl] at hqk
  have hqz := eq_pt zeroP zeroP zeroP_lt zeroP_lt
  rw [decide_eq_true ⟨rfl, rfl⟩] at hqz
  have cOw := hid fun w => own_any p w
  have cOp := hid fun w => on_any p w hp
  have cEp := hid fun w => enc_any p w hp
  have cDp := hid fun w => dec_any (encL p) w (encL_len p)
  have hqp := eq_pt p p hp hp
  rw [decide_eq_true ⟨rfl, rfl⟩] at hqp
  have cA := hid fun w => ealive_any w
  have hback := hid fun h : onB p = true => dec_enc p h
  obtain ⟨P, hP⟩ : ∃ P, P = decP k := ⟨_, rfl⟩
  obtain ⟨e, he⟩ : ∃ e, e = decE k := ⟨_, rfl⟩
  rw [← hP, ← he] at hcase cD
  rw [← hP] at cO cE
  clear hP he hPl
  unfold pt key at *
  obtain ⟨w0, hw0, k2, k3, hbl0⟩ := entry2 w 43 (cellsP p) 28 (cellsY k)
  go_enter Try.func4, Try.ntmps4
  ((repeat ((fail_if_success (with_reducible refine Go.at_region ?_)); go_step)); refine wp_region_lit ?_)
  (refine wpList_box 43 (.tmp 0) rfl rfl (cellsP p) rfl ?_; simp only [Act.put, pvA, pv0, pv1]; (try simp only [World.size_alloc]))
  (refine wpList_box 28 (.tmp 1) rfl rfl (cellsY k) rfl ?_; simp only [Act.put, pvA, pv0, pv1]; (try simp only [World.size_alloc]))
  (refine wpList_plain rfl fun K hK => ?_; go_simp; refine hK _ _ ?_; clear hK K; (try simp only [Act.put, pvA, pv0, pv1]))
  refine wpList_nil ?_
  rw [← hw0]
  clear hw0
  have hb2 := hid k2
  have hb3 := hid k3
  clear k2 k3
  ((repeat ((fail_if_success (with_reducible refine Go.at_region ?_)); go_step)); refine wp_region_lit ?_)
  (refine wpList_get _ _ rfl rfl _ rfl _ _ hb3.out gK iKk.out ?_; simp only [Act.put, pvA, pv0, pv1])
  (refine wpList_plain rfl fun K hK => ?_; go_simp; refine (cD.out _).mono ?_; rintro _ w1 ⟨rfl, hs1⟩; refine hK _ _ ?_; clear hK K; (try simp only [Act.put, pvA, pv0, pv1]))
  iterate 3 (refine wpList_plain rfl fun K hK => ?_; go_simp; refine hK _ _ ?_; clear hK K; (try simp only [Act.put, pvA, pv0, pv1]))
  (refine wpList_new 44 (cellsP zeroP) rfl rfl zPe ?_; intro G5 w2 hle2 hs2 hn2; (try simp only [Act.put, pvA, pv0, pv1]))
  (refine wpList_set _ _ _ rfl rfl rfl _ _ rfl rfl _ _ hn2 (iPe P) rfl (one_cellsP _) ?_)
  (refine wpList_plain rfl fun K hK => ?_; go_simp; refine hK _ _ ?_; clear hK K; (try simp only [Act.put, pvA, pv0, pv1]))
  refine wpList_nil ?_
  have n52 : w.heap.size ≠ G5 := by have := hb2.out.lt; have := hs1.size; omega
  have n53 : w.heap.size + 1 ≠ G5 := by have := hb3.out.lt; have := hs1.size; omega
  have hG5 : w.heap.size ≤ G5 := by have := hbl0.size; have := hs1.size; omega
  have fb2 := hid (((hb2.out.step hs1).step hs2).other n52 (cellsP P))
  have fb3 := hid (((hb3.out.step hs1).step hs2).other n53 (cellsP P))
  have fb5 := hid (hn2.set (cellsP P))
  have hbl3 := below_set (hbl0.trans ((hs1.trans (hs2.mono hs1.size)).mono hbl0.size)) G5 hG5 (cellsP P)
  generalize w2.setRow G5 (cellsP P) = w3 at fb2 fb3 fb5 hbl3 ⊢
  clear hs1 hs2 hle2 hn2 hb2 hb3 hbl0 cD
  have tail : True := trivial
  rcases hcase with ⟨rfl, h1, h2⟩ | ⟨rfl, rfl⟩
  · rw [h1] at cO
    rw [h2] at cE
    clear h1 h2
    (repeat ((fail_if_success (with_reducible refine Go.at_region ?_)); go_step))
    refine draw_all (by kernel_rfl) (by kernel_rfl) (by kernel_rfl) ?_
    iterate 3 (apply calm_on rfl; (focus (intro W hB; go_simp; exact ⟨rfl, Below.refl _ _⟩)); simp only [Act.put, pvA, pv0, pv1])
    (refine calm_whole rfl _ _ rfl _ rfl _ _ fb5.out gPe (iPe P) ?_; simp only [Act.put, pvA, pv0, pv1])
    (apply calm_on rfl; (focus (intro W hB; go_simp; refine (cO.out W).mono ?_; rintro _ _ ⟨rfl, hb'⟩; exact ⟨rfl, hb'⟩)); simp only [Act.put, pvA, pv0, pv1])
    iterate 2 (apply calm_on rfl; (focus (intro W hB; go_simp; exact ⟨rfl, Below.refl _ _⟩)); simp only [Act.put, pvA, pv0, pv1])
    (refine calm_whole rfl _ _ rfl _ rfl _ _ fb5.out gPe (iPe P) ?_; simp only [Act.put, pvA, pv0, pv1])
    (apply calm_on rfl; (focus (intro W hB; go_simp; refine (cE.out W).mono ?_; rintro _ _ ⟨rfl, hb'⟩; exact ⟨rfl, hb'⟩)); simp only [Act.put, pvA, pv0, pv1])
    (refine calm_whole rfl _ _ rfl _ rfl _ _ fb3.out gK iKk.out ?_; simp only [Act.put, pvA, pv0, pv1])
    iterate 7 (apply calm_on rfl; (focus (intro W hB; go_simp; exact ⟨rfl, Below.refl _ _⟩)); simp only [Act.put, pvA, pv0, pv1])
    iterate 3 (refine calm_off rfl ?_; simp only [Act.put, pvA, pv0, pv1])
    iterate 2 (apply calm_on rfl; (focus (intro W hB; go_simp; exact ⟨rfl, Below.refl _ _⟩)); simp only [Act.put, pvA, pv0, pv1])
    refine calm_nil ?_
    intro w4 hs4
    (try dsimp only)
    have gb2 := hid (fb2.out.step hs4)
    have hbl4 := hbl3.trans (hs4.mono hbl3.size)
    clear fb2 fb3 fb5 hbl3 hs4
    by_cases ho : onB p = true
    · obtain ⟨q1, q2⟩ := hback.out ho
      rw [ho] at cOp
      rw [q1, q2] at cDp
      clear q1 q2 hback ho
      obtain ⟨K, hK⟩ : ∃ K, K = encL p := ⟨_, rfl⟩
      rw [← hK] at cEp cDp
      clear hK
      ((repeat ((fail_if_success (with_reducible refine Go.at_region ?_)); go_step)); refine wp_region_lit ?_)
      (refine wpList_get _ _ rfl rfl _ rfl _ _ gb2.out gPr (iPr p) ?_; simp only [Act.put, pvA, pv0, pv1])
      (refine wpList_plain rfl fun K hK => ?_; go_simp; refine (cOw.out _).mono ?_; rintro _ w5 ⟨rfl, hs5⟩; refine hK _ _ ?_; clear hK K; (try simp only [Act.put, pvA, pv0, pv1]))
      (refine wpList_plain rfl fun K hK => ?_; go_simp; refine (cOp.out _).mono ?_; rintro _ w6 ⟨rfl, hs6⟩; refine hK _ _ ?_; clear hK K; (try simp only [Act.put, pvA, pv0, pv1]))
      (refine wpList_plain rfl fun K hK => ?_; go_simp; refine hK _ _ ?_; clear hK K; (try simp only [Act.put, pvA, pv0, pv1]))
      refine wpList_nil ?_
      have fb2 := hid ((gb2.out.step hs5).step hs6)
      have hbl6 := hbl4.trans ((hs5.trans (hs6.mono hs5.size)).mono hbl4.size)
      clear gb2 hs5 hs6 hbl4
      ((repeat ((fail_if_success (with_reducible refine Go.at_region ?_)); go_step)); refine wp_region_lit ?_)
      (refine wpList_get _ _ rfl rfl _ rfl _ _ fb2.out gPr (iPr p) ?_; simp only [Act.put, pvA, pv0, pv1])
      (refine wpList_plain rfl fun K hK => ?_; go_simp; refine (cOw.out _).mono ?_; rintro _ w7 ⟨rfl, hs7⟩; refine hK _ _ ?_; clear hK K; (try simp only [Act.put, pvA, pv0, pv1]))
      (refine wpList_plain rfl fun K hK => ?_; go_simp; refine (cEp.out _).mono ?_; rintro _ w8 ⟨rfl, hs8⟩; refine hK _ _ ?_; clear hK K; (try simp only [Act.put, pvA, pv0, pv1]))
      (refine wpList_plain rfl fun K hK => ?_; go_simp; refine (cDp.out _).mono ?_; rintro _ w9 ⟨rfl, hs9⟩; refine hK _ _ ?_; clear hK K; (try simp only [Act.put, pvA, pv0, pv1]))
      have hs78 := hs7.trans (hs8.mono hs7.size)
      have hs79 := hs78.trans (hs9.mono hs78.size)
      iterate 3 (refine wpList_plain rfl fun K hK => ?_; go_simp; refine hK _ _ ?_; clear hK K; (try simp only [Act.put, pvA, pv0, pv1]))
      (refine wpList_new 44 (cellsP zeroP) rfl rfl zPe ?_; intro G7 w10 hle10 hs10 hn10; (try simp only [Act.put, pvA, pv0, pv1]))
      (refine wpList_set _ _ _ rfl rfl rfl _ _ rfl rfl _ _ hn10 (iPe p) rfl (one_cellsP _) ?_)
      (refine wpList_plain rfl fun K hK => ?_; go_simp; refine hK _ _ ?_; clear hK K; (try simp only [Act.put, pvA, pv0, pv1]))
      refine wpList_nil ?_
      have n72 : w.heap.size ≠ G7 := by have := fb2.out.lt; have := hs79.size; omega
      have hG7 : w.heap.size ≤ G7 := by have := hbl6.size; have := hs79.size; omega
      have kb2 := hid (((fb2.out.step hs79).step hs10).other n72 (cellsP p))
      have kb7 := hid (hn10.set (cellsP p))
      have hbl11 := below_set (hbl6.trans ((hs79.trans (hs10.mono hs79.size)).mono hbl6.size)) G7 hG7 (cellsP p)
      generalize w10.setRow G7 (cellsP p) = w11 at kb2 kb7 hbl11 ⊢
      clear hs7 hs8 hs9 hs78 hs79 hs10 hle10 hn10 fb2 hbl6
      (repeat ((fail_if_success (with_reducible refine Go.at_region ?_)); go_step))
      refine draw_all (by kernel_rfl) (by kernel_rfl) (by kernel_rfl) ?_
      iterate 3 (apply calm_on rfl; (focus (intro W hB; go_simp; exact ⟨rfl, Below.refl _ _⟩)); simp only [Act.put, pvA, pv0, pv1])
      (refine calm_whole rfl _ _ rfl _ rfl _ _ kb7.out gPe (iPe p) ?_; simp only [Act.put, pvA, pv0, pv1])
      (refine calm_whole rfl _ _ rfl _ rfl _ _ kb2.out gPr (iPr p) ?_; simp only [Act.put, pvA, pv0, pv1])
      (apply calm_on rfl; (focus (intro W hB; go_simp; refine (cOw.out W).mono ?_; rintro _ _ ⟨rfl, hb'⟩; exact ⟨rfl, hb'⟩)); simp only [Act.put, pvA, pv0, pv1])
      iterate 3 (apply calm_on rfl; (focus (intro W hB; go_simp; exact ⟨rfl, Below.refl _ _⟩)); simp only [Act.put, pvA, pv0, pv1])
      (apply calm_on rfl; (focus (intro W hB; go_simp; refine (cA.out W).mono ?_; rintro _ _ ⟨rfl, hb'⟩; exact ⟨rfl, hb'⟩)); simp only [Act.put, pvA, pv0, pv1])
      iterate 2 (apply calm_on rfl; (focus (intro W hB; go_simp; exact ⟨rfl, Below.refl _ _⟩)); simp only [Act.put, pvA, pv0, pv1])
      refine calm_nil ?_
      intro w12 hs12
      (try dsimp only)
      (repeat ((fail_if_success (with_reducible refine Go.at_region ?_)); go_step))
      go_ret
      exact ⟨rfl, hbl11.trans (hs12.mono hbl11.size)⟩
    · have ho2 : onB p = false := by simpa using ho
      rw [ho2] at cOp
      clear ho ho2 hback
      ((repeat ((fail_if_success (with_reducible refine Go.at_region ?_)); go_step)); refine wp_region_lit ?_)
      (refine wpList_get _ _ rfl rfl _ rfl _ _ gb2.out gPr (iPr p) ?_; simp only [Act.put, pvA, pv0, pv1])
      (refine wpList_plain rfl fun K hK => ?_; go_simp; refine (cOw.out _).mono ?_; rintro _ w5 ⟨rfl, hs5⟩; refine hK _ _ ?_; clear hK K; (try simp only [Act.put, pvA, pv0, pv1]))
      (refine wpList_plain rfl fun K hK => ?_; go_simp; refine (cOp.out _).mono ?_; rintro _ w6 ⟨rfl, hs6⟩; refine hK _ _ ?_; clear hK K; (try simp only [Act.put, pvA, pv0, pv1]))
      (refine wpList_plain rfl fun K hK => ?_; go_simp; refine hK _ _ ?_; clear hK K; (try simp only [Act.put, pvA, pv0, pv1]))
      refine wpList_nil ?_
      ((repeat ((fail_if_success (with_reducible refine Go.at_region ?_)); go_step)); refine wp_region_lit ?_)
      (refine wpList_plain rfl fun K hK => ?_; go_simp; refine (cA.out _).mono ?_; rintro _ w7 ⟨rfl, hs7⟩; refine hK _ _ ?_; clear hK K; (try simp only [Act.put, pvA, pv0, pv1]))
      (refine wpList_plain rfl fun K hK => ?_; go_simp; refine hK _ _ ?_; clear hK K; (try simp only [Act.put, pvA, pv0, pv1]))
      refine wpList_nil ?_
      (repeat ((fail_if_success (with_reducible refine Go.at_region ?_)); go_step))
      go_ret
      have h1 := hs5.trans (hs6.mono hs5.size)
      have h2 := h1.trans (hs7.mono h1.size)
      exact ⟨rfl, hbl4.trans (h2.mono hbl4.size)⟩
  · clear cO cE
    (repeat ((fail_if_success (with_reducible refine Go.at_region ?_)); go_step))
    refine draw_all (by kernel_rfl) (by kernel_rfl) (by kernel_rfl) ?_
    iterate 3 (apply calm_on rfl; (focus (intro W hB; go_simp; exact ⟨rfl, Below.refl _ _⟩)); simp only [Act.put, pvA, pv0, pv1])
    iterate 9 (refine calm_off rfl ?_; simp only [Act.put, pvA, pv0, pv1])
    iterate 5 (apply calm_on rfl; (focus (intro W hB; go_simp; exact ⟨rfl, Below.refl _ _⟩)); simp only [Act.put, pvA, pv0, pv1])
    (refine calm_whole rfl _ _ rfl _ rfl _ _ fb5.out gPe (iPe zeroP) ?_; simp only [Act.put, pvA, pv0, pv1])
    (refine calm_build rfl 44 _ rfl (cellsP zeroP) (by first | (simp only [List.map_toArray, List.map_cons, List.map_nil]; exact bzPe) | exact bzPe) ?_; simp only [Act.put, pvA, pv0, pv1])
    iterate 3 (apply calm_on rfl; (focus (intro W hB; go_simp; exact ⟨rfl, Below.refl _ _⟩)); simp only [Act.put, pvA, pv0, pv1])
    refine calm_nil ?_
    intro w4 hs4
    (try dsimp only)
    have gb2 := hid (fb2.out.step hs4)
    have hbl4 := hbl3.trans (hs4.mono hbl3.size)
    clear fb2 fb3 fb5 hbl3 hs4
    by_cases ho : onB p = true
    · obtain ⟨q1, q2⟩ := hback.out ho
      rw [ho] at cOp
      rw [q1, q2] at cDp
      clear q1 q2 hback ho
      obtain ⟨K, hK⟩ : ∃ K, K = encL p := ⟨_, rfl⟩
      rw [← hK] at cEp cDp
      clear hK
      ((repeat ((fail_if_success (with_reducible refine Go.at_region ?_)); go_step)); refine wp_region_lit ?_)
      (refine wpList_get _ _ rfl rfl _ rfl _ _ gb2.out gPr (iPr p) ?_; simp only [Act.put, pvA, pv0, pv1])
      (refine wpList_plain rfl fun K hK => ?_; go_simp; refine (cOw.out _).mono ?_; rintro _ w5 ⟨rfl, hs5⟩; refine hK _ _ ?_; clear hK K; (try simp only [Act.put, pvA, pv0, pv1]))
      (refine wpList_plain rfl fun K hK => ?_; go_simp; refine (cOp.out _).mono ?_; rintro _ w6 ⟨rfl, hs6⟩; refine hK _ _ ?_; clear hK K; (try simp only [Act.put, pvA, pv0, pv1]))
      (refine wpList_plain rfl fun K hK => ?_; go_simp; refine hK _ _ ?_; clear hK K; (try simp only [Act.put, pvA, pv0, pv1]))
      refine wpList_nil ?_
      have fb2 := hid ((gb2.out.step hs5).step hs6)
      have hbl6 := hbl4.trans ((hs5.trans (hs6.mono hs5.size)).mono hbl4.size)
      clear gb2 hs5 hs6 hbl4
      ((repeat ((fail_if_success (with_reducible refine Go.at_region ?_)); go_step)); refine wp_region_lit ?_)
      (refine wpList_get _ _ rfl rfl _ rfl _ _ fb2.out gPr (iPr p) ?_; simp only [Act.put, pvA, pv0, pv1])
      (refine wpList_plain rfl fun K hK => ?_; go_simp; refine (cOw.out _).mono ?_; rintro _ w7 ⟨rfl, hs7⟩; refine hK _ _ ?_; clear hK K; (try simp only [Act.put, pvA, pv0, pv1]))
      (refine wpList_plain rfl fun K hK => ?_; go_simp; refine (cEp.out _).mono ?_; rintro _ w8 ⟨rfl, hs8⟩; refine hK _ _ ?_; clear hK K; (try simp only [Act.put, pvA, pv0, pv1]))
      (refine wpList_plain rfl fun K hK => ?_; go_simp; refine (cDp.out _).mono ?_; rintro _ w9 ⟨rfl, hs9⟩; refine hK _ _ ?_; clear hK K; (try simp only [Act.put, pvA, pv0, pv1]))
      have hs78 := hs7.trans (hs8.mono hs7.size)
      have hs79 := hs78.trans (hs9.mono hs78.size)
      iterate 3 (refine wpList_plain rfl fun K hK => ?_; go_simp; refine hK _ _ ?_; clear hK K; (try simp only [Act.put, pvA, pv0, pv1]))
      (refine wpList_new 44 (cellsP zeroP) rfl rfl zPe ?_; intro G7 w10 hle10 hs10 hn10; (try simp only [Act.put, pvA, pv0, pv1]))
      (refine wpList_set _ _ _ rfl rfl rfl _ _ rfl rfl _ _ hn10 (iPe p) rfl (one_cellsP _) ?_)
      (refine wpList_plain rfl fun K hK => ?_; go_simp; refine hK _ _ ?_; clear hK K; (try simp only [Act.put, pvA, pv0, pv1]))
      refine wpList_nil ?_
      have n72 : w.heap.size ≠ G7 := by have := fb2.out.lt; have := hs79.size; omega
      have hG7 : w.heap.size ≤ G7 := by have := hbl6.size; have := hs79.size; omega
      have kb2 := hid (((fb2.out.step hs79).step hs10).other n72 (cellsP p))
      have kb7 := hid (hn10.set (cellsP p))
      have hbl11 := below_set (hbl6.trans ((hs79.trans (hs10.mono hs79.size)).mono hbl6.size)) G7 hG7 (cellsP p)
      generalize w10.setRow G7 (cellsP p) = w11 at kb2 kb7 hbl11 ⊢
      clear hs7 hs8 hs9 hs78 hs79 hs10 hle10 hn10 fb2 hbl6
      (repeat ((fail_if_success (with_reducible refine Go.at_region ?_)); go_step))
      refine draw_all (by kernel_rfl) (by kernel_rfl) (by kernel_rfl) ?_
      iterate 3 (apply calm_on rfl; (focus (intro W hB; go_simp; exact ⟨rfl, Below.refl _ _⟩)); simp only [Act.put, pvA, pv0, pv1])
      (refine calm_whole rfl _ _ rfl _ rfl _ _ kb7.out gPe (iPe p) ?_; simp only [Act.put, pvA, pv0, pv1])
      (refine calm_whole rfl _ _ rfl _ rfl _ _ kb2.out gPr (iPr p) ?_; simp only [Act.put, pvA, pv0, pv1])
      (apply calm_on rfl; (focus (intro W hB; go_simp; refine (cOw.out W).mono ?_; rintro _ _ ⟨rfl, hb'⟩; exact ⟨rfl, hb'⟩)); simp only [Act.put, pvA, pv0, pv1])
      iterate 3 (apply calm_on rfl; (focus (intro W hB; go_simp; exact ⟨rfl, Below.refl _ _⟩)); simp only [Act.put, pvA, pv0, pv1])
      (apply calm_on rfl; (focus (intro W hB; go_simp; refine (cA.out W).mono ?_; rintro _ _ ⟨rfl, hb'⟩; exact ⟨rfl, hb'⟩)); simp only [Act.put, pvA, pv0, pv1])
      iterate 2 (apply calm_on rfl; (focus (intro W hB; go_simp; exact ⟨rfl, Below.refl _ _⟩)); simp only [Act.put, pvA, pv0, pv1])
      refine calm_nil ?_
      intro w12 hs12
      (try dsimp only)
      (repeat ((fail_if_success (with_reducible refine Go.at_region ?_)); go_step))
      go_ret
      exact ⟨rfl, hbl11.trans (hs12.mono hbl11.size)⟩
    · have ho2 : onB p = false := by simpa using ho
      rw [ho2] at cOp
      clear ho ho2 hback
      ((repeat ((fail_if_success (with_reducible refine Go.at_region ?_)); go_step)); refine wp_region_lit ?_)
      (refine wpList_get _ _ rfl rfl _ rfl _ _ gb2.out gPr (iPr p) ?_; simp only [Act.put, pvA, pv0, pv1])
      (refine wpList_plain rfl fun K hK => ?_; go_simp; refine (cOw.out _).mono ?_; rintro _ w5 ⟨rfl, hs5⟩; refine hK _ _ ?_; clear hK K; (try simp only [Act.put, pvA, pv0, pv1]))
      (refine wpList_plain rfl fun K hK => ?_; go_simp; refine (cOp.out _).mono ?_; rintro _ w6 ⟨rfl, hs6⟩; refine hK _ _ ?_; clear hK K; (try simp only [Act.put, pvA, pv0, pv1]))
      (refine wpList_plain rfl fun K hK => ?_; go_simp; refine hK _ _ ?_; clear hK K; (try simp only [Act.put, pvA, pv0, pv1]))
      refine wpList_nil ?_
      ((repeat ((fail_if_success (with_reducible refine Go.at_region ?_)); go_step)); refine wp_region_lit ?_)
      (refine wpList_plain rfl fun K hK => ?_; go_simp; refine (cA.out _).mono ?_; rintro _ w7 ⟨rfl, hs7⟩; refine hK _ _ ?_; clear hK K; (try simp only [Act.put, pvA, pv0, pv1]))
      (refine wpList_plain rfl fun K hK => ?_; go_simp; refine hK _ _ ?_; clear hK K; (try simp only [Act.put, pvA, pv0, pv1]))
      refine wpList_nil ?_
      (repeat ((fail_if_success (with_reducible refine Go.at_region ?_)); go_step))
      go_ret
      have h1 := hs5.trans (hs6.mono hs5.size)
      have h2 := h1.trans (hs7.mono h1.size)
      exact ⟨rfl, hbl4.trans (h2.mono hbl4.size)⟩
end Go.Proofs.Ytejnnghfelpioaa
