import Derived.Laws.IdiomStrings
import Derived.Test.YtejnnghfelpioaaGreatBEdPoints7
set_option maxRecDepth 4000
set_option linter.unusedVariables false
set_option linter.unusedSimpArgs false
namespace Go.Proofs.YtejnnghfelpioaaGreat
open Go.RowKit
theorem hashN_lt (yss : List (List (BitVec 8))) : hashN yss < 2 ^ 256 := Nat.lt_trans (Nat.mod_lt _ lN_pos) lN_lt
theorem rdz2 {w : World} {e : TypeId} {u v : Value} {x y : List (BitVec 8)} (h1 : RdY w u x) (h2 : RdY w v y) : RdZ (w.alloc (.cells #[u, v] e)) (.slice (some ⟨w.heap.size, 0, none⟩) 2 2) [x, y] := by
  have hb := below_alloc w (.cells #[u, v] e)
  have hn := Blk.new e w #[u, v]
  refine ⟨_, 2, rfl, Nat.le_refl _, fun _ => ⟨w.heap.size, 0, rfl, hn.lt, fun i hi => ?_⟩⟩
  match i, hi with
  | 0, _ => exact ⟨u, hn.cell 0 _ rfl, h1.below hb⟩
  | 1, _ => exact ⟨v, hn.cell 1 _ rfl, h2.below hb⟩
theorem rdz3 {w : World} {e : TypeId} {u v d : Value} {x y z : List (BitVec 8)} (h1 : RdY w u x) (h2 : RdY w v y) (h3 : RdY w d z) : RdZ (w.alloc (.cells #[u, v, d] e)) (.slice (some ⟨w.heap.size, 0, none⟩) 3 3) [x, y, z] := by
  have hb := below_alloc w (.cells #[u, v, d] e)
  have hn := Blk.new e w #[u, v, d]
  refine ⟨_, 3, rfl, Nat.le_refl _, fun _ => ⟨w.heap.size, 0, rfl, hn.lt, fun i hi => ?_⟩⟩
  match i, hi with
  | 0, _ => exact ⟨u, hn.cell 0 _ rfl, h1.below hb⟩
  | 1, _ => exact ⟨v, hn.cell 1 _ rfl, h2.below hb⟩
  | 2, _ => exact ⟨d, hn.cell 2 _ rfl, h3.below hb⟩
theorem blk_all {t : TypeId} {w : World} {g : Nat} {ys : List (BitVec 8)} (h : Blk t w g (cellsY ys)) {n : Nat} (hn : ys.length = n) : RdY w (.slice (some ⟨g, 0, none⟩) n n) ys := by
  have := blk_rd h 0 n n (by omega) (Nat.le_refl _)
  rw [List.drop_zero, List.take_of_length_le (by omega)] at this; exact this
theorem sec_rd {t : TypeId} {w : World} {g : Nat} {a : Nat} {v : Value} {k : List (BitVec 8)} (h : Blk t w g (secC a v k)) {n : Nat} (hn : k.length = n) : RdY w (.slice (some ⟨g, 5, none⟩) n n) k :=
  ⟨_, n, by rw [hn], by omega, fun _ => ⟨g, 5, rfl, h.lt, fun j hj => h.cell (5 + j) _ (secC_key _ _ _ j _ (by simp [cellsY, ny, hj]))⟩⟩
theorem setPart_kv (xs ys : List (BitVec 8)) (o : Nat) : setPart (cellsY xs) o (kvL ys).toArray = cellsY (xs.take o ++ ys ++ xs.drop (o + ys.length)) := by
  unfold setPart cellsY kvL
  simp [List.map_take, List.map_drop]
theorem uPP : Tryz.prog.underlying 101 = some (.slice 41) := by kernel_rfl
theorem iPP : (Tryz.prog.info? 41).map (fun i => (i.zero, i.size)) = some (some (.slice none 0 0), 1) := by kernel_rfl
theorem oSl : oneT Tryz.prog 41 = true := by kernel_rfl
def zSig : List (BitVec 8) := List.replicate 64 0
theorem gSig : aggT Tryz.prog 45 = true := by kernel_rfl
theorem uSig : Tryz.prog.underlying 45 = some (.array 64 5) := by kernel_rfl
theorem iSig64 : (Tryz.prog.info? 45).map (·.size) = some 64 := by kernel_rfl
theorem iSg (ys : List (BitVec 8)) (h : ys.length = 64) : (Tryz.prog.info? 45).map (·.size) = some (cellsY ys).size := by rw [size_cellsY, h]; exact iSig64
theorem zSg : (Tryz.prog.info? 45).bind (·.zero) = some (.agg (cellsY zSig)) := by kernel_rfl
def sigR (m msg : List (BitVec 8)) : List (BitVec 8) := encL (mulP (hashN [opB m, msg]) baseP)
def sigN (m msg : List (BitVec 8)) : Nat := (hashN [opB m, msg] + hashN [sigR m msg, opK m, msg] * opA m % lN) % lN
def sigL (m msg : List (BitVec 8)) : List (BitVec 8) := if m.length = 32 then sigR m msg ++ leL (sigN m msg % pN) else zSig
theorem opA_lt (m : List (BitVec 8)) : opA m < 2 ^ 256 := by
  unfold opA; split
  · exact leN_lt _ (by rw [List.length_take]; omega)
  · decide
theorem kv_one (ys : List (BitVec 8)) : ∀ v ∈ kvL ys, v.oneCell' = true := by
  intro v hv; unfold kvL at hv; simp at hv; obtain ⟨_, _, rfl⟩ := hv; rfl
theorem kv_src {t : TypeId} {w : World} {g : Nat} {ys : List (BitVec 8)} (h : Blk t w g (cellsY ys)) : ∀ j v, (kvL ys)[j]? = some v → w.cell? ((⟨g, 0, none⟩ : Addr).add j) = some v := fun j v hv => by
  rw [add_off]; exact h.cell (0 + j) v (by rw [Nat.zero_add, cellsY_kv]; simpa using hv)
theorem kv_rd {w : World} {b off n c : Nat} {ys : List (BitVec 8)} (h : RdY w (.slice (some ⟨b, off, none⟩) n c) ys) : ∀ j v, (kvL ys)[j]? = some v → w.cell? ((⟨b, off, none⟩ : Addr).add j) = some v := fun j v hv => by
  rw [add_off]; exact h.cells j v (by rw [cellsY_kv]; simpa using hv)
set_option maxRecDepth 100000 in
set_option maxHeartbeats 8000000 in
theorem sign_any (m msg : List (BitVec 8)) (vs vm : Value) (w : World) (hr : RdY w vs m) (hm : RdY w vm msg) (hl : msg.length ≤ 140737488351232) : Calls Tryz.prog 16 #[vs, vm] w fun e w' => e = .returned (.tuple #[.agg (cellsY (sigL m msg)), .int .i64 (opE m)]) ∧ Below w.heap.size w w' := by
  have hO := hid fun w h => eopened_any m vs w h
  have HM := hid hm
  have hvm := one_v hm
  have lK := hid (opK_len m)
  have hAl := opA_lt m
  have hBl : (opB m).length ≤ 32 := by
    unfold opB; split
    · unfold seedB seedL; rw [List.length_drop, List.length_set, List.length_set, shaL_len]; decide
    · simp
  have hE01 : (m.length = 32 ∧ opE m = 0) ∨ (sigL m msg = zSig ∧ opE m ≠ 0) := by
    by_cases h : m.length = 32
    · exact .inl ⟨h, by unfold opE; rw [if_pos h]⟩
    · exact .inr ⟨by unfold sigL; rw [if_neg h], by unfold opE; rw [if_neg h]; decide⟩
  have hSg := hid fun (h : m.length = 32) => show sigL m msg = sigR m msg ++ leL (sigN m msg % pN) by unfold sigL; rw [if_pos h]
  have hRd := hid (show sigR m msg = encL (mulP (hashN [opB m, msg]) baseP) from rfl)
  have hNd := hid (show sigN m msg = (hashN [opB m, msg] + hashN [sigR m msg, opK m, msg] * opA m % lN) % lN from rfl)
  have HS := hid (show sigL m msg = sigL m msg from rfl)
  obtain ⟨w0, hw0, k1, hbl0⟩ := entry1 w 45 (cellsY zSig)
  have hb4 := hid k1
  have HR0 := hid (hr.below hbl0)
  clear k1 hr hm
  obtain ⟨K, hK⟩ : ∃ K, K = opK m := ⟨_, rfl⟩
  obtain ⟨A, hA⟩ : ∃ A, A = opA m := ⟨_, rfl⟩
  obtain ⟨E, hE⟩ : ∃ E, E = opE m := ⟨_, rfl⟩
  obtain ⟨B, hB⟩ : ∃ B, B = opB m := ⟨_, rfl⟩
  rw [← hK, ← hA, ← hE, ← hB] at hO
  rw [← hK] at lK
  rw [← hK, ← hA, ← hB] at hNd
  rw [← hB] at hRd hBl
  rw [← hA] at hAl
  rw [← hE] at hE01 ⊢
  clear hK hA hE hB HS
  go_enter Tryz.func16, Tryz.ntmps16
  ((repeat ((fail_if_success (with_reducible refine Go.at_region ?_)); go_step)); refine wp_region_lit ?_)
  (refine wpList_alloc_new rfl 45 rfl (cellsY zSig) zSg ?_; simp only [Act.put, pvA, pv0, pv1]; (try simp only [World.size_alloc]))
  (refine wpList_plain rfl fun K hK => ?_; go_simp; refine hK _ _ ?_; clear hK K; (try simp only [Act.put, pvA, pv0, pv1]))
  refine wpList_nil ?_
  rw [← hw0]
  clear hw0
  ((repeat ((fail_if_success (with_reducible refine Go.at_region ?_)); go_step)); refine wp_region_lit ?_)
  (refine wpList_plain rfl fun K hK => ?_; go_simp; refine hK _ _ ?_; clear hK K; (try simp only [Act.put, pvA, pv0, pv1]))
  (refine wpList_plain rfl fun K hK => ?_; go_simp; refine (hO.out _ HR0.out).mono ?_; rintro _ w1 ⟨v', rfl, hR1, hs1⟩; refine hK _ _ ?_; clear hK K; (try simp only [Act.put, pvA, pv0, pv1]))
  iterate 3 (refine wpList_plain rfl fun K hK => ?_; go_simp; refine hK _ _ ?_; clear hK K; (try simp only [Act.put, pvA, pv0, pv1]))
  have iS := hid (iSec A v' K lK.out)
  have h1v := one_v hR1
  have nS := hid (one_secC A v' K h1v)
  (refine wpList_new 79 (secC 0 (.slice none 0 0) zKey) rfl rfl zSec ?_; intro G6 w2 hle2 hs2 hn2; (try simp only [Act.put, pvA, pv0, pv1]))
  (refine wpList_set 79 (.tmp 6) (.tmp 13) rfl rfl rfl G6 (secC A v' K) rfl rfl 79 (secC 0 (.slice none 0 0) zKey) hn2 iS.out (by rw [secC_size, secC_size, lK.out]; rfl) nS.out ?_)
  (refine wpList_plain rfl fun K hK => ?_; go_simp; refine hK _ _ ?_; clear hK K; (try simp only [Act.put, pvA, pv0, pv1]))
  refine wpList_nil ?_
  have n46 : w.heap.size ≠ G6 := by have := hb4.out.lt; have := hs1.size; omega
  have hG6 : w.heap.size ≤ G6 := by have := hbl0.size; have := hs1.size; omega
  have fb4 := hid (((hb4.out.step hs1).step hs2).other n46 (secC A v' K))
  have fb6 := hid (hn2.set (secC A v' K))
  have hbl3 := below_set (hbl0.trans ((hs1.trans (hs2.mono hs1.size)).mono hbl0.size)) G6 hG6 (secC A v' K)
  have hB := hid hR1
  have hbs := below_set hs2 G6 hle2 (secC A v' K)
  generalize w2.setRow G6 (secC A v' K) = w3 at fb4 fb6 hbl3 hbs ⊢
  clear hs2 hn2 hle2 hb4 hbl0 HR0 hO hR1
  rcases hE01 with ⟨hm32, hE0⟩ | ⟨hz, hE1⟩
  · subst hE0
    ((repeat ((fail_if_success (with_reducible refine Go.at_region ?_)); go_step)); refine wp_region_lit ?_)
    iterate 2 (refine wpList_plain rfl fun K hK => ?_; go_simp; refine hK _ _ ?_; clear hK K; (try simp only [Act.put, pvA, pv0, pv1]))
    refine wpList_nil ?_
    have HB3 := hid (hB.out.below hbs)
    have cv := fb6.out.cell 4 v' rfl
    have hH1 := hid fun (v : Value) (w : World) (h : RdZ w v [B, msg]) => hashed_any [B, msg] v w h (by simp) (by simp; omega)
    obtain ⟨r, hr⟩ : ∃ r, r = hashN [B, msg] := ⟨_, rfl⟩
    have hrl : r < 2 ^ 256 := by rw [hr]; exact hashN_lt _
    rw [← hr] at hH1 hRd hNd
    clear hr
    unfold wd at hH1
    have iR := hid (iW r)
    ((repeat ((fail_if_success (with_reducible refine Go.at_region ?_)); go_step)); refine wp_region_lit ?_)
    (refine wpList_plain rfl fun K hK => ?_; go_simp; refine hK _ _ ?_; clear hK K; (try simp only [Act.put, pvA, pv0, pv1]))
    (refine wpList_getcell 41 (.tmp 19) rfl rfl G6 4 rfl v' cv oSl ?_; simp only [Act.put, pvA, pv0, pv1])
    (refine wpList_plain rfl fun K hK => ?_; go_simp; refine hK _ _ ?_; clear hK K; (try simp only [Act.put, pvA, pv0, pv1]))
    (refine wpList_plain rfl fun K hK => wp_ones2 v' vm rfl rfl rfl uPP iPP rfl h1v hvm ?_; refine hK _ _ ?_; clear hK K; simp only [Act.put, pvA, pv0, pv1])
    have hz2 := rdz2 (e := 41) HB3.out (HM.out.below hbl3)
    have hsz := below_alloc w3 (.cells #[v', vm] 41)
    (refine wpList_plain rfl fun K hK => ?_; go_simp; refine (hH1.out _ _ hz2).mono ?_; rintro _ w4 ⟨rfl, hs4⟩; refine hK _ _ ?_; clear hK K; (try simp only [Act.put, pvA, pv0, pv1]))
    have hs34 := hsz.trans (hs4.mono hsz.size)
    clear hz2 hsz hs4 cv
    (refine wpList_new 24 (cellsW 0) rfl rfl zWd ?_; intro G7 w5 hle5 hs5 hn5; (try simp only [Act.put, pvA, pv0, pv1]))
    (refine wpList_set 24 (.tmp 7) (.tmp 23) rfl rfl rfl G7 (cellsW r) rfl rfl 24 (cellsW 0) hn5 iR.out (by rw [size_cellsW, size_cellsW]) (one_cellsW _) ?_)
    refine wpList_nil ?_
    have n47 : w.heap.size ≠ G7 := by have := fb4.out.lt; have := hs34.size; omega
    have n67 : G6 ≠ G7 := by have := fb6.out.lt; have := hs34.size; omega
    have hG7 : w.heap.size ≤ G7 := by have := hbl3.size; have := hs34.size; omega
    have gb4 := hid (((fb4.out.step hs34).step hs5).other n47 (cellsW r))
    have gb6 := hid (((fb6.out.step hs34).step hs5).other n67 (cellsW r))
    have gb7 := hid (hn5.set (cellsW r))
    have hbl6 := below_set (hbl3.trans ((hs34.trans (hs5.mono hs34.size)).mono hbl3.size)) G7 hG7 (cellsW r)
    generalize w5.setRow G7 (cellsW r) = w6 at gb4 gb6 gb7 hbl6 ⊢
    clear hs34 hs5 hle5 hn5 fb4 fb6 hbl3 hbs hH1 HB3 hB
    have cB := hid fun w => base_any w
    have cM := hid fun w => mul_any r baseP w ⟨bsxN_lt, bsyN_lt⟩
    have cE := hid fun w => enc_any (mulP r baseP) w (mulP_lt _ _)
    have lR := hid (show (encL (mulP r baseP)).length = 32 from encL_len _)
    obtain ⟨R, hR⟩ : ∃ R, R = encL (mulP r baseP) := ⟨_, rfl⟩
    rw [← hR] at cE lR hRd
    clear hR
    generalize mulP r baseP = pk at cM cE
    generalize baseP = pb at cB cM
    unfold pt at cB cM cE
    unfold wd at cM
    unfold key at cE
    have iR32 := hid (iK R lR.out)
    (repeat ((fail_if_success (with_reducible refine Go.at_region ?_)); go_step))
    refine draw_new1 4 _ rfl 28 (cellsY zKey) 8 rfl rfl rfl (by simp) zK (by kernel_rfl) (by kernel_rfl) (by kernel_rfl) ?_
    simp only [List.take_succ_cons, List.take_zero]
    (refine calm_whole rfl 24 (.tmp 7) rfl G7 rfl 24 (cellsW r) gb7.out gWd iR.out ?_; simp only [Act.put, pvA, pv0, pv1])
    (apply calm_on rfl; (focus (intro W hB; go_simp; refine (cB.out W).mono ?_; rintro _ _ ⟨rfl, hb'⟩; exact ⟨rfl, hb'⟩)); simp only [Act.put, pvA, pv0, pv1])
    (apply calm_on rfl; (focus (intro W hB; go_simp; refine (cM.out W).mono ?_; rintro _ _ ⟨rfl, hb'⟩; exact ⟨rfl, hb'⟩)); simp only [Act.put, pvA, pv0, pv1])
    (apply calm_on rfl; (focus (intro W hB; go_simp; refine (cE.out W).mono ?_; rintro _ _ ⟨rfl, hb'⟩; exact ⟨rfl, hb'⟩)); simp only [Act.put, pvA, pv0, pv1])
    refine calm_nil ?_
    intro G8 w8 hle8 hx8 hn8
    simp only [List.drop_succ_cons, List.drop_zero]
    (try simp only [Act.put, pvA, pv0, pv1])
    (refine wpList_set 28 (.tmp 8) (.tmp 27) rfl rfl rfl G8 (cellsY R) rfl rfl 28 (cellsY zKey) hn8 iR32.out (by rw [size_cellsY, size_cellsY, lR.out]; rfl) (one_cellsY _) ?_)
    refine wpList_nil ?_
    have n48 : w.heap.size ≠ G8 := by have := gb4.out.lt; omega
    have n68 : G6 ≠ G8 := by have := gb6.out.lt; omega
    have n78 : G7 ≠ G8 := by have := gb7.out.lt; omega
    have hG8 : w.heap.size ≤ G8 := by have := hbl6.size; omega
    have fb4 := hid ((gb4.out.step hx8).other n48 (cellsY R))
    have fb6 := hid ((gb6.out.step hx8).other n68 (cellsY R))
    have fb7 := hid ((gb7.out.step hx8).other n78 (cellsY R))
    have fb8 := hid (hn8.set (cellsY R))
    have hbl9 := below_set (hbl6.trans (hx8.mono hbl6.size)) G8 hG8 (cellsY R)
    generalize w8.setRow G8 (cellsY R) = w9 at fb4 fb6 fb7 fb8 hbl9 ⊢
    clear gb4 gb6 gb7 hx8 hle8 hn8 hbl6 cB cM cE
    have hH2 := hid fun (v : Value) (w : World) (h : RdZ w v [R, K, msg]) => hashed_any [R, K, msg] v w h (by simp) (by simp; rw [lR.out, lK.out]; omega)
    rw [hRd.out] at hNd
    have hA0 := hAl
    obtain ⟨h, hh⟩ : ∃ h, h = hashN [R, K, msg] := ⟨_, rfl⟩
    have hhl : h < 2 ^ 256 := by rw [hh]; exact hashN_lt _
    rw [← hh] at hH2 hNd
    have cL := hid fun w => lmul_any h A w hhl hA0
    have cA := hid fun w => ladd_any r (h * A % lN) w hrl (Nat.lt_trans (Nat.mod_lt _ lN_pos) lN_lt)
    obtain ⟨n, hn⟩ : ∃ n, n = sigN m msg := ⟨_, rfl⟩
    rw [← hNd.out, ← hn] at cA
    have hnl : n < 2 ^ 256 := by rw [hn, hNd.out]; exact Nat.lt_trans (Nat.mod_lt _ lN_pos) lN_lt
    have cY := hid fun w => fbytes_any n w hnl
    have Hn := hid hn
    clear hh hn hNd hhl hA0
    generalize h * A % lN = l at cL cA
    unfold wd at hH2 cL cA cY
    have iN := hid (iW n)
    have HM9 := hid (HM.out.below hbl9)
    have sl28 : ∀ (b off : Nat) (w : World), (Instr.sliceAt 28 (.pointer (some ⟨b, off, none⟩)) none none none).run Tryz.prog w = .ok (.slice (some ⟨b, off, none⟩) 32 32) w := fun b off w => sl_all uK sY1 b off w
    (repeat ((fail_if_success (with_reducible refine Go.at_region ?_)); go_step))
    (refine wp_region_loose_tail 12 [.kn (.agg (cellsW r)), .kn (.slice (some ⟨G8, 0, none⟩) 32 32), .kn (.pointer (some ⟨G6, 5, none⟩)), .kn (.slice (some ⟨G6, 5, none⟩) 32 32), .kn vm, .lo (fun v w => RdZ w v [R, K, msg]), .kn (.agg (cellsW h)), .kn (.pointer (some ⟨G6, 0, none⟩)), .kn (.agg (cellsW A)), .kn (.agg (cellsW l)), .kn (.agg (cellsW n)), .lo (newR w9 24 (cellsW 0))] (by kernel_rfl) (by kernel_rfl) (by kernel_rfl) (by first | exact trivial | ((repeat (first | refine keepsAll_kn ?_ | (refine keepsAll_lo (fun v w w' h hb => ?_) ?_; first | exact RdN.below h hb | exact RdL.below h hb | exact RdY.below h hb | exact PtY.below h hb | exact RdZ.below h hb | exact newR_keeps _ _ _ h hb))); exact trivial)) ?_; simp only [List.take_succ_cons, List.take_zero, List.drop_succ_cons, List.drop_zero])
    (refine loose_part rfl 24 (.tmp 7) rfl G7 0 rfl 24 (cellsW r) (cellsW r) fb7.out (fun j v h => by rw [Nat.zero_add]; exact h) gWd iR.out rfl ?_; simp only [Act.put, pvA, pv0, pv1])
    iterate 3 (refine loose_step_on rfl (fun W' hB' hd K hK => ?_) ?_; (focus (clear hd; go_simp; exact hK _ _ (Below.refl _ _) rfl)); rintro _ rfl; simp only [Act.put, pvA, pv0, pv1])
    (refine loose_move rfl (.tmp 1) (.inl rfl) rfl ?_; simp only [Act.put, pvA, pv0, pv1])
    (refine loose_step_on rfl (fun W' hB' hd Kt hK => ?_) ?_; (focus (skip; clear hd; refine wp_ones3 (.slice (some ⟨G8, 0, none⟩) 32 32) (.slice (some ⟨G6, 5, none⟩) 32 32) vm rfl rfl rfl rfl uPP iPP rfl rfl rfl hvm (hK _ _ (below_alloc _ _) ?_); exact rdz3 (blk_all (fb8.out.step hB') lR.out) (sec_rd (fb6.out.step hB') lK.out) (HM9.out.below hB'))); intro v33 _; simp only [Act.put, pvA, pv0, pv1])
    (refine loose_step_on rfl (fun W' hB' hd Kt hK => ?_) ?_; (focus (have g33 : RdZ W' v33 [R, K, msg] := hd ⟨5, Ground.data⟩ (by simp) rfl _ 33 rfl rfl (by simp); clear hd; go_simp; refine (hH2.out v33 _ g33).mono ?_; rintro _ _ ⟨rfl, hb'⟩; exact hK _ _ hb' rfl)); rintro _ rfl; simp only [Act.put, pvA, pv0, pv1])
    (refine loose_step_on rfl (fun W' hB' hd K hK => ?_) ?_; (focus (clear hd; go_simp; exact hK _ _ (Below.refl _ _) rfl)); rintro _ rfl; simp only [Act.put, pvA, pv0, pv1])
    (refine loose_part rfl 24 (.tmp 35) rfl G6 0 rfl 79 (secC A v' K) (cellsW A) fb6.out (secC_word A v' K) gWd (iW A) rfl ?_; simp only [Act.put, pvA, pv0, pv1])
    (refine loose_step_on rfl (fun W' hB' hd Kt hK => ?_) ?_; (focus (clear hd; go_simp; refine (cL.out _).mono ?_; rintro _ _ ⟨rfl, hb'⟩; exact hK _ _ hb' rfl)); rintro _ rfl; simp only [Act.put, pvA, pv0, pv1])
    (refine loose_step_on rfl (fun W' hB' hd Kt hK => ?_) ?_; (focus (clear hd; go_simp; refine (cA.out _).mono ?_; rintro _ _ ⟨rfl, hb'⟩; exact hK _ _ hb' rfl)); rintro _ rfl; simp only [Act.put, pvA, pv0, pv1])
    (refine loose_new rfl rfl rfl zWd ?_; intro v9; simp only [Act.put, pvA, pv0, pv1])
    intro w10 hs10 hf
    have g9 : newR w9 24 (cellsW 0) v9 w10 := hf 11 _ 9 (by first | omega | simp) rfl rfl (by simp)
    obtain ⟨G9, rfl, hn9, hle9⟩ := g9
    (try simp only [List.drop_succ_cons, List.drop_zero])
    have n49 : w.heap.size ≠ G9 := by have := fb4.out.lt; omega
    have n89 : G8 ≠ G9 := by have := fb8.out.lt; omega
    have hG9 : w.heap.size ≤ G9 := by have := hbl9.size; omega
    (refine wpList_set 24 (.tmp 9) (.tmp 38) rfl rfl rfl G9 (cellsW n) rfl rfl 24 (cellsW 0) hn9 iN.out (by rw [size_cellsW, size_cellsW]) (one_cellsW _) ?_)
    refine wpList_nil ?_
    have gb4 := hid ((fb4.out.step hs10).other n49 (cellsW n))
    have gb8 := hid ((fb8.out.step hs10).other n89 (cellsW n))
    have gb9 := hid (hn9.set (cellsW n))
    have hbl11 := below_set (hbl9.trans (hs10.mono hbl9.size)) G9 hG9 (cellsW n)
    generalize w10.setRow G9 (cellsW n) = w11 at gb4 gb8 gb9 hbl11 ⊢
    clear fb4 fb6 fb7 fb8 hs10 hn9 hle9 hbl9 hf HM9 cL cA hH2
    have sl39 : ∀ (b : Nat) (w : World), (Instr.sliceAt 45 (.pointer (some ⟨b, 0, none⟩)) none none none).run Tryz.prog w = .ok (.slice (some ⟨b, 0, none⟩) 64 64) w := fun b w => sl_all uSig sY1 b 0 w
    (repeat ((fail_if_success (with_reducible refine Go.at_region ?_)); go_step))
    refine draw_tail 2 (by kernel_rfl) (by kernel_rfl) (by kernel_rfl) ?_
    simp only [List.take_succ_cons, List.take_zero]
    iterate 2 (apply calm_on rfl; (focus (intro W hB; go_simp; exact ⟨rfl, Below.refl _ _⟩)); simp only [Act.put, pvA, pv0, pv1])
    refine calm_nil ?_
    intro w12 hs12
    simp only [List.drop_succ_cons, List.drop_zero]
    have kb4 := gb4.out.step hs12
    have kb8 := gb8.out.step hs12
    have kb9 := gb9.out.step hs12
    have hbl12 := hbl11.trans (hs12.mono hbl11.size)
    (refine wpList_copy_row rfl (.tmp 39) (.tmp 40) 41 41 rfl 5 w.heap.size 0 64 64 rfl ⟨G8, 0, none⟩ 32 32 rfl (cellsY zSig) 45 (kvL R) uYs sY1 kb4 (by rw [kvL_len, lR.out]; rfl) (kv_src kb8) (by rw [kvL_len, lR.out, size_cellsY]; decide) (kv_one R) ?_; simp only [Act.put, pvA, pv0, pv1])
    refine wpList_nil ?_
    rw [setPart_kv, show zSig.take 0 ++ R ++ zSig.drop (0 + R.length) = R ++ zY 32 by rw [lR.out]; rfl]
    have hb4 := hid (kb4.set (cellsY (R ++ zY 32)))
    have hb9 := hid (kb9.other (b := w.heap.size) (by omega) (cellsY (R ++ zY 32)))
    have hbl13 := below_set hbl12 w.heap.size (Nat.le_refl _) (cellsY (R ++ zY 32))
    generalize w12.setRow w.heap.size (cellsY (R ++ zY 32)) = w13 at hb4 hb9 hbl13 ⊢
    clear gb4 gb8 gb9 kb4 kb8 kb9 hs12 hbl12 hbl11 sl39
    have sl42 : ∀ (b : Nat) (w : World), (Instr.sliceAt 45 (.pointer (some ⟨b, 0, none⟩)) (some (.int .i64 32)) none none).run Tryz.prog w = .ok (.slice (some ⟨b, 32, none⟩) 32 32) w := fun b w => sl_from uSig sY1 32 (by decide) b 0 w
    (repeat ((fail_if_success (with_reducible refine Go.at_region ?_)); go_step))
    (refine wp_region_loose_tail 3 [.kn (.slice (some ⟨w.heap.size, 32, none⟩) 32 32), .kn (.agg (cellsW n)), .lo (fun v w => RdY w v (leL (n % pN)))] (by kernel_rfl) (by kernel_rfl) (by kernel_rfl) (by first | exact trivial | ((repeat (first | refine keepsAll_kn ?_ | (refine keepsAll_lo (fun v w w' h hb => ?_) ?_; first | exact RdN.below h hb | exact RdL.below h hb | exact RdY.below h hb | exact PtY.below h hb | exact RdZ.below h hb | exact newR_keeps _ _ _ h hb))); exact trivial)) ?_; simp only [List.take_succ_cons, List.take_zero, List.drop_succ_cons, List.drop_zero])
    (refine loose_step_on rfl (fun W' hB' hd K hK => ?_) ?_; (focus (clear hd; go_simp; exact hK _ _ (Below.refl _ _) rfl)); rintro _ rfl; simp only [Act.put, pvA, pv0, pv1])
    (refine loose_part rfl 24 (.tmp 9) rfl G9 0 rfl 24 (cellsW n) (cellsW n) hb9.out (fun j v h => by rw [Nat.zero_add]; exact h) gWd iN.out rfl ?_; simp only [Act.put, pvA, pv0, pv1])
    (refine loose_step_on rfl (fun W' hB' hd Kt hK => ?_) ?_; (focus (skip; clear hd; go_simp; refine (cY.out _).mono ?_; rintro _ _ ⟨v, rfl, hr, hb'⟩; exact hK _ _ hb' hr)); intro v44 _; simp only [Act.put, pvA, pv0, pv1])
    intro w14 hs14 hf
    have g44 : RdY w14 v44 (leL (n % pN)) := hf 2 _ 44 (by first | omega | simp) rfl rfl (by simp)
    (try simp only [List.drop_succ_cons, List.drop_zero])
    have lY := leL_len (n % pN)
    obtain ⟨B4, O4, C4, rfl, hc4, hlt4, hcl4⟩ := g44.open (by omega)
    rw [lY]
    have kb4 := hb4.out.step hs14
    have hbl14 := hbl13.trans (hs14.mono hbl13.size)
    have hzR : (R ++ zY 32).length = 64 := by rw [List.length_append, lR.out, zY_len]
    (refine wpList_copy_row rfl (.tmp 42) (.tmp 44) 41 41 rfl 5 w.heap.size 32 32 32 rfl ⟨B4, O4, none⟩ 32 C4 rfl (cellsY (R ++ zY 32)) 45 (kvL (leL (n % pN))) uYs sY1 kb4 (by rw [kvL_len, lY]; rfl) (kv_rd g44) (by rw [kvL_len, lY, size_cellsY, hzR]; decide) (kv_one _) ?_; simp only [Act.put, pvA, pv0, pv1])
    refine wpList_nil ?_
    rw [setPart_kv, show (R ++ zY 32).take 32 ++ leL (n % pN) ++ (R ++ zY 32).drop (32 + (leL (n % pN)).length) = R ++ leL (n % pN) by
      rw [lY, List.drop_eq_nil_of_le (by rw [hzR]; decide), List.append_nil, List.take_left' lR.out]]
    have lF : (R ++ leL (n % pN)).length = 64 := by rw [List.length_append, lR.out, lY]
    have hfin := hid (show sigL m msg = R ++ leL (n % pN) by rw [hSg.out hm32, hRd.out, ← Hn.out])
    obtain ⟨F, hF⟩ : ∃ F, F = R ++ leL (n % pN) := ⟨_, rfl⟩
    rw [← hF] at lF hfin ⊢
    clear hF
    have iF := hid (iSg F lF)
    have fb4 := hid (kb4.set (cellsY F))
    have hbl15 := below_set hbl14 w.heap.size (Nat.le_refl _) (cellsY F)
    generalize w14.setRow w.heap.size (cellsY F) = w15 at fb4 hbl15 ⊢
    clear hb4 hb9 kb4 hbl13 hs14 hf g44 hcl4 sl42
    ((repeat ((fail_if_success (with_reducible refine Go.at_region ?_)); go_step)); refine wp_region_lit ?_)
    (refine wpList_get 45 (.tmp 4) rfl rfl w.heap.size rfl 45 (cellsY F) fb4.out gSig iF.out ?_; simp only [Act.put, pvA, pv0, pv1])
    (refine wpList_set 45 (.tmp 4) (.tmp 46) rfl rfl rfl w.heap.size (cellsY F) rfl rfl 45 (cellsY F) fb4.out iF.out rfl (one_cellsY _) ?_)
    (refine wpList_plain rfl fun K hK => ?_; go_simp; refine hK _ _ ?_; clear hK K; (try simp only [Act.put, pvA, pv0, pv1]))
    refine wpList_nil ?_
    have kb := fb4.out.set (cellsY F)
    have hbe := below_set hbl15 w.heap.size (Nat.le_refl _) (cellsY F)
    (repeat ((fail_if_success (with_reducible refine Go.at_region ?_)); go_step))
    refine bodyPost_ret (results_row_tmp rfl _ _ w.heap.size 45 (cellsY F) (0, 0) _ rfl kb uSig rfl iF.out) rfl ⟨by rw [hfin.out]; rfl, hbe⟩
  · ((repeat ((fail_if_success (with_reducible refine Go.at_region ?_)); go_step)); refine wp_region_lit ?_)
    iterate 2 (refine wpList_plain rfl fun K hK => ?_; go_simp; refine hK _ _ ?_; clear hK K; (try simp only [Act.put, pvA, pv0, pv1]))
    refine wpList_nil ?_
    ((repeat ((fail_if_success (with_reducible refine Go.at_region ?_)); go_step)); refine wp_region_lit ?_)
    (refine wpList_get 45 (.tmp 4) rfl rfl w.heap.size rfl 45 (cellsY zSig) fb4.out gSig (iSg zSig rfl) ?_; simp only [Act.put, pvA, pv0, pv1])
    (refine wpList_plain rfl fun K hK => ?_; go_simp; refine hK _ _ ?_; clear hK K; (try simp only [Act.put, pvA, pv0, pv1]))
    (refine wpList_set 45 (.tmp 4) (.tmp 17) rfl rfl rfl w.heap.size (cellsY zSig) rfl rfl 45 (cellsY zSig) fb4.out (iSg zSig rfl) rfl (one_cellsY _) ?_)
    (refine wpList_plain rfl fun K hK => ?_; go_simp; refine hK _ _ ?_; clear hK K; (try simp only [Act.put, pvA, pv0, pv1]))
    refine wpList_nil ?_
    have kb := fb4.out.set (cellsY zSig)
    have hbe := below_set hbl3 w.heap.size (Nat.le_refl _) (cellsY zSig)
    (repeat ((fail_if_success (with_reducible refine Go.at_region ?_)); go_step))
    refine bodyPost_ret (results_row_tmp rfl _ _ w.heap.size 45 (cellsY zSig) (0, 0) _ rfl kb uSig rfl (iSg zSig rfl)) rfl ⟨by rw [hz]; rfl, hbe⟩
end Go.Proofs.YtejnnghfelpioaaGreat
namespace Go.Proofs.YtejnnghfelpioaaGreat
open Go.RowKit
theorem decP_lt (k : List (BitVec 8)) : LtP (decP k) := by
  unfold decP
  have hx : sqX (decA k) < 2 ^ 256 := by
    unfold sqX
    split
    · split
      · have := sq1_lt (decA k); have := pN_lt; omega
      · exact Nat.lt_trans (sq1_lt _) pN_lt
    · decide
  split
  · refine ⟨?_, fdN_lt _ _⟩
    show (if oddB k = true then subP 0 (sqX (decA k)) else sqX (decA k)) < 2 ^ 256
    split
    · exact p_mod_lt _
    · exact hx
  · exact zeroP_lt
def verN (s : List (BitVec 8)) : Nat := fdN lN (s.drop 32)
def verA (k : List (BitVec 8)) : P2 := ⟨subP 0 (decP k).x, (decP k).y⟩
theorem verA_lt (k : List (BitVec 8)) : LtP (verA k) := ⟨p_mod_lt _, (decP_lt k).y⟩
def verG (k msg s : List (BitVec 8)) : W4 := bothW (verN s) (widenW baseP) (hashN [s.take 32, k, msg]) (widenW (verA k))
def verX (k msg s : List (BitVec 8)) : Bool := decide (val5 (mul5 (fOf (decP (s.take 32)).x) (verG k msg s).z) % pN = val5 (verG k msg s).x % pN)
def verY (k msg s : List (BitVec 8)) : Bool := decide (val5 (mul5 (fOf (decP (s.take 32)).y) (verG k msg s).z) % pN = val5 (verG k msg s).y % pN)
def verOk (k s : List (BitVec 8)) : Bool := decide (fdE lN (s.drop 32) = 0) && (decide (decE k = 0) && decide (decE (s.take 32) = 0))
def verB (k msg s : List (BitVec 8)) : Bool := verOk k s && (verX k msg s && verY k msg s)
set_option maxRecDepth 100000 in
set_option maxHeartbeats 8000000 in
theorem verify_any (k msg s : List (BitVec 8)) (vm : Value) (w : World) (hk : k.length = 32) (hs : s.length = 64) (hm : RdY w vm msg) (hl : msg.length ≤ 140737488351232) : Calls Tryz.prog 18 #[key k, vm, .agg (cellsY s)] w fun e w' => e = .returned (.bool (verB k msg s)) ∧ Below w.heap.size w w' := by
  have HM := hid hm
  have hvm := one_v hm
  have lr : (s.take 32).length = 32 := by rw [List.length_take, hs]; rfl
  have ld : (s.drop 32).length = 32 := by rw [List.length_drop, hs]
  have cR := hid fun v w h => fLread_any (s.drop 32) v w h
  have cK := hid fun w => dec_any k w hk
  have cP := hid fun w => dec_any (s.take 32) w lr
  have hVB := hid (show verB k msg s = (verOk k s && (verX k msg s && verY k msg s)) from rfl)
  have hOk := hid (show verOk k s = (decide (fdE lN (s.drop 32) = 0) && (decide (decE k = 0) && decide (decE (s.take 32) = 0))) from rfl)
  have iKk := hid (iK k hk)
  have iSs := hid (iSg s hs)
  have iRr := hid (iK (s.take 32) lr)
  obtain ⟨w0, hw0, k1, k2, hbl0⟩ := entry2 w 28 (cellsY k) 45 (cellsY s)
  have hb3 := hid k1
  have hb5 := hid k2
  clear k1 k2 hm
  obtain ⟨n, hn⟩ : ∃ n, n = fdN lN (s.drop 32) := ⟨_, rfl⟩
  obtain ⟨en, hen⟩ : ∃ n, n = fdE lN (s.drop 32) := ⟨_, rfl⟩
  obtain ⟨ea, hea⟩ : ∃ n, n = decE k := ⟨_, rfl⟩
  obtain ⟨ep, hep⟩ : ∃ n, n = decE (s.take 32) := ⟨_, rfl⟩
  have hnl : n < 2 ^ 256 := by rw [hn]; exact fdN_lt _ _
  rw [← hn, ← hen] at cR
  rw [← hea] at cK
  rw [← hep] at cP
  rw [← hen, ← hea, ← hep] at hOk
  have Hn := hid hn
  clear hn hen hea hep
  unfold key pt at *
  unfold wd at cR
  have iN := hid (iW n)
  have hat : ∀ (b off cap : Nat) (w : World), (Instr.arrayAt 28 (.slice (some ⟨b, off, none⟩) 32 cap)).run Tryz.prog w = .ok (.pointer (some ⟨b, off, none⟩)) w := fun b off cap w => by
    unfold Instr.arrayAt
    rw [Sem.run_bind, run_underlying uK w]
    rfl
  have sl16 : ∀ (b : Nat) (w : World), (Instr.sliceAt 45 (.pointer (some ⟨b, 0, none⟩)) none (some (.int .i64 32)) none).run Tryz.prog w = .ok (.slice (some ⟨b, 0, none⟩) 32 64) w := fun b w => sl_to uSig sY1 32 (by decide) b 0 w
  have sl20 : ∀ (b : Nat) (w : World), (Instr.sliceAt 45 (.pointer (some ⟨b, 0, none⟩)) (some (.int .i64 32)) none none).run Tryz.prog w = .ok (.slice (some ⟨b, 32, none⟩) 32 32) w := fun b w => sl_from uSig sY1 32 (by decide) b 0 w
  go_enter Tryz.func18, Tryz.ntmps18
  ((repeat ((fail_if_success (with_reducible refine Go.at_region ?_)); go_step)); refine wp_region_lit ?_)
  (refine wpList_box 28 (.tmp 0) rfl rfl (cellsY k) rfl ?_; simp only [Act.put, pvA, pv0, pv1]; (try simp only [World.size_alloc]))
  (refine wpList_box 45 (.tmp 2) rfl rfl (cellsY s) rfl ?_; simp only [Act.put, pvA, pv0, pv1]; (try simp only [World.size_alloc]))
  (refine wpList_plain rfl fun K hK => ?_; go_simp; refine hK _ _ ?_; clear hK K; (try simp only [Act.put, pvA, pv0, pv1]))
  refine wpList_nil ?_
  rw [← hw0]
  clear hw0
  have hRt := hid (blk_rd hb5.out 0 32 64 (by rw [hs]; decide) (by decide))
  rw [List.drop_zero] at hRt
  have hRd := hid (blk_rd hb5.out 32 32 32 (by rw [hs]; decide) (by decide))
  rw [List.take_of_length_le (by rw [ld]; decide)] at hRd
  obtain ⟨r, hr⟩ : ∃ r, r = s.take 32 := ⟨_, rfl⟩
  rw [← hr] at hRt iRr cP lr
  have Hr := hid hr
  clear hr
  ((repeat ((fail_if_success (with_reducible refine Go.at_region ?_)); go_step)); refine wp_region_lit ?_)
  iterate 2 (refine wpList_plain rfl fun K hK => ?_; go_simp; refine hK _ _ ?_; clear hK K; (try simp only [Act.put, pvA, pv0, pv1]))
  (refine wpList_load_cells rfl 28 (.tmp 17) rfl (w.heap.size + 1) 0 rfl (cellsY r) hRt.out.cells gK iRr.out ?_; simp only [Act.put, pvA, pv0, pv1])
  (refine wpList_new 28 (cellsY zKey) rfl rfl zK ?_; intro G7 w1 hle1 hs1 hn1; (try simp only [Act.put, pvA, pv0, pv1]))
  (refine wpList_set 28 (.tmp 7) (.tmp 18) rfl rfl rfl G7 (cellsY r) rfl rfl 28 (cellsY zKey) hn1 iRr.out (by rw [size_cellsY, size_cellsY, lr]; rfl) (one_cellsY _) ?_)
  refine wpList_nil ?_
  have n73 : w.heap.size ≠ G7 := by have := hb3.out.lt; omega
  have n75 : w.heap.size + 1 ≠ G7 := by have := hb5.out.lt; omega
  have hG7 : w.heap.size ≤ G7 := by have := hbl0.size; omega
  have fb3 := hid ((hb3.out.step hs1).other n73 (cellsY r))
  have fb5 := hid ((hb5.out.step hs1).other n75 (cellsY r))
  have fb7 := hid (hn1.set (cellsY r))
  have hbl2 := below_set (hbl0.trans (hs1.mono hbl0.size)) G7 hG7 (cellsY r)
  generalize w1.setRow G7 (cellsY r) = w2 at fb3 fb5 fb7 hbl2 ⊢
  clear hs1 hle1 hn1 hb3 hb5 hbl0 hRt hRd sl16 hat
  have hRd := hid (blk_rd fb5.out 32 32 32 (by rw [hs]; decide) (by decide))
  rw [List.take_of_length_le (by rw [ld]; decide)] at hRd
  ((repeat ((fail_if_success (with_reducible refine Go.at_region ?_)); go_step)); refine wp_region_lit ?_)
  (refine wpList_plain rfl fun K hK => ?_; go_simp; refine hK _ _ ?_; clear hK K; (try simp only [Act.put, pvA, pv0, pv1]))
  (refine wpList_plain rfl fun K hK => ?_; go_simp; refine (cR.out _ _ hRd.out).mono ?_; rintro _ w3 ⟨rfl, hs3⟩; refine hK _ _ ?_; clear hK K; (try simp only [Act.put, pvA, pv0, pv1]))
  iterate 3 (refine wpList_plain rfl fun K hK => ?_; go_simp; refine hK _ _ ?_; clear hK K; (try simp only [Act.put, pvA, pv0, pv1]))
  (refine wpList_new 24 (cellsW 0) rfl rfl zWd ?_; intro G8 x4 hle4 hs4 hn4; (try simp only [Act.put, pvA, pv0, pv1]))
  (refine wpList_set 24 (.tmp 8) (.tmp 22) rfl rfl rfl G8 (cellsW n) rfl rfl 24 (cellsW 0) hn4 iN.out (by rw [size_cellsW, size_cellsW]) (one_cellsW _) ?_)
  (refine wpList_plain rfl fun K hK => ?_; go_simp; refine hK _ _ ?_; clear hK K; (try simp only [Act.put, pvA, pv0, pv1]))
  refine wpList_nil ?_
  have n83 : w.heap.size ≠ G8 := by have := fb3.out.lt; have := hs3.size; omega
  have n87 : G7 ≠ G8 := by have := fb7.out.lt; have := hs3.size; omega
  have hG8 : w.heap.size ≤ G8 := by have := hbl2.size; have := hs3.size; omega
  have gb3 := hid (((fb3.out.step hs3).step hs4).other n83 (cellsW n))
  have gb7 := hid (((fb7.out.step hs3).step hs4).other n87 (cellsW n))
  have gb8 := hid (hn4.set (cellsW n))
  have hbl5 := below_set (hbl2.trans ((hs3.trans (hs4.mono hs3.size)).mono hbl2.size)) G8 hG8 (cellsW n)
  generalize x4.setRow G8 (cellsW n) = w5 at gb3 gb7 gb8 hbl5 ⊢
  clear hs3 hle4 hs4 hn4 fb3 fb5 fb7 hbl2 hRd sl20 cR
  ((repeat ((fail_if_success (with_reducible refine Go.at_region ?_)); go_step)); refine wp_region_lit ?_)
  (refine wpList_get 28 (.tmp 3) rfl rfl w.heap.size rfl 28 (cellsY k) gb3.out gK iKk.out ?_; simp only [Act.put, pvA, pv0, pv1])
  (refine wpList_plain rfl fun K hK => ?_; go_simp; refine (cK.out _).mono ?_; rintro _ w6 ⟨rfl, hs6⟩; refine hK _ _ ?_; clear hK K; (try simp only [Act.put, pvA, pv0, pv1]))
  iterate 3 (refine wpList_plain rfl fun K hK => ?_; go_simp; refine hK _ _ ?_; clear hK K; (try simp only [Act.put, pvA, pv0, pv1]))
  obtain ⟨pa, hpa⟩ : ∃ p, p = decP k := ⟨_, rfl⟩
  have hpal : LtP pa := by rw [hpa]; exact decP_lt _
  rw [← hpa]
  have Hpa := hid hpa
  clear hpa
  (refine wpList_new 29 (cellsP zeroP) rfl rfl zPe ?_; intro G10 w7 hle7 hs7 hn7; (try simp only [Act.put, pvA, pv0, pv1]))
  (refine wpList_set 29 (.tmp 10) (.tmp 27) rfl rfl rfl G10 (cellsP pa) rfl rfl 29 (cellsP zeroP) hn7 (iPe pa) rfl (one_cellsP _) ?_)
  (refine wpList_plain rfl fun K hK => ?_; go_simp; refine hK _ _ ?_; clear hK K; (try simp only [Act.put, pvA, pv0, pv1]))
  refine wpList_nil ?_
  have nA3 : w.heap.size ≠ G10 := by have := gb3.out.lt; have := hs6.size; omega
  have nA7 : G7 ≠ G10 := by have := gb7.out.lt; have := hs6.size; omega
  have nA8 : G8 ≠ G10 := by have := gb8.out.lt; have := hs6.size; omega
  have hG10 : w.heap.size ≤ G10 := by have := hbl5.size; have := hs6.size; omega
  have fb3 := hid (((gb3.out.step hs6).step hs7).other nA3 (cellsP pa))
  have fb7 := hid (((gb7.out.step hs6).step hs7).other nA7 (cellsP pa))
  have fb8 := hid (((gb8.out.step hs6).step hs7).other nA8 (cellsP pa))
  have fbA := hid (hn7.set (cellsP pa))
  have hbl8 := below_set (hbl5.trans ((hs6.trans (hs7.mono hs6.size)).mono hbl5.size)) G10 hG10 (cellsP pa)
  generalize w7.setRow G10 (cellsP pa) = w8 at fb3 fb7 fb8 fbA hbl8 ⊢
  clear hs6 hle7 hs7 hn7 gb3 gb7 gb8 hbl5 cK
  ((repeat ((fail_if_success (with_reducible refine Go.at_region ?_)); go_step)); refine wp_region_lit ?_)
  (refine wpList_get 28 (.tmp 7) rfl rfl G7 rfl 28 (cellsY r) fb7.out gK iRr.out ?_; simp only [Act.put, pvA, pv0, pv1])
  (refine wpList_plain rfl fun K hK => ?_; go_simp; refine (cP.out _).mono ?_; rintro _ w9 ⟨rfl, hs9⟩; refine hK _ _ ?_; clear hK K; (try simp only [Act.put, pvA, pv0, pv1]))
  iterate 3 (refine wpList_plain rfl fun K hK => ?_; go_simp; refine hK _ _ ?_; clear hK K; (try simp only [Act.put, pvA, pv0, pv1]))
  obtain ⟨pp, hpp⟩ : ∃ p, p = decP r := ⟨_, rfl⟩
  have hppl : LtP pp := by rw [hpp]; exact decP_lt _
  rw [← hpp]
  have Hpp := hid hpp
  clear hpp
  (refine wpList_new 29 (cellsP zeroP) rfl rfl zPe ?_; intro G12 w10 hle10 hs10 hn10; (try simp only [Act.put, pvA, pv0, pv1]))
  (refine wpList_set 29 (.tmp 12) (.tmp 32) rfl rfl rfl G12 (cellsP pp) rfl rfl 29 (cellsP zeroP) hn10 (iPe pp) rfl (one_cellsP _) ?_)
  (refine wpList_plain rfl fun K hK => ?_; go_simp; refine hK _ _ ?_; clear hK K; (try simp only [Act.put, pvA, pv0, pv1]))
  refine wpList_nil ?_
  have nC3 : w.heap.size ≠ G12 := by have := fb3.out.lt; have := hs9.size; omega
  have nC7 : G7 ≠ G12 := by have := fb7.out.lt; have := hs9.size; omega
  have nC8 : G8 ≠ G12 := by have := fb8.out.lt; have := hs9.size; omega
  have nCA : G10 ≠ G12 := by have := fbA.out.lt; have := hs9.size; omega
  have hG12 : w.heap.size ≤ G12 := by have := hbl8.size; have := hs9.size; omega
  have gb3 := hid (((fb3.out.step hs9).step hs10).other nC3 (cellsP pp))
  have gb7 := hid (((fb7.out.step hs9).step hs10).other nC7 (cellsP pp))
  have gb8 := hid (((fb8.out.step hs9).step hs10).other nC8 (cellsP pp))
  have gbA := hid (((fbA.out.step hs9).step hs10).other nCA (cellsP pp))
  have gbC := hid (hn10.set (cellsP pp))
  have hbl11 := below_set (hbl8.trans ((hs9.trans (hs10.mono hs9.size)).mono hbl8.size)) G12 hG12 (cellsP pp)
  generalize w10.setRow G12 (cellsP pp) = w11 at gb3 gb7 gb8 gbA gbC hbl11 ⊢
  clear hs9 hle10 hs10 hn10 fb3 fb7 fb8 fbA hbl8 cP
  by_cases h1 : en = 0
  case neg =>
    have q1 : (en != 0) = true := by simpa using h1
    have hV0 : verOk k s = false := by rw [hOk.out]; rw [decide_eq_false h1]; rfl
    (repeat ((fail_if_success (with_reducible refine Go.at_region ?_)); go_step))
    refine list_all ?_
    iterate 3 (apply calm_on rfl; (focus (intro W hB; go_simp; exact ⟨rfl, Below.refl _ _⟩)); simp only [Act.put, pvA, pv0, pv1])
    iterate 2 (refine calm_off rfl ?_; simp only [Act.put, pvA, pv0, pv1])
    iterate 2 (apply calm_on rfl; (focus (intro W hB; go_simp; exact ⟨rfl, Below.refl _ _⟩)); simp only [Act.put, pvA, pv0, pv1])
    iterate 2 (refine calm_off rfl ?_; simp only [Act.put, pvA, pv0, pv1])
    (apply calm_on rfl; (focus (intro W hB; go_simp; exact ⟨rfl, Below.refl _ _⟩)); simp only [Act.put, pvA, pv0, pv1])
    refine calm_nil ?_
    intro w12 hs12
    ((repeat ((fail_if_success (with_reducible refine Go.at_region ?_)); go_step)); refine wp_region_lit ?_)
    (refine wpList_plain rfl fun K hK => ?_; go_simp; refine hK _ _ ?_; clear hK K; (try simp only [Act.put, pvA, pv0, pv1]))
    refine wpList_nil ?_
    (repeat ((fail_if_success (with_reducible refine Go.at_region ?_)); go_step))
    go_ret
    exact ⟨by rw [hVB.out, hV0]; rfl, hbl11.trans (hs12.mono hbl11.size)⟩
  subst h1
  by_cases h2 : ea = 0
  case neg =>
    have q1 : (ea != 0) = true := by simpa using h2
    have hV0 : verOk k s = false := by rw [hOk.out]; rw [decide_eq_false h2]; rfl
    (repeat ((fail_if_success (with_reducible refine Go.at_region ?_)); go_step))
    refine list_all ?_
    iterate 7 (apply calm_on rfl; (focus (intro W hB; go_simp; exact ⟨rfl, Below.refl _ _⟩)); simp only [Act.put, pvA, pv0, pv1])
    iterate 2 (refine calm_off rfl ?_; simp only [Act.put, pvA, pv0, pv1])
    (apply calm_on rfl; (focus (intro W hB; go_simp; exact ⟨rfl, Below.refl _ _⟩)); simp only [Act.put, pvA, pv0, pv1])
    refine calm_nil ?_
    intro w12 hs12
    ((repeat ((fail_if_success (with_reducible refine Go.at_region ?_)); go_step)); refine wp_region_lit ?_)
    (refine wpList_plain rfl fun K hK => ?_; go_simp; refine hK _ _ ?_; clear hK K; (try simp only [Act.put, pvA, pv0, pv1]))
    refine wpList_nil ?_
    (repeat ((fail_if_success (with_reducible refine Go.at_region ?_)); go_step))
    go_ret
    exact ⟨by rw [hVB.out, hV0]; rfl, hbl11.trans (hs12.mono hbl11.size)⟩
  subst h2
  by_cases h3 : ep = 0
  case neg =>
    have q1 : (ep != 0) = true := by simpa using h3
    have hV0 : verOk k s = false := by rw [hOk.out]; rw [decide_eq_false h3]; rfl
    (repeat ((fail_if_success (with_reducible refine Go.at_region ?_)); go_step))
    refine list_all ?_
    iterate 10 (apply calm_on rfl; (focus (intro W hB; go_simp; exact ⟨rfl, Below.refl _ _⟩)); simp only [Act.put, pvA, pv0, pv1])
    refine calm_nil ?_
    intro w12 hs12
    ((repeat ((fail_if_success (with_reducible refine Go.at_region ?_)); go_step)); refine wp_region_lit ?_)
    (refine wpList_plain rfl fun K hK => ?_; go_simp; refine hK _ _ ?_; clear hK K; (try simp only [Act.put, pvA, pv0, pv1]))
    refine wpList_nil ?_
    (repeat ((fail_if_success (with_reducible refine Go.at_region ?_)); go_step))
    go_ret
    exact ⟨by rw [hVB.out, hV0]; rfl, hbl11.trans (hs12.mono hbl11.size)⟩
  subst h3
  have hV1 : verOk k s = true := by rw [hOk.out]; rfl
  (repeat ((fail_if_success (with_reducible refine Go.at_region ?_)); go_step))
  refine list_all ?_
  iterate 10 (apply calm_on rfl; (focus (intro W hB; go_simp; exact ⟨rfl, Below.refl _ _⟩)); simp only [Act.put, pvA, pv0, pv1])
  refine calm_nil ?_
  intro w12 hs12
  have fb3 := hid (gb3.out.step hs12)
  have fb7 := hid (gb7.out.step hs12)
  have fb8 := hid (gb8.out.step hs12)
  have fbA := hid (gbA.out.step hs12)
  have fbC := hid (gbC.out.step hs12)
  have hbl12 := hbl11.trans (hs12.mono hbl11.size)
  clear gb3 gb7 gb8 gbA gbC hbl11 hs12
  have cS := hid fun w => fsub_any 0 pa.x w (by decide) hpal.x
  obtain ⟨sx, hsx⟩ : ∃ z, z = subP 0 pa.x := ⟨_, rfl⟩
  have hsl : LtP ⟨sx, pa.y⟩ := ⟨by rw [hsx]; exact p_mod_lt _, hpal.y⟩
  rw [← hsx] at cS
  have hAw := hid (show verA k = ⟨sx, pa.y⟩ by unfold verA; rw [← Hpa.out, hsx])
  clear hsx
  have cW := hid fun w => widen_any ⟨sx, pa.y⟩ w hsl
  have hTw := widenW_t ⟨sx, pa.y⟩ hsl
  have bN := hid nil_built
  obtain ⟨aw, haw⟩ : ∃ z, z = widenW ⟨sx, pa.y⟩ := ⟨_, rfl⟩
  rw [← haw] at cW hTw
  have Haw := hid (show widenW (verA k) = aw by rw [hAw.out, haw])
  clear haw
  unfold wd at cS
  unfold pt w4 at cW
  (repeat ((fail_if_success (with_reducible refine Go.at_region ?_)); go_step))
  refine draw_new1 8 _ rfl 89 (cells4 zero4) 14 rfl rfl rfl (by simp) z4 (by kernel_rfl) (by kernel_rfl) (by kernel_rfl) ?_
  simp only [List.take_succ_cons, List.take_zero]
  (refine calm_build rfl 24 _ rfl (cellsW 0) (by first | (simp only [List.map_toArray, List.map_cons, List.map_nil]; exact bN.out) | exact bN.out) ?_; simp only [Act.put, pvA, pv0, pv1])
  (apply calm_on rfl; (focus (intro W hB; go_simp; exact ⟨rfl, Below.refl _ _⟩)); simp only [Act.put, pvA, pv0, pv1])
  (refine calm_part rfl 24 (.tmp 45) rfl G10 0 rfl 29 (cellsP pa) (cellsW pa.x) fbA.out (inP_x pa) gWd (iW pa.x) ?_; simp only [Act.put, pvA, pv0, pv1])
  (apply calm_on rfl; (focus (intro W hB; go_simp; refine (cS.out W).mono ?_; rintro _ _ ⟨rfl, hb'⟩; exact ⟨rfl, hb'⟩)); simp only [Act.put, pvA, pv0, pv1])
  (apply calm_on rfl; (focus (intro W hB; go_simp; exact ⟨rfl, Below.refl _ _⟩)); simp only [Act.put, pvA, pv0, pv1])
  (refine calm_part rfl 24 (.tmp 48) rfl G10 4 rfl 29 (cellsP pa) (cellsW pa.y) fbA.out (inP_y pa) gWd (iW pa.y) ?_; simp only [Act.put, pvA, pv0, pv1])
  (refine calm_build rfl 29 _ rfl (cellsP ⟨sx, pa.y⟩) (by first | (simp only [List.map_toArray, List.map_cons, List.map_nil]; exact (bPe _ _)) | exact (bPe _ _)) ?_; simp only [Act.put, pvA, pv0, pv1])
  (apply calm_on rfl; (focus (intro W hB; go_simp; refine (cW.out W).mono ?_; rintro _ _ ⟨rfl, hb'⟩; exact ⟨rfl, hb'⟩)); simp only [Act.put, pvA, pv0, pv1])
  refine calm_nil ?_
  intro G14 w13 hle13 hx13 hn13
  simp only [List.drop_succ_cons, List.drop_zero]
  (try simp only [Act.put, pvA, pv0, pv1])
  have nE3 : w.heap.size ≠ G14 := by have := fb3.out.lt; omega
  have nE7 : G7 ≠ G14 := by have := fb7.out.lt; omega
  have nE8 : G8 ≠ G14 := by have := fb8.out.lt; omega
  have nEC : G12 ≠ G14 := by have := fbC.out.lt; omega
  have hG14 : w.heap.size ≤ G14 := by have := hbl12.size; omega
  (refine wpList_set 89 (.tmp 14) (.tmp 51) rfl rfl rfl G14 (cells4 aw) rfl rfl 89 (cells4 zero4) hn13 (i4 aw) rfl (one_cells4 _) ?_)
  refine wpList_nil ?_
  have gb3 := hid ((fb3.out.step hx13).other nE3 (cells4 aw))
  have gb7 := hid ((fb7.out.step hx13).other nE7 (cells4 aw))
  have gb8 := hid ((fb8.out.step hx13).other nE8 (cells4 aw))
  have gbC := hid ((fbC.out.step hx13).other nEC (cells4 aw))
  have gbE := hid (hn13.set (cells4 aw))
  have hbl14 := below_set (hbl12.trans (hx13.mono hbl12.size)) G14 hG14 (cells4 aw)
  generalize w13.setRow G14 (cells4 aw) = w14 at gb3 gb7 gb8 gbC gbE hbl14 ⊢
  clear fb3 fb7 fb8 fbA fbC hx13 hle13 hn13 hbl12 cS cW
  have HM14 := hid (HM.out.below hbl14)
  have cB := hid fun w => base_any w
  have cWb := hid fun w => widen_any baseP w ⟨bsxN_lt, bsyN_lt⟩
  have hTb := widenW_t baseP ⟨bsxN_lt, bsyN_lt⟩
  have hH := hid fun (v : Value) (w : World) (h : RdZ w v [r, k, msg]) => hashed_any [r, k, msg] v w h (by simp) (by simp; rw [lr, hk]; omega)
  have cBo := hid fun w => bothW_any n (widenW baseP) (hashN [r, k, msg]) aw w hTb hTw
  have hTg := bothW_t n (widenW baseP) (hashN [r, k, msg]) aw hTb hTw
  have hG := hid (show verG k msg s = bothW n (widenW baseP) (hashN [r, k, msg]) aw by unfold verG verN; rw [← Hn.out, ← Hr.out, Haw.out])
  obtain ⟨q, hq⟩ : ∃ q, q = bothW n (widenW baseP) (hashN [r, k, msg]) aw := ⟨_, rfl⟩
  rw [← hq] at cBo hTg hG
  clear hq hTb
  generalize hashN [r, k, msg] = h at hH cBo
  generalize widenW baseP = bw at cWb cBo
  generalize baseP = pb at cB cWb
  unfold pt at cB cWb
  unfold w4 at cWb cBo
  unfold wd at hH cBo
  have sl55 : ∀ (b : Nat) (w : World), (Instr.sliceAt 28 (.pointer (some ⟨b, 0, none⟩)) none none none).run Tryz.prog w = .ok (.slice (some ⟨b, 0, none⟩) 32 32) w := fun b w => sl_all uK sY1 b 0 w
  (repeat ((fail_if_success (with_reducible refine Go.at_region ?_)); go_step))
  (refine wp_region_loose_tail 11 [.kn (.agg (cellsW n)), .kn (.agg (cellsP pb)), .kn (.agg (cells4 bw)), .kn (.slice (some ⟨G7, 0, none⟩) 32 32), .kn (.slice (some ⟨w.heap.size, 0, none⟩) 32 32), .kn vm, .lo (fun v w => RdZ w v [r, k, msg]), .kn (.agg (cellsW h)), .kn (.agg (cells4 aw)), .kn (.agg (cells4 q)), .lo (newR w14 89 (cells4 zero4))] (by kernel_rfl) (by kernel_rfl) (by kernel_rfl) (by first | exact trivial | ((repeat (first | refine keepsAll_kn ?_ | (refine keepsAll_lo (fun v w w' h hb => ?_) ?_; first | exact RdN.below h hb | exact RdL.below h hb | exact RdY.below h hb | exact PtY.below h hb | exact RdZ.below h hb | exact newR_keeps _ _ _ h hb))); exact trivial)) ?_; simp only [List.take_succ_cons, List.take_zero, List.drop_succ_cons, List.drop_zero])
  (refine loose_part rfl 24 (.tmp 8) rfl G8 0 rfl 24 (cellsW n) (cellsW n) gb8.out (fun j v h => by rw [Nat.zero_add]; exact h) gWd iN.out rfl ?_; simp only [Act.put, pvA, pv0, pv1])
  (refine loose_step_on rfl (fun W' hB' hd Kt hK => ?_) ?_; (focus (clear hd; go_simp; refine (cB.out _).mono ?_; rintro _ _ ⟨rfl, hb'⟩; exact hK _ _ hb' rfl)); rintro _ rfl; simp only [Act.put, pvA, pv0, pv1])
  (refine loose_step_on rfl (fun W' hB' hd Kt hK => ?_) ?_; (focus (clear hd; go_simp; refine (cWb.out _).mono ?_; rintro _ _ ⟨rfl, hb'⟩; exact hK _ _ hb' rfl)); rintro _ rfl; simp only [Act.put, pvA, pv0, pv1])
  iterate 2 (refine loose_step_on rfl (fun W' hB' hd K hK => ?_) ?_; (focus (clear hd; go_simp; exact hK _ _ (Below.refl _ _) rfl)); rintro _ rfl; simp only [Act.put, pvA, pv0, pv1])
  (refine loose_move rfl (.tmp 1) (.inl rfl) rfl ?_; simp only [Act.put, pvA, pv0, pv1])
  (refine loose_step_on rfl (fun W' hB' hd Kt hK => ?_) ?_; (focus (skip; clear hd; refine wp_ones3 (.slice (some ⟨G7, 0, none⟩) 32 32) (.slice (some ⟨w.heap.size, 0, none⟩) 32 32) vm rfl rfl rfl rfl uPP iPP rfl rfl rfl hvm (hK _ _ (below_alloc _ _) ?_); exact rdz3 (blk_all (gb7.out.step hB') lr) (blk_all (gb3.out.step hB') hk) (HM14.out.below hB'))); intro v58 _; simp only [Act.put, pvA, pv0, pv1])
  (refine loose_step_on rfl (fun W' hB' hd Kt hK => ?_) ?_; (focus (have g58 : RdZ W' v58 [r, k, msg] := hd ⟨6, Ground.data⟩ (by simp) rfl _ 58 rfl rfl (by simp); clear hd; go_simp; refine (hH.out v58 _ g58).mono ?_; rintro _ _ ⟨rfl, hb'⟩; exact hK _ _ hb' rfl)); rintro _ rfl; simp only [Act.put, pvA, pv0, pv1])
  (refine loose_part rfl 89 (.tmp 14) rfl G14 0 rfl 89 (cells4 aw) (cells4 aw) gbE.out (fun j v h => by rw [Nat.zero_add]; exact h) g4 (i4 aw) rfl ?_; simp only [Act.put, pvA, pv0, pv1])
  (refine loose_step_on rfl (fun W' hB' hd Kt hK => ?_) ?_; (focus (clear hd; go_simp; refine (cBo.out _).mono ?_; rintro _ _ ⟨rfl, hb'⟩; exact hK _ _ hb' rfl)); rintro _ rfl; simp only [Act.put, pvA, pv0, pv1])
  (refine loose_new rfl rfl rfl z4 ?_; intro v15; simp only [Act.put, pvA, pv0, pv1])
  intro w15 hs15 hf
  have g15 : newR w14 89 (cells4 zero4) v15 w15 := hf 10 _ 15 (by first | omega | simp) rfl rfl (by simp)
  obtain ⟨G15, rfl, hn15, hle15⟩ := g15
  (try simp only [List.drop_succ_cons, List.drop_zero])
  have nFC : G12 ≠ G15 := by have := gbC.out.lt; omega
  have hG15 : w.heap.size ≤ G15 := by have := hbl14.size; omega
  (refine wpList_set 89 (.tmp 15) (.tmp 61) rfl rfl rfl G15 (cells4 q) rfl rfl 89 (cells4 zero4) hn15 (i4 q) rfl (one_cells4 _) ?_)
  refine wpList_nil ?_
  have fbC := hid ((gbC.out.step hs15).other nFC (cells4 q))
  have fbF := hid (hn15.set (cells4 q))
  have hbl16 := below_set (hbl14.trans (hs15.mono hbl14.size)) G15 hG15 (cells4 q)
  generalize w15.setRow G15 (cells4 q) = w16 at fbC fbF hbl16 ⊢
  clear gb3 gb7 gb8 gbC gbE hs15 hle15 hn15 hf hbl14 HM14 cB cWb cBo hH sl55
  have hVX := hid (show verX k msg s = decide (val5 (mul5 (fOf pp.x) q.z) % pN = val5 q.x % pN) by unfold verX; rw [hG.out, ← Hr.out, ← Hpp.out])
  have hVY := hid (show verY k msg s = decide (val5 (mul5 (fOf pp.y) q.z) % pN = val5 q.y % pN) by unfold verY; rw [hG.out, ← Hr.out, ← Hpp.out])
  have c1 := hid fun w => feOf_any pp.x w hppl.x
  have t1 := fOf_t _ hppl.x
  have c2 := hid fun w => mul5_any (fOf pp.x) q.z w t1 hTg.z
  have t2 := mul5_t _ _ t1 hTg.z
  have c3 := hid fun w => word5_any (mul5 (fOf pp.x) q.z) w t2
  have c4 := hid fun w => word5_any q.x w hTg.x
  have c5 := hid fun w => feOf_any pp.y w hppl.y
  have t5 := fOf_t _ hppl.y
  have c6 := hid fun w => mul5_any (fOf pp.y) q.z w t5 hTg.z
  have t6 := mul5_t _ _ t5 hTg.z
  have c7 := hid fun w => word5_any (mul5 (fOf pp.y) q.z) w t6
  have c8 := hid fun w => word5_any q.y w hTg.y
  have e1 := eq_wd (val5 (mul5 (fOf pp.x) q.z) % pN) (val5 q.x % pN) (p_mod_lt _) (p_mod_lt _)
  have e2 := eq_wd (val5 (mul5 (fOf pp.y) q.z) % pN) (val5 q.y % pN) (p_mod_lt _) (p_mod_lt _)
  rw [← hVX.out] at e1
  rw [← hVY.out] at e2
  clear t1 t2 t5 t6
  generalize val5 (mul5 (fOf pp.x) q.z) % pN = a1 at c3 e1
  generalize mul5 (fOf pp.x) q.z = m1 at c2 c3
  generalize fOf pp.x = f1 at c1 c2
  generalize val5 (mul5 (fOf pp.y) q.z) % pN = a2 at c7 e2
  generalize mul5 (fOf pp.y) q.z = m2 at c6 c7
  generalize fOf pp.y = f2 at c5 c6
  generalize val5 q.x % pN = b1 at c4 e1
  generalize val5 q.y % pN = b2 at c8 e2
  unfold fe wd at *
  have hres := hid (show verB k msg s = (verX k msg s && verY k msg s) by rw [hVB.out, hV1]; rfl)
  obtain ⟨bx, hbx⟩ : ∃ z, z = verX k msg s := ⟨_, rfl⟩
  obtain ⟨bY, hby⟩ : ∃ z, z = verY k msg s := ⟨_, rfl⟩
  rw [← hbx, ← hby] at hres
  rw [← hbx] at e1
  rw [← hby] at e2
  clear hbx hby hVX hVY hVB hV1 hOk
  cases bx with
  | false =>
    (repeat ((fail_if_success (with_reducible refine Go.at_region ?_)); go_step))
    refine draw_all (by kernel_rfl) (by kernel_rfl) (by kernel_rfl) ?_
    (apply calm_on rfl; (focus (intro W hB; go_simp; exact ⟨rfl, Below.refl _ _⟩)); simp only [Act.put, pvA, pv0, pv1])
    (refine calm_part rfl 24 (.tmp 62) rfl G12 0 rfl 29 (cellsP pp) (cellsW pp.x) fbC.out (inP_x pp) gWd (iW pp.x) ?_; simp only [Act.put, pvA, pv0, pv1])
    (apply calm_on rfl; (focus (intro W hB; go_simp; refine (c1.out W).mono ?_; rintro _ _ ⟨rfl, hb'⟩; exact ⟨rfl, hb'⟩)); simp only [Act.put, pvA, pv0, pv1])
    (apply calm_on rfl; (focus (intro W hB; go_simp; exact ⟨rfl, Below.refl _ _⟩)); simp only [Act.put, pvA, pv0, pv1])
    (refine calm_part rfl 87 (.tmp 65) rfl G15 10 rfl 89 (cells4 q) (cells5 q.z) fbF.out (in4_z q) g5 (i5 q.z) ?_; simp only [Act.put, pvA, pv0, pv1])
    (apply calm_on rfl; (focus (intro W hB; go_simp; refine (c2.out W).mono ?_; rintro _ _ ⟨rfl, hb'⟩; exact ⟨rfl, hb'⟩)); simp only [Act.put, pvA, pv0, pv1])
    (apply calm_on rfl; (focus (intro W hB; go_simp; refine (c3.out W).mono ?_; rintro _ _ ⟨rfl, hb'⟩; exact ⟨rfl, hb'⟩)); simp only [Act.put, pvA, pv0, pv1])
    (apply calm_on rfl; (focus (intro W hB; go_simp; exact ⟨rfl, Below.refl _ _⟩)); simp only [Act.put, pvA, pv0, pv1])
    (refine calm_part rfl 87 (.tmp 69) rfl G15 0 rfl 89 (cells4 q) (cells5 q.x) fbF.out (in4_x q) g5 (i5 q.x) ?_; simp only [Act.put, pvA, pv0, pv1])
    (apply calm_on rfl; (focus (intro W hB; go_simp; refine (c4.out W).mono ?_; rintro _ _ ⟨rfl, hb'⟩; exact ⟨rfl, hb'⟩)); simp only [Act.put, pvA, pv0, pv1])
    iterate 2 (apply calm_on rfl; (focus (intro W hB; go_simp; exact ⟨rfl, Below.refl _ _⟩)); simp only [Act.put, pvA, pv0, pv1])
    iterate 11 (refine calm_off rfl ?_; simp only [Act.put, pvA, pv0, pv1])
    iterate 2 (apply calm_on rfl; (focus (intro W hB; go_simp; exact ⟨rfl, Below.refl _ _⟩)); simp only [Act.put, pvA, pv0, pv1])
    refine calm_nil ?_
    intro w17 hs17
    (try dsimp only)
    (repeat ((fail_if_success (with_reducible refine Go.at_region ?_)); go_step))
    go_ret
    exact ⟨by rw [hres.out]; rfl, hbl16.trans (hs17.mono hbl16.size)⟩
  | true =>
    (repeat ((fail_if_success (with_reducible refine Go.at_region ?_)); go_step))
    refine draw_all (by kernel_rfl) (by kernel_rfl) (by kernel_rfl) ?_
    (apply calm_on rfl; (focus (intro W hB; go_simp; exact ⟨rfl, Below.refl _ _⟩)); simp only [Act.put, pvA, pv0, pv1])
    (refine calm_part rfl 24 (.tmp 62) rfl G12 0 rfl 29 (cellsP pp) (cellsW pp.x) fbC.out (inP_x pp) gWd (iW pp.x) ?_; simp only [Act.put, pvA, pv0, pv1])
    (apply calm_on rfl; (focus (intro W hB; go_simp; refine (c1.out W).mono ?_; rintro _ _ ⟨rfl, hb'⟩; exact ⟨rfl, hb'⟩)); simp only [Act.put, pvA, pv0, pv1])
    (apply calm_on rfl; (focus (intro W hB; go_simp; exact ⟨rfl, Below.refl _ _⟩)); simp only [Act.put, pvA, pv0, pv1])
    (refine calm_part rfl 87 (.tmp 65) rfl G15 10 rfl 89 (cells4 q) (cells5 q.z) fbF.out (in4_z q) g5 (i5 q.z) ?_; simp only [Act.put, pvA, pv0, pv1])
    (apply calm_on rfl; (focus (intro W hB; go_simp; refine (c2.out W).mono ?_; rintro _ _ ⟨rfl, hb'⟩; exact ⟨rfl, hb'⟩)); simp only [Act.put, pvA, pv0, pv1])
    (apply calm_on rfl; (focus (intro W hB; go_simp; refine (c3.out W).mono ?_; rintro _ _ ⟨rfl, hb'⟩; exact ⟨rfl, hb'⟩)); simp only [Act.put, pvA, pv0, pv1])
    (apply calm_on rfl; (focus (intro W hB; go_simp; exact ⟨rfl, Below.refl _ _⟩)); simp only [Act.put, pvA, pv0, pv1])
    (refine calm_part rfl 87 (.tmp 69) rfl G15 0 rfl 89 (cells4 q) (cells5 q.x) fbF.out (in4_x q) g5 (i5 q.x) ?_; simp only [Act.put, pvA, pv0, pv1])
    (apply calm_on rfl; (focus (intro W hB; go_simp; refine (c4.out W).mono ?_; rintro _ _ ⟨rfl, hb'⟩; exact ⟨rfl, hb'⟩)); simp only [Act.put, pvA, pv0, pv1])
    iterate 3 (apply calm_on rfl; (focus (intro W hB; go_simp; exact ⟨rfl, Below.refl _ _⟩)); simp only [Act.put, pvA, pv0, pv1])
    (refine calm_part rfl 24 (.tmp 74) rfl G12 4 rfl 29 (cellsP pp) (cellsW pp.y) fbC.out (inP_y pp) gWd (iW pp.y) ?_; simp only [Act.put, pvA, pv0, pv1])
    (apply calm_on rfl; (focus (intro W hB; go_simp; refine (c5.out W).mono ?_; rintro _ _ ⟨rfl, hb'⟩; exact ⟨rfl, hb'⟩)); simp only [Act.put, pvA, pv0, pv1])
    (apply calm_on rfl; (focus (intro W hB; go_simp; exact ⟨rfl, Below.refl _ _⟩)); simp only [Act.put, pvA, pv0, pv1])
    (refine calm_part rfl 87 (.tmp 77) rfl G15 10 rfl 89 (cells4 q) (cells5 q.z) fbF.out (in4_z q) g5 (i5 q.z) ?_; simp only [Act.put, pvA, pv0, pv1])
    (apply calm_on rfl; (focus (intro W hB; go_simp; refine (c6.out W).mono ?_; rintro _ _ ⟨rfl, hb'⟩; exact ⟨rfl, hb'⟩)); simp only [Act.put, pvA, pv0, pv1])
    (apply calm_on rfl; (focus (intro W hB; go_simp; refine (c7.out W).mono ?_; rintro _ _ ⟨rfl, hb'⟩; exact ⟨rfl, hb'⟩)); simp only [Act.put, pvA, pv0, pv1])
    (apply calm_on rfl; (focus (intro W hB; go_simp; exact ⟨rfl, Below.refl _ _⟩)); simp only [Act.put, pvA, pv0, pv1])
    (refine calm_part rfl 87 (.tmp 81) rfl G15 5 rfl 89 (cells4 q) (cells5 q.y) fbF.out (in4_y q) g5 (i5 q.y) ?_; simp only [Act.put, pvA, pv0, pv1])
    (apply calm_on rfl; (focus (intro W hB; go_simp; refine (c8.out W).mono ?_; rintro _ _ ⟨rfl, hb'⟩; exact ⟨rfl, hb'⟩)); simp only [Act.put, pvA, pv0, pv1])
    iterate 3 (apply calm_on rfl; (focus (intro W hB; go_simp; exact ⟨rfl, Below.refl _ _⟩)); simp only [Act.put, pvA, pv0, pv1])
    refine calm_nil ?_
    intro w17 hs17
    (try dsimp only)
    (repeat ((fail_if_success (with_reducible refine Go.at_region ?_)); go_step))
    go_ret
    exact ⟨by rw [hres.out]; rfl, hbl16.trans (hs17.mono hbl16.size)⟩
end Go.Proofs.YtejnnghfelpioaaGreat
namespace Go.Proofs.YtejnnghfelpioaaGreat
open Go.RowKit
def vC (W s : List (BitVec 64)) : Nat → List (BitVec 64)
  | 0 => s
  | t + 1 => stepV (vC W s t) (nb shaK t) (nb W t)
theorem vC_eq (ys : List (BitVec 8)) (s : List (BitVec 64)) (t : Nat) (ht : t ≤ 80) : vGo (w16 16 ys 128) s t = vC (w80 (w16 80 ys 128) 64) s t := by
  induction t with
  | zero => rfl
  | succ t ih => unfold vGo vC; rw [ih (by omega), w80_word ys t (by omega)]
def blockC (s : List (BitVec 64)) (ys : List (BitVec 8)) : List (BitVec 64) := addGo (vC (w80 (w16 80 ys 128) 64) s 80) s 8
theorem blockC_eq (s : List (BitVec 64)) (ys : List (BitVec 8)) : blockL s ys = blockC s ys := by unfold blockL blockC; rw [vC_eq ys s 80 (by omega)]
theorem sha_one (m : List (BitVec 8)) (h : (padS m).length = 128) : shaL m = outS (blockC shaH (padS m)) 64 := by
  unfold shaL
  rw [h, show 128 / 128 = 1 from rfl]
  show outS (blockL shaH (chunkS (padS m) 0)) 64 = _
  rw [blockC_eq]
  unfold chunkS
  rw [Nat.mul_zero, List.drop_zero, List.take_of_length_le (by omega)]
end Go.Proofs.YtejnnghfelpioaaGreat
namespace Go.Proofs.YtejnnghfelpioaaGreat
open Go.RowKit
set_option maxRecDepth 1000000
def sdL : List (BitVec 8) := [157, 97, 177, 157, 239, 253, 90, 96, 186, 132, 74, 244, 146, 236, 44, 196, 68, 73, 197, 105, 123, 50, 105, 25, 112, 59, 172, 3, 28, 174, 127, 96]
def h0L : List (BitVec 8) := [53, 124, 131, 134, 79, 40, 51, 203, 66, 122, 46, 241, 192, 10, 1, 60, 253, 255, 39, 104, 217, 128, 192, 163, 165, 32, 240, 6, 144, 77, 233, 15, 155, 79, 10, 254, 40, 11, 116, 106, 119, 134, 132, 231, 84, 66, 80, 32, 87, 183, 71, 58, 3, 240, 143, 150, 245, 163, 142, 146, 135, 224, 31, 143]
def alA : Nat := 36144925721603087658594284515452164870581325872720374094707712194495455132720
def alB : List (BitVec 8) := [155, 79, 10, 254, 40, 11, 116, 106, 119, 134, 132, 231, 84, 66, 80, 32, 87, 183, 71, 58, 3, 240, 143, 150, 245, 163, 142, 146, 135, 224, 31, 143]
def kyP : P2 := ⟨38815646466658113194383306759739515082307681141926459231621296960732224964046, 11903303657706407974989296177215005343713679411332034699907763981919547054807⟩
def kyL : List (BitVec 8) := [215, 90, 152, 1, 130, 177, 10, 183, 213, 75, 254, 211, 201, 100, 7, 58, 14, 225, 114, 243, 218, 166, 35, 37, 175, 2, 26, 104, 247, 7, 81, 26]
def alR : Nat := 2015312323900227545039973048451112962192803170366412514267238242679089760755
def sgP : P2 := ⟨44370630452101398467924320556439323233869374150616132215183787387252341590058, 38448863731492799660668882834560725606410712239157980760146247592118262650597⟩
def sgL : List (BitVec 8) := [229, 86, 67, 0, 195, 96, 172, 114, 144, 134, 226, 204, 128, 110, 130, 138, 132, 135, 127, 30, 184, 229, 217, 116, 216, 115, 224, 101, 34, 73, 1, 85]
def alH : Nat := 1958233733501237659471134851339390337284068724042047466985993338226439154310
def alH1 : Nat := 3522795203402148482764146148954277926717685080406457998596202582178711798453
def alN : Nat := 5004556735901913393272427758925840403246877222315506387332009764265656498271
def alS : List (BitVec 8) := [229, 86, 67, 0, 195, 96, 172, 114, 144, 134, 226, 204, 128, 110, 130, 138, 132, 135, 127, 30, 184, 229, 217, 116, 216, 115, 224, 101, 34, 73, 1, 85, 95, 184, 130, 21, 144, 163, 59, 172, 198, 30, 57, 112, 28, 249, 180, 107, 210, 91, 245, 240, 89, 91, 190, 36, 101, 81, 65, 67, 142, 122, 16, 11]
theorem sha_sd_b : blockC shaH (padS sdL) = [3854099993999193035, 4790192769505820988, 18302390741936160931, 11898774126494345487, 11191175685748782186, 8612717466478596128, 6320598916537552790, 17700147720492162959] := by decide +kernel
theorem sha_sd_o : outS [3854099993999193035, 4790192769505820988, 18302390741936160931, 11898774126494345487, 11191175685748782186, 8612717466478596128, 6320598916537552790, 17700147720492162959] 64 = [53, 124, 131, 134, 79, 40, 51, 203, 66, 122, 46, 241, 192, 10, 1, 60, 253, 255, 39, 104, 217, 128, 192, 163, 165, 32, 240, 6, 144, 77, 233, 15, 155, 79, 10, 254, 40, 11, 116, 106, 119, 134, 132, 231, 84, 66, 80, 32, 87, 183, 71, 58, 3, 240, 143, 150, 245, 163, 142, 146, 135, 224, 31, 143] := by decide +kernel
theorem sha_sd : shaL sdL = h0L := by rw [sha_one sdL (by decide +kernel), sha_sd_b, sha_sd_o]; rfl
theorem sha_r_b : blockC shaH (padS alB) = [13164475641069989721, 9509932450426471338, 10942261363819122011, 7085227815478653684, 306412736497058716, 16022516957188131835, 7944592038670115968, 3645139585509438765] := by decide +kernel
theorem sha_r_o : outS [13164475641069989721, 9509932450426471338, 10942261363819122011, 7085227815478653684, 306412736497058716, 16022516957188131835, 7944592038670115968, 3645139585509438765] 64 = [182, 177, 156, 216, 224, 66, 111, 89, 131, 250, 17, 45, 137, 161, 67, 170, 151, 218, 184, 188, 93, 235, 141, 91, 98, 83, 201, 40, 182, 82, 114, 244, 4, 64, 152, 194, 169, 144, 3, 156, 222, 91, 106, 72, 24, 223, 11, 251, 110, 64, 220, 93, 238, 84, 36, 128, 50, 150, 35, 35, 231, 1, 53, 45] := by decide +kernel
theorem sha_r : shaL alB = [182, 177, 156, 216, 224, 66, 111, 89, 131, 250, 17, 45, 137, 161, 67, 170, 151, 218, 184, 188, 93, 235, 141, 91, 98, 83, 201, 40, 182, 82, 114, 244, 4, 64, 152, 194, 169, 144, 3, 156, 222, 91, 106, 72, 24, 223, 11, 251, 110, 64, 220, 93, 238, 84, 36, 128, 50, 150, 35, 35, 231, 1, 53, 45] := by rw [sha_one alB (by decide +kernel), sha_r_b, sha_r_o]
theorem sha_h_b : blockC shaH (padS (sgL ++ kyL)) = [2842059623401484263, 18428124957239378555, 242614993760941040, 9377321590807045314, 1076742788928381639, 2338513036516782764, 698594959256859688, 3992703284400623263] := by decide +kernel
theorem sha_h_o : outS [2842059623401484263, 18428124957239378555, 242614993760941040, 9377321590807045314, 1076742788928381639, 2338513036516782764, 698594959256859688, 3992703284400623263] 64 = [39, 113, 6, 43, 107, 83, 111, 231, 255, 189, 218, 3, 32, 195, 130, 123, 3, 93, 241, 13, 40, 77, 243, 240, 130, 34, 240, 77, 188, 167, 164, 194, 14, 241, 91, 220, 152, 138, 34, 199, 32, 116, 17, 55, 124, 51, 242, 172, 9, 177, 232, 106, 4, 98, 52, 40, 55, 104, 238, 123, 160, 60, 14, 159] := by decide +kernel
theorem sha_h : shaL (sgL ++ kyL) = [39, 113, 6, 43, 107, 83, 111, 231, 255, 189, 218, 3, 32, 195, 130, 123, 3, 93, 241, 13, 40, 77, 243, 240, 130, 34, 240, 77, 188, 167, 164, 194, 14, 241, 91, 220, 152, 138, 34, 199, 32, 116, 17, 55, 124, 51, 242, 172, 9, 177, 232, 106, 4, 98, 52, 40, 55, 104, 238, 123, 160, 60, 14, 159] := by rw [sha_one (sgL ++ kyL) (by decide +kernel), sha_h_b, sha_h_o]
theorem sha_h1_b : blockC shaH (padS (sgL ++ kyL ++ [1])) = [11430403421265196102, 3402298852149852396, 9273862251635126080, 939919871453880837, 4874807645049534765, 14274835253221683659, 17402537702090689565, 12232828571827394225] := by decide +kernel
theorem sha_h1_o : outS [11430403421265196102, 3402298852149852396, 9273862251635126080, 939919871453880837, 4874807645049534765, 14274835253221683659, 17402537702090689565, 12232828571827394225] 64 = [158, 160, 243, 89, 203, 235, 244, 70, 47, 55, 100, 199, 166, 28, 120, 236, 128, 179, 96, 149, 52, 157, 175, 64, 13, 11, 68, 36, 167, 86, 226, 5, 67, 166, 203, 185, 175, 137, 57, 45, 198, 26, 103, 8, 15, 128, 113, 203, 241, 130, 59, 214, 99, 117, 76, 29, 169, 195, 188, 198, 22, 5, 86, 177] := by decide +kernel
theorem sha_h1 : shaL (sgL ++ kyL ++ [1]) = [158, 160, 243, 89, 203, 235, 244, 70, 47, 55, 100, 199, 166, 28, 120, 236, 128, 179, 96, 149, 52, 157, 175, 64, 13, 11, 68, 36, 167, 86, 226, 5, 67, 166, 203, 185, 175, 137, 57, 45, 198, 26, 103, 8, 15, 128, 113, 203, 241, 130, 59, 214, 99, 117, 76, 29, 169, 195, 188, 198, 22, 5, 86, 177] := by rw [sha_one (sgL ++ kyL ++ [1]) (by decide +kernel), sha_h1_b, sha_h1_o]
theorem al_seed : seedL sdL = [48, 124, 131, 134, 79, 40, 51, 203, 66, 122, 46, 241, 192, 10, 1, 60, 253, 255, 39, 104, 217, 128, 192, 163, 165, 32, 240, 6, 144, 77, 233, 79, 155, 79, 10, 254, 40, 11, 116, 106, 119, 134, 132, 231, 84, 66, 80, 32, 87, 183, 71, 58, 3, 240, 143, 150, 245, 163, 142, 146, 135, 224, 31, 143] := by unfold seedL; rw [sha_sd]; decide +kernel
theorem al_A : opA sdL = alA := by
  unfold opA seedA; rw [al_seed]; decide +kernel
theorem al_B : opB sdL = alB := by
  unfold opB seedB; rw [al_seed]; decide +kernel
theorem base_on : onB baseP = true := by decide +kernel
theorem base_lt : LtP baseP := ⟨bsxN_lt, bsyN_lt⟩
theorem P2_eq {p q : P2} (h1 : p.x = q.x) (h2 : p.y = q.y) : p = q := by cases p; cases q; simp only [P2.mk.injEq]; exact ⟨h1, h2⟩
theorem al_kP : mulP alA baseP = kyP := by
  rw [mulP_eval _ _ base_lt base_on]
  exact P2_eq (by decide +kernel) (by decide +kernel)
theorem al_K : opK sdL = kyL := by
  have h : sdL.length = 32 := rfl
  have hA : seedA sdL = alA := by rw [← al_A]; unfold opA; rw [if_pos h]
  unfold opK seedK
  rw [if_pos h, hA, al_kP]; decide +kernel
theorem hash_by {yss : List (List (BitVec 8))} {m s : List (BitVec 8)} {n : Nat} (e : yss.flatten = m) (h : shaL m = s) (h2 : leN s % lN = n) : hashN yss = n := by subst e; unfold hashN; rw [h, h2]
theorem al_r : hashN [alB, []] = alR := hash_by (by simp) sha_r (by decide +kernel)
theorem al_rP : mulP alR baseP = sgP := by
  rw [mulP_eval _ _ base_lt base_on]
  exact P2_eq (by decide +kernel) (by decide +kernel)
theorem al_R : sigR sdL [] = sgL := by unfold sigR; rw [al_B, al_r, al_rP]; decide +kernel
theorem al_h : hashN [sgL, kyL, []] = alH := hash_by (by simp) sha_h (by decide +kernel)
theorem al_h1 : hashN [sgL, kyL, [1]] = alH1 := hash_by (m := sgL ++ kyL ++ [1]) (by simp) sha_h1 (by decide +kernel)
theorem al_n0 : (alR + alH * alA % lN) % lN = alN := by decide +kernel
theorem n_by {m msg B R K : List (BitVec 8)} {A r h n : Nat} (hB : opB m = B) (hR : sigR m msg = R) (hK : opK m = K) (hA : opA m = A) (hr : hashN [B, msg] = r) (hh : hashN [R, K, msg] = h) (hn : (r + h * A % lN) % lN = n) : sigN m msg = n := by
  unfold sigN; rw [hB, hR, hK, hA, hr, hh, hn]
theorem al_n : sigN sdL [] = alN := n_by al_B al_R al_K al_A al_r al_h al_n0
theorem al_s0 : sgL ++ leL (alN % pN) = alS := by decide +kernel
theorem s_by {m msg R S : List (BitVec 8)} {n : Nat} (h : m.length = 32) (hR : sigR m msg = R) (hn : sigN m msg = n) (hS : R ++ leL (n % pN) = S) : sigL m msg = S := by
  unfold sigL; rw [if_pos h, hR, hn, hS]
theorem al_s : sigL sdL [] = alS := s_by (by decide +kernel) al_R al_n al_s0
theorem dec_by (k : List (BitVec 8)) (y inv a c : Nat) (P : P2) (h1 : fdN pN (lowB k) = y) (h0 : fdE pN (lowB k) = 0) (h2 : pmF ((dN * (y * y % pN) % pN + 1) % pN) 256 (pN - 2) = inv) (h3 : subP (y * y % pN) 1 * inv % pN = a) (h4 : pmF (a % pN) 256 ((pN + 3) / 8) = c)
    (h5 : (let s := if c * c % pN = a % pN then c else c * 19681161376707505956807079304988542015446066515923890162744021073123829784752 % pN; decide (s * s % pN = a % pN) && !(oddB k && decide ((if s % 2 = 1 then pN - s else s) = 0))) = true)
    (h6 : (let s := if c * c % pN = a % pN then c else c * 19681161376707505956807079304988542015446066515923890162744021073123829784752 % pN; let x := if s % 2 = 1 then pN - s else s; if oddB k = true then subP 0 x else x) = P.x) (h7 : y = P.y) : decP k = P ∧ decE k = 0 := by
  have hy : decY k = y := h1
  have hA : decA k = a := by
    unfold decA
    rw [hy, pow2 _ _ (by decide +kernel), h2, h3]
  have hc : sq0 a = c := by unfold sq0; rw [pow2 _ _ (by decide +kernel), h4]
  have hs : sq1 a = if c * c % pN = a % pN then c else c * 19681161376707505956807079304988542015446066515923890162744021073123829784752 % pN := by unfold sq1; rw [hc, pow_i]
  obtain ⟨s, hs'⟩ : ∃ s, s = if c * c % pN = a % pN then c else c * 19681161376707505956807079304988542015446066515923890162744021073123829784752 % pN := ⟨_, rfl⟩
  rw [← hs'] at hs
  simp only [← hs'] at h5 h6
  rw [Bool.and_eq_true, decide_eq_true_eq] at h5
  have hok : sqOk a = true := by unfold sqOk; rw [hs]; exact decide_eq_true h5.1
  have hx : sqX a = if s % 2 = 1 then pN - s else s := by unfold sqX; rw [if_pos hok, hs]
  have hB : decB k = true := by
    unfold decB
    rw [h0, hA, hok, hx, h5.2]; rfl
  refine ⟨?_, by unfold decE; rw [if_pos hB]⟩
  unfold decP
  rw [if_pos hB, hA, hx, h6, hy, h7]
theorem ky_dec : decP kyL = kyP ∧ decE kyL = 0 :=
  dec_by kyL 11903303657706407974989296177215005343713679411332034699907763981919547054807 26183629517387047170107039263209504307805777955316928339310294106180371817729 51523483521353598821315256951153545662292839605715741684547197689873795447516 1168942905347087226421132674947918255635854516639908037441319645233198647104 kyP (by decide +kernel) (by decide +kernel) (by decide +kernel) (by decide +kernel) (by decide +kernel) (by decide +kernel) (by decide +kernel) (by decide +kernel)
theorem sg_dec : decP sgL = sgP ∧ decE sgL = 0 :=
  dec_by sgL 38448863731492799660668882834560725606410712239157980760146247592118262650597 4332324842275715445375348713322146800773105034171902632131315053651204531706 55219342866674293627510244733923361162154483897632841798972269390984863624800 44370630452101398467924320556439323233869374150616132215183787387252341590058 sgP (by decide +kernel) (by decide +kernel) (by decide +kernel) (by decide +kernel) (by decide +kernel) (by decide +kernel) (by decide +kernel) (by decide +kernel)
def nG (n h : Nat) (A : P2) : NQ := nboth n h (nopen baseP) (nopen ⟨subP 0 A.x, A.y⟩) (nsum (nopen baseP) (nopen ⟨subP 0 A.x, A.y⟩)) 256
theorem ver_g {k msg s r : List (BitVec 8)} {n h : Nat} {A : P2} (hr : s.take 32 = r) (h1 : fdN lN (s.drop 32) = n) (h2 : hashN [r, k, msg] = h) (h4 : decP k = A) : qW (verG k msg s) = toQ (nG n h A) := by
  subst hr
  have hA : verA k = ⟨subP 0 A.x, A.y⟩ := by unfold verA; rw [h4]
  have ht := widenW_t (verA k) (verA_lt k)
  unfold verG verN nG
  rw [qW_both _ _ _ _ (widenW_t _ base_lt) ht, h1, h2, hA, qW_widen, qW_widen, toQ_both, toQ_sum, toQ_open, toQ_open]
theorem ver_key {k msg s : List (BitVec 8)} {g : NQ} (hG : qW (verG k msg s) = toQ g) (u : Nat) : val5 (mul5 (fOf u) (verG k msg s).z) % pN = u * g.z % pN := by
  have ez : fv (verG k msg s).z = nF g.z := congrArg QF.z hG
  show (fv (mul5 (fOf u) (verG k msg s).z)).val = _
  rw [fv_mul, fv_of, ez, ← nF_mul]; rfl
theorem ver_x {k msg s r : List (BitVec 8)} {P : P2} {g : NQ} {b : Bool} (hr : s.take 32 = r) (hG : qW (verG k msg s) = toQ g) (h3 : decP r = P) (hb : decide (P.x * g.z % pN = g.x % pN) = b) : verX k msg s = b := by
  subst hr
  have ex : fv (verG k msg s).x = nF g.x := congrArg QF.x hG
  unfold verX
  rw [h3, ver_key hG, show val5 (verG k msg s).x % pN = g.x % pN from congrArg Fin.val ex, hb]
theorem ver_y {k msg s r : List (BitVec 8)} {P : P2} {g : NQ} {b : Bool} (hr : s.take 32 = r) (hG : qW (verG k msg s) = toQ g) (h3 : decP r = P) (hb : decide (P.y * g.z % pN = g.y % pN) = b) : verY k msg s = b := by
  subst hr
  have ey : fv (verG k msg s).y = nF g.y := congrArg QF.y hG
  unfold verY
  rw [h3, ver_key hG, show val5 (verG k msg s).y % pN = g.y % pN from congrArg Fin.val ey, hb]
theorem ver_ok {k s r : List (BitVec 8)} (hr : s.take 32 = r) (h1 : fdE lN (s.drop 32) = 0) (h2 : decE k = 0) (h3 : decE r = 0) : verOk k s = true := by
  subst hr
  unfold verOk; rw [h1, h2, h3]; rfl
theorem ver_b {k msg s : List (BitVec 8)} {x y : Bool} (h1 : verOk k s = true) (h2 : verX k msg s = x) (h3 : verY k msg s = y) : verB k msg s = (x && y) := by
  unfold verB; rw [h1, h2, h3]; rfl
theorem al_take : alS.take 32 = sgL := by decide +kernel
theorem al_fd : fdN lN (alS.drop 32) = alN := by decide +kernel
theorem al_fe : fdE lN (alS.drop 32) = 0 := by decide +kernel
theorem al_ok : verOk kyL alS = true := ver_ok al_take al_fe ky_dec.2 sg_dec.2
theorem al_x : decide (sgP.x * (nG alN alH kyP).z % pN = (nG alN alH kyP).x % pN) = true := by decide +kernel
theorem al_y : decide (sgP.y * (nG alN alH kyP).z % pN = (nG alN alH kyP).y % pN) = true := by decide +kernel
theorem al_x1 : decide (sgP.x * (nG alN alH1 kyP).z % pN = (nG alN alH1 kyP).x % pN) = false := by decide +kernel
theorem al_g : qW (verG kyL [] alS) = toQ (nG alN alH kyP) := ver_g al_take al_fd al_h ky_dec.1
theorem al_g1 : qW (verG kyL [1] alS) = toQ (nG alN alH1 kyP) := ver_g al_take al_fd al_h1 ky_dec.1
theorem al_true : verB kyL [] alS = true := ver_b al_ok (ver_x al_take al_g sg_dec.1 al_x) (ver_y al_take al_g sg_dec.1 al_y)
theorem al_false : verB kyL [1] alS = false := ver_b (x := false) (y := verY kyL [1] alS) al_ok (ver_x al_take al_g1 sg_dec.1 al_x1) rfl
end Go.Proofs.YtejnnghfelpioaaGreat
set_option maxRecDepth 4000
namespace Go.Proofs.YtejnnghfelpioaaGreat
open Go.RowKit
set_option maxRecDepth 100000 in
set_option maxHeartbeats 4000000 in
theorem seed_any (w : World) : Calls Tryz.prog 47 #[] w fun e w' => ∃ v', e = .returned v' ∧ RdY w' v' sdL ∧ Below w.heap.size w w' := by
  have hn := Blk.new 5 w (cellsY sdL)
  have hb := below_alloc w (.cells (cellsY sdL) 5)
  have hr := hid (blk_all hn (n := 32) rfl)
  go_enter Tryz.func47, Tryz.ntmps47
  go_wp2
  go_ret
  exact ⟨_, rfl, hr.out, hb⟩
set_option maxRecDepth 100000 in
set_option maxHeartbeats 8000000 in
theorem ealive_any (w : World) : Calls Tryz.prog 13 #[] w fun e w' => e = .returned (.bool true) ∧ Below w.heap.size w w' := by
  have cPb := hid fun (v : Value) (w : World) (h : RdY w v sdL) => public_any sdL v w h
  have cSg := hid fun (v : Value) (w : World) (h : RdY w v sdL) => sign_any sdL [] v (.slice none 0 0) w h (RdY.nil _ _ _) (by decide)
  have hE0 : opE sdL = 0 := by unfold opE; rw [if_pos (by decide +kernel)]
  rw [al_K, hE0] at cPb
  rw [al_s, hE0] at cSg
  have cV := hid fun w => verify_any kyL [] alS (.slice none 0 0) w (by decide +kernel) (by decide +kernel) (RdY.nil _ _ _) (by decide)
  have cF := hid fun (v : Value) (w : World) (h : RdY w v [1]) => verify_any kyL [1] alS v w (by decide +kernel) (by decide +kernel) h (by decide)
  rw [al_true] at cV
  rw [al_false] at cF
  have cB := hid fun w => base_any w
  have cO := hid fun w => on_any baseP w base_lt
  rw [base_on] at cO
  have iKy := hid (iK kyL (by decide +kernel))
  have iS := hid (iSg alS (by decide +kernel))
  have zK1 := hid (show (cellsY zKey).size = (cellsY kyL).size by decide +kernel)
  have zS1 := hid (show (cellsY zSig).size = (cellsY alS).size by decide +kernel)
  unfold key at cPb cV cF
  generalize baseP = pb at cB cO
  unfold pt at cB cO
  go_enter Tryz.func13, Tryz.ntmps13
  ((repeat ((fail_if_success (with_reducible refine Go.at_region ?_)); go_step)); refine wp_region_lit ?_)
  (refine wpList_plain rfl fun K hK => ?_; go_simp; refine hK _ _ ?_; clear hK K; (try simp only [Act.put, pvA, pv0, pv1]))
  refine wpList_nil ?_
  ((repeat ((fail_if_success (with_reducible refine Go.at_region ?_)); go_step)); refine wp_region_lit ?_)
  (refine wpList_plain rfl fun K hK => ?_; go_simp; refine (seed_any _).mono ?_; rintro _ w1 ⟨v1, rfl, hr1, hs1⟩; refine hK _ _ ?_; clear hK K; (try simp only [Act.put, pvA, pv0, pv1]))
  (refine wpList_plain rfl fun K hK => ?_; go_simp; refine (cPb.out _ _ hr1).mono ?_; rintro _ w2 ⟨rfl, hs2⟩; refine hK _ _ ?_; clear hK K; (try simp only [Act.put, pvA, pv0, pv1]))
  iterate 3 (refine wpList_plain rfl fun K hK => ?_; go_simp; refine hK _ _ ?_; clear hK K; (try simp only [Act.put, pvA, pv0, pv1]))
  have hs12 := hs1.trans (hs2.mono hs1.size)
  clear hr1 hs1 hs2
  (refine wpList_new 28 (cellsY zKey) rfl rfl zK ?_; intro G1 w3 hle3 hs3 hn3; (try simp only [Act.put, pvA, pv0, pv1]))
  (refine wpList_set 28 (.tmp 1) (.tmp 8) rfl rfl rfl G1 (cellsY kyL) rfl rfl 28 (cellsY zKey) hn3 iKy.out zK1.out (one_cellsY _) ?_)
  (refine wpList_plain rfl fun K hK => ?_; go_simp; refine hK _ _ ?_; clear hK K; (try simp only [Act.put, pvA, pv0, pv1]))
  refine wpList_nil ?_
  have hG1 : w.heap.size ≤ G1 := by have := hs12.size; omega
  have fb1 := hid (hn3.set (cellsY kyL))
  have hbl4 := below_set (hs12.trans (hs3.mono hs12.size)) G1 hG1 (cellsY kyL)
  generalize w3.setRow G1 (cellsY kyL) = w4' at fb1 hbl4 ⊢
  clear hs12 hs3 hle3 hn3
  ((repeat ((fail_if_success (with_reducible refine Go.at_region ?_)); go_step)); refine wp_region_lit ?_)
  (refine wpList_plain rfl fun K hK => ?_; go_simp; refine (seed_any _).mono ?_; rintro _ w5 ⟨v5, rfl, hr5, hs5⟩; refine hK _ _ ?_; clear hK K; (try simp only [Act.put, pvA, pv0, pv1]))
  (refine wpList_plain rfl fun K hK => ?_; go_simp; refine (cSg.out _ _ hr5).mono ?_; rintro _ w6 ⟨rfl, hs6⟩; refine hK _ _ ?_; clear hK K; (try simp only [Act.put, pvA, pv0, pv1]))
  iterate 3 (refine wpList_plain rfl fun K hK => ?_; go_simp; refine hK _ _ ?_; clear hK K; (try simp only [Act.put, pvA, pv0, pv1]))
  have hs56 := hs5.trans (hs6.mono hs5.size)
  clear hr5 hs5 hs6
  (refine wpList_new 45 (cellsY zSig) rfl rfl zSg ?_; intro G3 w7 hle7 hs7 hn7; (try simp only [Act.put, pvA, pv0, pv1]))
  (refine wpList_set 45 (.tmp 3) (.tmp 13) rfl rfl rfl G3 (cellsY alS) rfl rfl 45 (cellsY zSig) hn7 iS.out zS1.out (one_cellsY _) ?_)
  (refine wpList_plain rfl fun K hK => ?_; go_simp; refine hK _ _ ?_; clear hK K; (try simp only [Act.put, pvA, pv0, pv1]))
  refine wpList_nil ?_
  have n13 : G1 ≠ G3 := by have := fb1.out.lt; have := hs56.size; omega
  have hG3 : w.heap.size ≤ G3 := by have := hbl4.size; have := hs56.size; omega
  have hb1 := hid (((fb1.out.step hs56).step hs7).other n13 (cellsY alS))
  have hb3 := hid (hn7.set (cellsY alS))
  have hbl8 := below_set (hbl4.trans ((hs56.trans (hs7.mono hs56.size)).mono hbl4.size)) G3 hG3 (cellsY alS)
  generalize w7.setRow G3 (cellsY alS) = w8 at hb1 hb3 hbl8 ⊢
  clear fb1 hbl4 hs56 hs7 hle7 hn7 cPb cSg
  (repeat ((fail_if_success (with_reducible refine Go.at_region ?_)); go_step))
  refine list_tail 38 ?_
  simp only [List.take_succ_cons, List.take_zero]
  iterate 4 (apply calm_on rfl; (focus (intro W hB; go_simp; exact ⟨rfl, Below.refl _ _⟩)); simp only [Act.put, pvA, pv0, pv1])
  (refine calm_cell rfl 5 (.tmp 18) rfl G1 0 rfl 28 (cellsY kyL) hb1.out (.int .u8 215) rfl o8 ?_; simp only [Act.put, pvA, pv0, pv1])
  iterate 4 (apply calm_on rfl; (focus (intro W hB; go_simp; exact ⟨rfl, Below.refl _ _⟩)); simp only [Act.put, pvA, pv0, pv1])
  (refine calm_cell rfl 5 (.tmp 23) rfl G1 1 rfl 28 (cellsY kyL) hb1.out (.int .u8 90) rfl o8 ?_; simp only [Act.put, pvA, pv0, pv1])
  iterate 4 (apply calm_on rfl; (focus (intro W hB; go_simp; exact ⟨rfl, Below.refl _ _⟩)); simp only [Act.put, pvA, pv0, pv1])
  (refine calm_cell rfl 5 (.tmp 28) rfl G1 31 rfl 28 (cellsY kyL) hb1.out (.int .u8 26) rfl o8 ?_; simp only [Act.put, pvA, pv0, pv1])
  iterate 8 (apply calm_on rfl; (focus (intro W hB; go_simp; exact ⟨rfl, Below.refl _ _⟩)); simp only [Act.put, pvA, pv0, pv1])
  (refine calm_cell rfl 5 (.tmp 37) rfl G3 0 rfl 45 (cellsY alS) hb3.out (.int .u8 229) rfl o8 ?_; simp only [Act.put, pvA, pv0, pv1])
  iterate 4 (apply calm_on rfl; (focus (intro W hB; go_simp; exact ⟨rfl, Below.refl _ _⟩)); simp only [Act.put, pvA, pv0, pv1])
  (refine calm_cell rfl 5 (.tmp 42) rfl G3 1 rfl 45 (cellsY alS) hb3.out (.int .u8 86) rfl o8 ?_; simp only [Act.put, pvA, pv0, pv1])
  iterate 3 (apply calm_on rfl; (focus (intro W hB; go_simp; exact ⟨rfl, Below.refl _ _⟩)); simp only [Act.put, pvA, pv0, pv1])
  (refine calm_whole rfl 28 (.tmp 1) rfl G1 rfl 28 (cellsY kyL) hb1.out gK iKy.out ?_; simp only [Act.put, pvA, pv0, pv1])
  (refine calm_whole rfl 45 (.tmp 3) rfl G3 rfl 45 (cellsY alS) hb3.out gSig iS.out ?_; simp only [Act.put, pvA, pv0, pv1])
  (apply calm_on rfl; (focus (intro W hB; go_simp; refine (cV.out W).mono ?_; rintro _ _ ⟨rfl, hb'⟩; exact ⟨rfl, hb'⟩)); simp only [Act.put, pvA, pv0, pv1])
  iterate 2 (apply calm_on rfl; (focus (intro W hB; go_simp; exact ⟨rfl, Below.refl _ _⟩)); simp only [Act.put, pvA, pv0, pv1])
  (refine calm_whole rfl 28 (.tmp 1) rfl G1 rfl 28 (cellsY kyL) hb1.out gK iKy.out ?_; simp only [Act.put, pvA, pv0, pv1])
  refine calm_nil ?_
  intro w9 hs9
  simp only [List.drop_succ_cons, List.drop_zero]
  have hn10 := Blk.new 5 w9 (cellsY [1])
  have hb10 := below_alloc w9 (.cells (cellsY [1]) 5)
  have hr10 := hid (blk_all hn10 (n := 1) rfl)
  have g3 := hid ((hb3.out.step hs9).step hb10)
  have hbl10 := (hbl8.trans (hs9.mono hbl8.size)).trans (hb10.mono (hbl8.trans (hs9.mono hbl8.size)).size)
  clear hn10 hb10 hb1 hb3 hbl8 hs9
  (refine wpList_on rfl fun K hK => ?_; go_simp; refine hK _ (w9.alloc (.cells (cellsY [1]) 5)) ?_; clear hK K; (try simp only [Act.put, pvA, pv0, pv1]))
  generalize w9.alloc (.cells (cellsY [1]) 5) = w10 at hr10 g3 hbl10 ⊢
  (refine wpList_on rfl fun K hK => wp_load_block 45 (.tmp 3) rfl G3 rfl 45 (cellsY alS) (0, 0) g3.out uSig rfl iS.out (hK _ _ ?_); clear hK K; simp only [Act.put, pvA, pv0, pv1])
  (refine wpList_on rfl fun K hK => ?_; go_simp; refine (cF.out _ _ hr10.out).mono ?_; rintro _ w11 ⟨rfl, hs11⟩; refine hK _ _ ?_; clear hK K; (try simp only [Act.put, pvA, pv0, pv1]))
  iterate 3 (refine wpList_on rfl fun K hK => ?_; go_simp; refine hK _ _ ?_; clear hK K; (try simp only [Act.put, pvA, pv0, pv1]))
  (refine wpList_on rfl fun K hK => ?_; go_simp; refine (cB.out _).mono ?_; rintro _ w12 ⟨rfl, hs12⟩; refine hK _ _ ?_; clear hK K; (try simp only [Act.put, pvA, pv0, pv1]))
  (refine wpList_on rfl fun K hK => ?_; go_simp; refine (cO.out _).mono ?_; rintro _ w13 ⟨rfl, hs13⟩; refine hK _ _ ?_; clear hK K; (try simp only [Act.put, pvA, pv0, pv1]))
  iterate 2 (refine wpList_on rfl fun K hK => ?_; go_simp; refine hK _ _ ?_; clear hK K; (try simp only [Act.put, pvA, pv0, pv1]))
  refine wpList_nil ?_
  (repeat ((fail_if_success (with_reducible refine Go.at_region ?_)); go_step))
  go_ret
  have h1 := hs11.trans (hs12.mono hs11.size)
  have h2 := h1.trans (hs13.mono h1.size)
  exact ⟨rfl, hbl10.trans (h2.mono hbl10.size)⟩
end Go.Proofs.YtejnnghfelpioaaGreat
namespace Go.Proofs.YtejnnghfelpioaaGreat
open Go.RowKit
theorem word_arg (xs : List Int) (hl : xs.length = 4) (hw : ∀ y ∈ xs, (Lit.int .u64 y).wf = true) : ∃ x, x < 2 ^ 256 ∧ (.agg (xs.map (Value.int .u64)).toArray : Value) = wd x := by
  obtain ⟨a, b, c, d, rfl⟩ := len4 hl
  have ha := wf_u64 (hw a (by simp))
  have hb := wf_u64 (hw b (by simp))
  have hc := wf_u64 (hw c (by simp))
  have hd := wf_u64 (hw d (by simp))
  refine ⟨mk4 a.toNat b.toNat c.toNat d.toNat, mk4_lt _ _ _ _ (by omega) (by omega) (by omega) (by omega), ?_⟩
  unfold wd
  rw [cellsW_mk4 _ _ _ _ (by omega) (by omega) (by omega) (by omega), show ((a.toNat : Nat) : Int) = a by omega, show ((b.toNat : Nat) : Int) = b by omega, show ((c.toNat : Nat) : Int) = c by omega, show ((d.toNat : Nat) : Int) = d by omega]
  rfl
end Go.Proofs.YtejnnghfelpioaaGreat
namespace Go.Proofs.YtejnnghfelpioaaGreat
open Go.RowKit
end Go.Proofs.YtejnnghfelpioaaGreat
namespace Go.Proofs.YtejnnghfelpioaaGreat
open Go.RowKit
end Go.Proofs.YtejnnghfelpioaaGreat
namespace Go.Proofs.YtejnnghfelpioaaGreat
open Go.ChangeShapes Go.WideShapes Go.ChangeAt Go.RowKit
theorem fieldsPr : Tryz.prog.underlying 26 = some (.struct (Tryz.prog.fieldsOf 26)) := by kernel_rfl
theorem fieldsPr2 : (Tryz.prog.fieldsOf 26).toList.map (fun f => (f.type, f.offset)) = [(24, 0), (24, 4)] := by kernel_rfl
theorem uWd4 : Tryz.prog.underlying 24 = some (.array 4 22) := by kernel_rfl
theorem uU64 : Tryz.prog.underlying 22 = some (.int .u64) := by kernel_rfl
theorem cU64 : Tryz.prog.cellsOf 22 = 1 := by kernel_rfl
theorem cWd4 : Tryz.prog.cellsOf 24 = 4 := by kernel_rfl
theorem cPr8 : Tryz.prog.cellsOf 26 = 8 := by kernel_rfl
section
variable {H : Type} {enc : TypeId × Value → H} {W : World} {base : Nat} {r : Reach} {sp : Nat → Bool} {held : Bool}
theorem arg_pt {b0 : Nat} {v : Value} {d : DataW H} {p : List MemPlace} (hval : Value.okWide Tryz.prog W r base 26 v) (h : DataW.Trod enc Tryz.prog W b0 sp held 26 v d p) : ∃ q : P2, v = pt q ∧ LtP q := by
  simp only [Value.okWide, fieldsPr] at hval
  obtain ⟨cs, rfl, _, _⟩ := hval
  obtain ⟨fuel, hf⟩ := h
  obtain ⟨xs, m, _, _, hl, hn, hel⟩ := DataW.trod_struct fieldsPr hf
  have hfs := fieldsPr2
  obtain ⟨f0, f1, hfl⟩ : ∃ f0 f1, (Tryz.prog.fieldsOf 26).toList = [f0, f1] := by
    match h : (Tryz.prog.fieldsOf 26).toList with
    | [] => rw [h] at hfs; simp at hfs
    | [_] => rw [h] at hfs; simp at hfs
    | [f0, f1] => exact ⟨f0, f1, rfl⟩
    | _ :: _ :: _ :: _ => rw [h] at hfs; simp at hfs
  rw [hfl] at hfs
  simp only [List.map_cons, List.map_nil, List.cons.injEq, Prod.mk.injEq, and_true] at hfs
  obtain ⟨⟨t0, o0⟩, t1, o1⟩ := hfs
  have g0 : (Tryz.prog.fieldsOf 26)[0]? = some f0 := by rw [← Array.getElem?_toList, hfl]; rfl
  have g1 : (Tryz.prog.fieldsOf 26)[1]? = some f1 := by rw [← Array.getElem?_toList, hfl]; rfl
  have hn2 : xs.length = 2 := by rw [hn, ← Array.length_toList, hfl]; rfl
  have h0 := hel 0 f0 g0
  have h1 := hel 1 f1 g1
  rw [t0, o0, cWd4] at h0
  rw [t1, o1, cWd4] at h1
  match xs, hn2 with
  | [y0, y1], _ =>
    obtain ⟨a, ha, la, wa⟩ := cells_arr uWd4 uU64 cU64 cWd4 (by simpa using h0)
    obtain ⟨b, hb, lb, wb⟩ := cells_arr uWd4 uU64 cU64 cWd4 (by simpa using h1)
    obtain ⟨x, hx, ex⟩ := word_arg a la wa
    obtain ⟨y, hy, ey⟩ := word_arg b lb wb
    refine ⟨⟨x, y⟩, ?_, hx, hy⟩
    rw [cPr8] at hl
    have ex2 : (a.map (Value.int .u64)) = (cellsW x).toList := by unfold wd at ex; have := Value.agg.inj ex; rw [← this]
    have ey2 : (b.map (Value.int .u64)) = (cellsW y).toList := by unfold wd at ey; have := Value.agg.inj ey; rw [← this]
    have hcs : cs.toList = (cellsW x).toList ++ (cellsW y).toList := by
      have e1 : cs.toList = cs.toList.take 4 ++ (cs.toList.drop 4).take 4 := by
        rw [List.take_of_length_le (l := cs.toList.drop 4) (by have : cs.toList.length = 8 := hl; rw [List.length_drop]; omega), List.take_append_drop]
      have ha' : cs.toList.take 4 = a.map (Value.int .u64) := ha
      have hb' : (cs.toList.drop 4).take 4 = b.map (Value.int .u64) := hb
      rw [e1, ha', hb', ex2, ey2]
    unfold pt
    congr 1
    apply Array.ext'
    rw [hcs]
    rfl
end
theorem rbase_any (w : World) : Calls Tryz.prog 27 #[] w fun e w' => e = .returned (pt baseP) ∧ Below w.heap.size w w' := by
  have kx := hid bsxN_built
  have ky := hid bsyN_built
  have hbp : baseP = ⟨bsxN, bsyN⟩ := rfl
  rw [hbp]
  clear hbp
  obtain ⟨x, hx⟩ : ∃ x, x = bsxN := ⟨_, rfl⟩
  obtain ⟨y, hy⟩ : ∃ y, y = bsyN := ⟨_, rfl⟩
  rw [← hx] at kx ⊢
  rw [← hy] at ky ⊢
  clear hx hy
  unfold pt
  obtain ⟨w0, hw0, k1, hbl0⟩ := entry1 w 26 (cellsP zeroP)
  go_enter Tryz.func27, Tryz.ntmps27
  ((repeat ((fail_if_success (with_reducible refine Go.at_region ?_)); go_step)); refine wp_region_lit ?_)
  (refine wpList_alloc_new rfl 26 rfl (cellsP zeroP) zPr ?_; simp only [Act.put, pvA, pv0, pv1]; (try simp only [World.size_alloc]))
  refine wpList_nil ?_
  rw [← hw0]
  clear hw0
  ((repeat ((fail_if_success (with_reducible refine Go.at_region ?_)); go_step)); refine wp_region_lit ?_)
  (refine wpList_built rfl 24 _ rfl (cellsW x) (by first | (simp only [List.map_toArray, List.map_cons, List.map_nil]; exact kx.out) | exact kx.out) ?_; simp only [Act.put, pvA, pv0, pv1])
  (refine wpList_built rfl 24 _ rfl (cellsW y) (by first | (simp only [List.map_toArray, List.map_cons, List.map_nil]; exact ky.out) | exact ky.out) ?_; simp only [Act.put, pvA, pv0, pv1])
  (refine wpList_built rfl 26 _ rfl (cellsP ⟨x, y⟩) (by first | (simp only [List.map_toArray, List.map_cons, List.map_nil]; exact (bPr x y)) | exact (bPr x y)) ?_; simp only [Act.put, pvA, pv0, pv1])
  (refine wpList_set 26 (.tmp 0) (.tmp 3) rfl rfl rfl w.heap.size (cellsP ⟨x, y⟩) rfl rfl 26 (cellsP zeroP) k1 (iPr _) rfl (one_cellsP _) ?_)
  refine wpList_nil ?_
  have kb := k1.set (cellsP ⟨x, y⟩)
  have hbe := below_set hbl0 w.heap.size (Nat.le_refl _) (cellsP ⟨x, y⟩)
  (repeat ((fail_if_success (with_reducible refine Go.at_region ?_)); go_step))
  refine ret_blk w.heap.size 26 _ rfl rfl kb gPr (iPr _) rfl ?_
  exact ⟨rfl, hbe⟩
set_option maxRecDepth 20000 in
theorem own_any (p : P2) (w : World) : Calls Tryz.prog 10 #[pt p] w fun e w' => e = .returned (pt p) ∧ Below w.heap.size w w' := by
  unfold pt
  obtain ⟨w0, hw0, k1, k2, hbl0⟩ := entry2 w 26 (cellsP p) 29 (cellsP zeroP)
  have bB : Tryz.prog.built 29 [(0, .agg (cellsW p.x)), (1, .agg (cellsW p.y))] = some (cellsP p) := bPe p.x p.y
  go_enter Tryz.func10, Tryz.ntmps10
  ((repeat ((fail_if_success (with_reducible refine Go.at_region ?_)); go_step)); refine wp_region_lit ?_)
  (refine wpList_box 26 (.tmp 0) rfl rfl (cellsP p) rfl ?_; simp only [Act.put, pvA, pv0, pv1]; (try simp only [World.size_alloc]))
  (refine wpList_alloc_new rfl 29 rfl (cellsP zeroP) zPe ?_; simp only [Act.put, pvA, pv0, pv1]; (try simp only [World.size_alloc]))
  refine wpList_nil ?_
  rw [← hw0]
  clear hw0
  ((repeat ((fail_if_success (with_reducible refine Go.at_region ?_)); go_step)); refine wp_region_lit ?_)
  (refine wpList_plain rfl fun K hK => ?_; go_simp; refine hK _ _ ?_; clear hK K; (try simp only [Act.put, pvA, pv0, pv1]))
  (refine wpList_getp 24 (.tmp 3) rfl rfl w.heap.size 0 rfl 26 (cellsP p) (cellsW p.x) k1 (inP_x p) gWd (iW p.x) ?_; simp only [Act.put, pvA, pv0, pv1])
  (refine wpList_plain rfl fun K hK => ?_; go_simp; refine hK _ _ ?_; clear hK K; (try simp only [Act.put, pvA, pv0, pv1]))
  (refine wpList_getp 24 (.tmp 5) rfl rfl w.heap.size 4 rfl 26 (cellsP p) (cellsW p.y) k1 (inP_y p) gWd (iW p.y) ?_; simp only [Act.put, pvA, pv0, pv1])
  (refine wpList_built rfl 29 _ rfl (cellsP p) (by first | (simp only [List.map_toArray, List.map_cons, List.map_nil]; exact bB) | exact bB) ?_; simp only [Act.put, pvA, pv0, pv1])
  (refine wpList_set 29 (.tmp 2) (.tmp 7) rfl rfl rfl (w.heap.size + 1) (cellsP p) rfl rfl 29 (cellsP zeroP) k2 (iPe _) rfl (one_cellsP _) ?_)
  refine wpList_nil ?_
  have kb := k2.set (cellsP p)
  have hbe := below_set hbl0 (w.heap.size + 1) (by omega) (cellsP p)
  (repeat ((fail_if_success (with_reducible refine Go.at_region ?_)); go_step))
  refine ret_blk (w.heap.size + 1) 29 _ rfl rfl kb gPe (iPe _) rfl ?_
  exact ⟨rfl, hbe⟩
set_option maxRecDepth 20000 in
theorem samep_any (p : P2) (w : World) (hp : LtP p) : Calls Tryz.prog 12 #[pt p, pt p] w fun e w' => e = .returned (.bool true) ∧ Below w.heap.size w w' := by
  have e1 := eq_wd p.x p.x hp.x hp.x
  have e2 := eq_wd p.y p.y hp.y hp.y
  rw [decide_eq_true rfl] at e1 e2
  unfold pt
  obtain ⟨w0, hw0, k1, k2, hbl0⟩ := entry2 w 29 (cellsP p) 26 (cellsP p)
  go_enter Tryz.func12, Tryz.ntmps12
  ((repeat ((fail_if_success (with_reducible refine Go.at_region ?_)); go_step)); refine wp_region_lit ?_)
  (refine wpList_box 29 (.tmp 0) rfl rfl (cellsP p) rfl ?_; simp only [Act.put, pvA, pv0, pv1]; (try simp only [World.size_alloc]))
  (refine wpList_box 26 (.tmp 1) rfl rfl (cellsP p) rfl ?_; simp only [Act.put, pvA, pv0, pv1]; (try simp only [World.size_alloc]))
  (refine wpList_plain rfl fun K hK => ?_; go_simp; refine hK _ _ ?_; clear hK K; (try simp only [Act.put, pvA, pv0, pv1]))
  refine wpList_nil ?_
  rw [← hw0]
  clear hw0
  (repeat ((fail_if_success (with_reducible refine Go.at_region ?_)); go_step))
  refine list_all ?_
  (apply calm_on rfl; (focus (intro W hB; go_simp; exact ⟨rfl, Below.refl _ _⟩)); simp only [Act.put, pvA, pv0, pv1])
  (refine calm_part rfl 24 (.tmp 5) rfl w.heap.size 0 rfl 29 (cellsP p) (cellsW p.x) k1 (inP_x p) gWd (iW p.x) ?_; simp only [Act.put, pvA, pv0, pv1])
  (apply calm_on rfl; (focus (intro W hB; go_simp; exact ⟨rfl, Below.refl _ _⟩)); simp only [Act.put, pvA, pv0, pv1])
  (refine calm_part rfl 24 (.tmp 7) rfl (w.heap.size + 1) 0 rfl 26 (cellsP p) (cellsW p.x) k2 (inP_x p) gWd (iW p.x) ?_; simp only [Act.put, pvA, pv0, pv1])
  iterate 3 (apply calm_on rfl; (focus (intro W hB; go_simp; exact ⟨rfl, Below.refl _ _⟩)); simp only [Act.put, pvA, pv0, pv1])
  (refine calm_part rfl 24 (.tmp 11) rfl w.heap.size 4 rfl 29 (cellsP p) (cellsW p.y) k1 (inP_y p) gWd (iW p.y) ?_; simp only [Act.put, pvA, pv0, pv1])
  (apply calm_on rfl; (focus (intro W hB; go_simp; exact ⟨rfl, Below.refl _ _⟩)); simp only [Act.put, pvA, pv0, pv1])
  (refine calm_part rfl 24 (.tmp 13) rfl (w.heap.size + 1) 4 rfl 26 (cellsP p) (cellsW p.y) k2 (inP_y p) gWd (iW p.y) ?_; simp only [Act.put, pvA, pv0, pv1])
  iterate 3 (apply calm_on rfl; (focus (intro W hB; go_simp; exact ⟨rfl, Below.refl _ _⟩)); simp only [Act.put, pvA, pv0, pv1])
  refine calm_nil ?_
  intro w1 hs1
  (try dsimp only)
  (repeat ((fail_if_success (with_reducible refine Go.at_region ?_)); go_step))
  go_ret
  exact ⟨rfl, hbl0.trans (hs1.mono hbl0.size)⟩
end Go.Proofs.YtejnnghfelpioaaGreat
namespace Go.Proofs.YtejnnghfelpioaaGreat
open Go.RowKit
set_option maxRecDepth 100000 in
set_option maxHeartbeats 8000000 in
theorem walk_EdPoints (w : World) (p : P2) (hp : LtP p) (q : P2) (hq : LtP q) (x0 : List Int) (lx : x0.length = 4) (wx : ∀ y ∈ x0, (Lit.int .u64 y).wf = true) :
    Calls Tryz.prog 6 #[pt p, pt q, .agg (x0.map (Value.int .u64)).toArray] w fun e w' => e = .returned (.bool true) ∧ Below w.heap.size w w' := by
  obtain ⟨n, hn, e0⟩ := word_arg x0 lx wx
  rw [e0]
  clear e0 lx wx
  have cOn := hid fun w => on_any p w hp
  have cRn := hid fun w => ron_any p w hp
  rw [← on_same w p hp] at cRn
  have cP := hid fun w => own_any p w
  have cQ := hid fun w => own_any q w
  have cA := hid fun w => add_any p q w hp hq
  have cRA := hid fun w => raddP_any p q w hp hq
  rw [← add_law w p q hp hq] at cRA
  have cSA := hid fun w => samep_any (addP p q) w (addP_lt _ _)
  have cM := hid fun w => mul_any n p w hp
  have cRM := hid fun w => rmulP_any n p w hp
  rw [← mul_law w n p hp] at cRM
  have cSM := hid fun w => samep_any (mulP n p) w (mulP_lt _ _)
  have cB := hid fun w => base_any w
  have cRB := hid fun w => rbase_any w
  have cSB := hid fun w => samep_any baseP w base_lt
  have cL := hid fun w => ealive_any w
  generalize onB p = b at cOn cRn
  generalize addP p q = a at cA cRA cSA
  generalize mulP n p = m at cM cRM cSM
  generalize baseP = pb at cB cRB cSB
  clear hn hp hq
  unfold pt at *
  unfold wd at *
  obtain ⟨w0, hw0, k3, k4, k5, hbl0⟩ := entry3 w 26 (cellsP p) 26 (cellsP q) 24 (cellsW n)
  go_enter Tryz.func6, Tryz.ntmps6
  ((repeat ((fail_if_success (with_reducible refine Go.at_region ?_)); go_step)); refine wp_region_lit ?_)
  (refine wpList_box 26 (.tmp 0) rfl rfl (cellsP p) rfl ?_; simp only [Act.put, pvA, pv0, pv1]; (try simp only [World.size_alloc]))
  (refine wpList_box 26 (.tmp 1) rfl rfl (cellsP q) rfl ?_; simp only [Act.put, pvA, pv0, pv1]; (try simp only [World.size_alloc]))
  (refine wpList_box 24 (.tmp 2) rfl rfl (cellsW n) rfl ?_; simp only [Act.put, pvA, pv0, pv1]; (try simp only [World.size_alloc]))
  (refine wpList_plain rfl fun K hK => ?_; go_simp; refine hK _ _ ?_; clear hK K; (try simp only [Act.put, pvA, pv0, pv1]))
  refine wpList_nil ?_
  rw [← hw0]
  clear hw0
  have hb3 := hid k3
  have hb4 := hid k4
  have hb5 := hid k5
  clear k3 k4 k5
  (repeat ((fail_if_success (with_reducible refine Go.at_region ?_)); go_step))
  refine draw_all (by kernel_rfl) (by kernel_rfl) (by kernel_rfl) ?_
  (refine calm_whole rfl 26 (.tmp 3) rfl w.heap.size rfl 26 (cellsP p) hb3.out gPr (iPr p) ?_; simp only [Act.put, pvA, pv0, pv1])
  (apply calm_on rfl; (focus (intro W hB; go_simp; refine (cP.out W).mono ?_; rintro _ _ ⟨rfl, hb'⟩; exact ⟨rfl, hb'⟩)); simp only [Act.put, pvA, pv0, pv1])
  (apply calm_on rfl; (focus (intro W hB; go_simp; refine (cOn.out W).mono ?_; rintro _ _ ⟨rfl, hb'⟩; exact ⟨rfl, hb'⟩)); simp only [Act.put, pvA, pv0, pv1])
  (refine calm_whole rfl 26 (.tmp 3) rfl w.heap.size rfl 26 (cellsP p) hb3.out gPr (iPr p) ?_; simp only [Act.put, pvA, pv0, pv1])
  (apply calm_on rfl; (focus (intro W hB; go_simp; refine (cRn.out W).mono ?_; rintro _ _ ⟨rfl, hb'⟩; exact ⟨rfl, hb'⟩)); simp only [Act.put, pvA, pv0, pv1])
  iterate 2 (apply calm_on rfl; (focus (intro W hB; go_simp; exact ⟨rfl, Below.refl _ _⟩)); simp only [Act.put, pvA, pv0, pv1])
  (refine calm_whole rfl 26 (.tmp 3) rfl w.heap.size rfl 26 (cellsP p) hb3.out gPr (iPr p) ?_; simp only [Act.put, pvA, pv0, pv1])
  (apply calm_on rfl; (focus (intro W hB; go_simp; refine (cP.out W).mono ?_; rintro _ _ ⟨rfl, hb'⟩; exact ⟨rfl, hb'⟩)); simp only [Act.put, pvA, pv0, pv1])
  (refine calm_whole rfl 26 (.tmp 4) rfl (w.heap.size + 1) rfl 26 (cellsP q) hb4.out gPr (iPr q) ?_; simp only [Act.put, pvA, pv0, pv1])
  (apply calm_on rfl; (focus (intro W hB; go_simp; refine (cQ.out W).mono ?_; rintro _ _ ⟨rfl, hb'⟩; exact ⟨rfl, hb'⟩)); simp only [Act.put, pvA, pv0, pv1])
  (apply calm_on rfl; (focus (intro W hB; go_simp; refine (cA.out W).mono ?_; rintro _ _ ⟨rfl, hb'⟩; exact ⟨rfl, hb'⟩)); simp only [Act.put, pvA, pv0, pv1])
  (refine calm_whole rfl 26 (.tmp 3) rfl w.heap.size rfl 26 (cellsP p) hb3.out gPr (iPr p) ?_; simp only [Act.put, pvA, pv0, pv1])
  (refine calm_whole rfl 26 (.tmp 4) rfl (w.heap.size + 1) rfl 26 (cellsP q) hb4.out gPr (iPr q) ?_; simp only [Act.put, pvA, pv0, pv1])
  (apply calm_on rfl; (focus (intro W hB; go_simp; refine (cRA.out W).mono ?_; rintro _ _ ⟨rfl, hb'⟩; exact ⟨rfl, hb'⟩)); simp only [Act.put, pvA, pv0, pv1])
  (apply calm_on rfl; (focus (intro W hB; go_simp; refine (cSA.out W).mono ?_; rintro _ _ ⟨rfl, hb'⟩; exact ⟨rfl, hb'⟩)); simp only [Act.put, pvA, pv0, pv1])
  iterate 2 (apply calm_on rfl; (focus (intro W hB; go_simp; exact ⟨rfl, Below.refl _ _⟩)); simp only [Act.put, pvA, pv0, pv1])
  (refine calm_whole rfl 24 (.tmp 5) rfl (w.heap.size + 1 + 1) rfl 24 (cellsW n) hb5.out gWd (iW n) ?_; simp only [Act.put, pvA, pv0, pv1])
  (refine calm_whole rfl 26 (.tmp 3) rfl w.heap.size rfl 26 (cellsP p) hb3.out gPr (iPr p) ?_; simp only [Act.put, pvA, pv0, pv1])
  (apply calm_on rfl; (focus (intro W hB; go_simp; refine (cP.out W).mono ?_; rintro _ _ ⟨rfl, hb'⟩; exact ⟨rfl, hb'⟩)); simp only [Act.put, pvA, pv0, pv1])
  (apply calm_on rfl; (focus (intro W hB; go_simp; refine (cM.out W).mono ?_; rintro _ _ ⟨rfl, hb'⟩; exact ⟨rfl, hb'⟩)); simp only [Act.put, pvA, pv0, pv1])
  (refine calm_whole rfl 24 (.tmp 5) rfl (w.heap.size + 1 + 1) rfl 24 (cellsW n) hb5.out gWd (iW n) ?_; simp only [Act.put, pvA, pv0, pv1])
  (refine calm_whole rfl 26 (.tmp 3) rfl w.heap.size rfl 26 (cellsP p) hb3.out gPr (iPr p) ?_; simp only [Act.put, pvA, pv0, pv1])
  (apply calm_on rfl; (focus (intro W hB; go_simp; refine (cRM.out W).mono ?_; rintro _ _ ⟨rfl, hb'⟩; exact ⟨rfl, hb'⟩)); simp only [Act.put, pvA, pv0, pv1])
  (apply calm_on rfl; (focus (intro W hB; go_simp; refine (cSM.out W).mono ?_; rintro _ _ ⟨rfl, hb'⟩; exact ⟨rfl, hb'⟩)); simp only [Act.put, pvA, pv0, pv1])
  iterate 2 (apply calm_on rfl; (focus (intro W hB; go_simp; exact ⟨rfl, Below.refl _ _⟩)); simp only [Act.put, pvA, pv0, pv1])
  (apply calm_on rfl; (focus (intro W hB; go_simp; refine (cB.out W).mono ?_; rintro _ _ ⟨rfl, hb'⟩; exact ⟨rfl, hb'⟩)); simp only [Act.put, pvA, pv0, pv1])
  (apply calm_on rfl; (focus (intro W hB; go_simp; refine (cRB.out W).mono ?_; rintro _ _ ⟨rfl, hb'⟩; exact ⟨rfl, hb'⟩)); simp only [Act.put, pvA, pv0, pv1])
  (apply calm_on rfl; (focus (intro W hB; go_simp; refine (cSB.out W).mono ?_; rintro _ _ ⟨rfl, hb'⟩; exact ⟨rfl, hb'⟩)); simp only [Act.put, pvA, pv0, pv1])
  iterate 2 (apply calm_on rfl; (focus (intro W hB; go_simp; exact ⟨rfl, Below.refl _ _⟩)); simp only [Act.put, pvA, pv0, pv1])
  (apply calm_on rfl; (focus (intro W hB; go_simp; refine (cL.out W).mono ?_; rintro _ _ ⟨rfl, hb'⟩; exact ⟨rfl, hb'⟩)); simp only [Act.put, pvA, pv0, pv1])
  iterate 2 (apply calm_on rfl; (focus (intro W hB; go_simp; exact ⟨rfl, Below.refl _ _⟩)); simp only [Act.put, pvA, pv0, pv1])
  refine calm_nil ?_
  intro w1 hs1
  (try dsimp only)
  (repeat ((fail_if_success (with_reducible refine Go.at_region ?_)); go_step))
  go_ret
  exact ⟨rfl, hbl0.trans (hs1.mono hbl0.size)⟩
end Go.Proofs.YtejnnghfelpioaaGreat
