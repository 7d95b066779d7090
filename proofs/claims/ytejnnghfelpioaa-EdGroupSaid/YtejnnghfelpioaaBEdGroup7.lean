import Derived.Laws.IdiomStrings
import Derived.Test.YtejnnghfelpioaaBEdGroup6
set_option maxRecDepth 4000
set_option linter.unusedVariables false
set_option linter.unusedSimpArgs false
namespace Go.Proofs.Ytejnnghfelpioaa
open Go.RowKit
theorem decP_lt (k : List (BitVec 8)) : LtP (decP k) := by
  unfold decP
  have hx : sqX (decA k) < 2 ^ 256 := by
    unfold sqX
    split
    · split
      · have := sq1_lt (decA k); have := pN_lt; omega
      · exact Nat.lt_trans (sq1_lt _) pN_lt
    · decide
  split
  · refine ⟨?_, fdN_lt _ _⟩
    show (if oddB k = true then subP 0 (sqX (decA k)) else sqX (decA k)) < 2 ^ 256
    split
    · exact p_mod_lt _
    · exact hx
  · exact zeroP_lt
def verN (s : List (BitVec 8)) : Nat := fdN lN (s.drop 32)
def verA (k : List (BitVec 8)) : P2 := ⟨subP 0 (decP k).x, (decP k).y⟩
theorem verA_lt (k : List (BitVec 8)) : LtP (verA k) := ⟨p_mod_lt _, (decP_lt k).y⟩
def verG (k msg s : List (BitVec 8)) : W4 := bothW (verN s) (widenW baseP) (hashN [s.take 32, k, msg]) (widenW (verA k))
def verX (k msg s : List (BitVec 8)) : Bool := decide (val5 (mul5 (fOf (decP (s.take 32)).x) (verG k msg s).z) % pN = val5 (verG k msg s).x % pN)
def verY (k msg s : List (BitVec 8)) : Bool := decide (val5 (mul5 (fOf (decP (s.take 32)).y) (verG k msg s).z) % pN = val5 (verG k msg s).y % pN)
def verOk (k s : List (BitVec 8)) : Bool := decide (fdE lN (s.drop 32) = 0) && (decide (decE k = 0) && decide (decE (s.take 32) = 0))
def verB (k msg s : List (BitVec 8)) : Bool := verOk k s && (verX k msg s && verY k msg s)
set_option maxRecDepth 100000 in
set_option maxHeartbeats 8000000 in
theorem verify_any (k msg s : List (BitVec 8)) (vm : Value) (w : World) (hk : k.length = 32) (hs : s.length = 64) (hm : RdY w vm msg) (hl : msg.length ≤ 140737488351232) : Calls Try.prog 9 #[key k, vm, .agg (cellsY s)] w fun e w' => e = .returned (.bool (verB k msg s)) ∧ Below w.heap.size w w' := by
  have HM := hid hm
  have hvm := one_v hm
  have lr : (s.take 32).length = 32 := by rw [List.length_take, hs]; rfl
  have ld : (s.drop 32).length = 32 := by rw [List.length_drop, hs]
  have cR := hid fun v w h => fLread_any (s.drop 32) v w h
  have cK := hid fun w => dec_any k w hk
  have cP := hid fun w => dec_any (s.take 32) w lr
  have hVB := hid (show verB k msg s = (verOk k s && (verX k msg s && verY k msg s)) from rfl)
  have hOk := hid (show verOk k s = (decide (fdE lN (s.drop 32) = 0) && (decide (decE k = 0) && decide (decE (s.take 32) = 0))) from rfl)
  have iKk := hid (iK k hk)
  have iSs := hid (iSg s hs)
  have iRr := hid (iK (s.take 32) lr)
  obtain ⟨w0, hw0, k1, k2, hbl0⟩ := entry2 w 28 (cellsY k) 33 (cellsY s)
  have hb3 := hid k1
  have hb5 := hid k2
  clear k1 k2 hm
  obtain ⟨n, hn⟩ : ∃ n, n = fdN lN (s.drop 32) := ⟨_, rfl⟩
  obtain ⟨en, hen⟩ : ∃ n, n = fdE lN (s.drop 32) := ⟨_, rfl⟩
  obtain ⟨ea, hea⟩ : ∃ n, n = decE k := ⟨_, rfl⟩
  obtain ⟨ep, hep⟩ : ∃ n, n = decE (s.take 32) := ⟨_, rfl⟩
  have hnl : n < 2 ^ 256 := by rw [hn]; exact fdN_lt _ _
  rw [← hn, ← hen] at cR
  rw [← hea] at cK
  rw [← hep] at cP
  rw [← hen, ← hea, ← hep] at hOk
  have Hn := hid hn
  clear hn hen hea hep
  unfold key pt at *
  unfold wd at cR
  have iN := hid (iW n)
  have hat : ∀ (b off cap : Nat) (w : World), (Instr.arrayAt 28 (.slice (some ⟨b, off, none⟩) 32 cap)).run Try.prog w = .ok (.pointer (some ⟨b, off, none⟩)) w := fun b off cap w => by
    unfold Instr.arrayAt
    rw [Sem.run_bind, run_underlying uK w]
    rfl
  have sl16 : ∀ (b : Nat) (w : World), (Instr.sliceAt 33 (.pointer (some ⟨b, 0, none⟩)) none (some (.int .i64 32)) none).run Try.prog w = .ok (.slice (some ⟨b, 0, none⟩) 32 64) w := fun b w => sl_to uSig sY1 32 (by decide) b 0 w
  have sl20 : ∀ (b : Nat) (w : World), (Instr.sliceAt 33 (.pointer (some ⟨b, 0, none⟩)) (some (.int .i64 32)) none none).run Try.prog w = .ok (.slice (some ⟨b, 32, none⟩) 32 32) w := fun b w => sl_from uSig sY1 32 (by decide) b 0 w
  go_enter Try.func9, Try.ntmps9
  ((repeat ((fail_if_success (with_reducible refine Go.at_region ?_)); go_step)); refine wp_region_lit ?_)
  (refine wpList_box 28 (.tmp 0) rfl rfl (cellsY k) rfl ?_; simp only [Act.put, pvA, pv0, pv1]; (try simp only [World.size_alloc]))
  (refine wpList_box 33 (.tmp 2) rfl rfl (cellsY s) rfl ?_; simp only [Act.put, pvA, pv0, pv1]; (try simp only [World.size_alloc]))
  (refine wpList_plain rfl fun K hK => ?_; go_simp; refine hK _ _ ?_; clear hK K; (try simp only [Act.put, pvA, pv0, pv1]))
  refine wpList_nil ?_
  rw [← hw0]
  clear hw0
  have hRt := hid (blk_rd hb5.out 0 32 64 (by rw [hs]; decide) (by decide))
  rw [List.drop_zero] at hRt
  have hRd := hid (blk_rd hb5.out 32 32 32 (by rw [hs]; decide) (by decide))
  rw [List.take_of_length_le (by rw [ld]; decide)] at hRd
  obtain ⟨r, hr⟩ : ∃ r, r = s.take 32 := ⟨_, rfl⟩
  rw [← hr] at hRt iRr cP lr
  have Hr := hid hr
  clear hr
  ((repeat ((fail_if_success (with_reducible refine Go.at_region ?_)); go_step)); refine wp_region_lit ?_)
  iterate 2 (refine wpList_plain rfl fun K hK => ?_; go_simp; refine hK _ _ ?_; clear hK K; (try simp only [Act.put, pvA, pv0, pv1]))
  (refine wpList_load_cells rfl 28 (.tmp 17) rfl (w.heap.size + 1) 0 rfl (cellsY r) hRt.out.cells gK iRr.out ?_; simp only [Act.put, pvA, pv0, pv1])
  (refine wpList_new 28 (cellsY zKey) rfl rfl zK ?_; intro G7 w1 hle1 hs1 hn1; (try simp only [Act.put, pvA, pv0, pv1]))
  (refine wpList_set _ _ _ rfl rfl rfl _ _ rfl rfl _ _ hn1 iRr.out (by rw [size_cellsY, size_cellsY, lr]; rfl) (one_cellsY _) ?_)
  refine wpList_nil ?_
  have n73 : w.heap.size ≠ G7 := by have := hb3.out.lt; omega
  have n75 : w.heap.size + 1 ≠ G7 := by have := hb5.out.lt; omega
  have hG7 : w.heap.size ≤ G7 := by have := hbl0.size; omega
  have fb3 := hid ((hb3.out.step hs1).other n73 (cellsY r))
  have fb5 := hid ((hb5.out.step hs1).other n75 (cellsY r))
  have fb7 := hid (hn1.set (cellsY r))
  have hbl2 := below_set (hbl0.trans (hs1.mono hbl0.size)) G7 hG7 (cellsY r)
  generalize w1.setRow G7 (cellsY r) = w2 at fb3 fb5 fb7 hbl2 ⊢
  clear hs1 hle1 hn1 hb3 hb5 hbl0 hRt hRd sl16 hat
  have hRd := hid (blk_rd fb5.out 32 32 32 (by rw [hs]; decide) (by decide))
  rw [List.take_of_length_le (by rw [ld]; decide)] at hRd
  ((repeat ((fail_if_success (with_reducible refine Go.at_region ?_)); go_step)); refine wp_region_lit ?_)
  (refine wpList_plain rfl fun K hK => ?_; go_simp; refine hK _ _ ?_; clear hK K; (try simp only [Act.put, pvA, pv0, pv1]))
  (refine wpList_plain rfl fun K hK => ?_; go_simp; refine (cR.out _ _ hRd.out).mono ?_; rintro _ w3 ⟨rfl, hs3⟩; refine hK _ _ ?_; clear hK K; (try simp only [Act.put, pvA, pv0, pv1]))
  iterate 3 (refine wpList_plain rfl fun K hK => ?_; go_simp; refine hK _ _ ?_; clear hK K; (try simp only [Act.put, pvA, pv0, pv1]))
  (refine wpList_new 25 (cellsW 0) rfl rfl zWd ?_; intro G8 x4 hle4 hs4 hn4; (try simp only [Act.put, pvA, pv0, pv1]))
  (refine wpList_set _ _ _ rfl rfl rfl _ _ rfl rfl _ _ hn4 iN.out (by rw [size_cellsW, size_cellsW]) (one_cellsW _) ?_)
  (refine wpList_plain rfl fun K hK => ?_; go_simp; refine hK _ _ ?_; clear hK K; (try simp only [Act.put, pvA, pv0, pv1]))
  refine wpList_nil ?_
  have n83 : w.heap.size ≠ G8 := by have := fb3.out.lt; have := hs3.size; omega
  have n87 : G7 ≠ G8 := by have := fb7.out.lt; have := hs3.size; omega
  have hG8 : w.heap.size ≤ G8 := by have := hbl2.size; have := hs3.size; omega
  have gb3 := hid (((fb3.out.step hs3).step hs4).other n83 (cellsW n))
  have gb7 := hid (((fb7.out.step hs3).step hs4).other n87 (cellsW n))
  have gb8 := hid (hn4.set (cellsW n))
  have hbl5 := below_set (hbl2.trans ((hs3.trans (hs4.mono hs3.size)).mono hbl2.size)) G8 hG8 (cellsW n)
  generalize x4.setRow G8 (cellsW n) = w5 at gb3 gb7 gb8 hbl5 ⊢
  clear hs3 hle4 hs4 hn4 fb3 fb5 fb7 hbl2 hRd sl20 cR
  ((repeat ((fail_if_success (with_reducible refine Go.at_region ?_)); go_step)); refine wp_region_lit ?_)
  (refine wpList_get _ _ rfl rfl _ rfl _ _ gb3.out gK iKk.out ?_; simp only [Act.put, pvA, pv0, pv1])
  (refine wpList_plain rfl fun K hK => ?_; go_simp; refine (cK.out _).mono ?_; rintro _ w6 ⟨rfl, hs6⟩; refine hK _ _ ?_; clear hK K; (try simp only [Act.put, pvA, pv0, pv1]))
  iterate 3 (refine wpList_plain rfl fun K hK => ?_; go_simp; refine hK _ _ ?_; clear hK K; (try simp only [Act.put, pvA, pv0, pv1]))
  obtain ⟨pa, hpa⟩ : ∃ p, p = decP k := ⟨_, rfl⟩
  have hpal : LtP pa := by rw [hpa]; exact decP_lt _
  rw [← hpa]
  have Hpa := hid hpa
  clear hpa
  (refine wpList_new 44 (cellsP zeroP) rfl rfl zPe ?_; intro G10 w7 hle7 hs7 hn7; (try simp only [Act.put, pvA, pv0, pv1]))
  (refine wpList_set _ _ _ rfl rfl rfl _ _ rfl rfl _ _ hn7 (iPe pa) rfl (one_cellsP _) ?_)
  (refine wpList_plain rfl fun K hK => ?_; go_simp; refine hK _ _ ?_; clear hK K; (try simp only [Act.put, pvA, pv0, pv1]))
  refine wpList_nil ?_
  have nA3 : w.heap.size ≠ G10 := by have := gb3.out.lt; have := hs6.size; omega
  have nA7 : G7 ≠ G10 := by have := gb7.out.lt; have := hs6.size; omega
  have nA8 : G8 ≠ G10 := by have := gb8.out.lt; have := hs6.size; omega
  have hG10 : w.heap.size ≤ G10 := by have := hbl5.size; have := hs6.size; omega
  have fb3 := hid (((gb3.out.step hs6).step hs7).other nA3 (cellsP pa))
  have fb7 := hid (((gb7.out.step hs6).step hs7).other nA7 (cellsP pa))
  have fb8 := hid (((gb8.out.step hs6).step hs7).other nA8 (cellsP pa))
  have fbA := hid (hn7.set (cellsP pa))
  have hbl8 := below_set (hbl5.trans ((hs6.trans (hs7.mono hs6.size)).mono hbl5.size)) G10 hG10 (cellsP pa)
  generalize w7.setRow G10 (cellsP pa) = w8 at fb3 fb7 fb8 fbA hbl8 ⊢
  clear hs6 hle7 hs7 hn7 gb3 gb7 gb8 hbl5 cK
  ((repeat ((fail_if_success (with_reducible refine Go.at_region ?_)); go_step)); refine wp_region_lit ?_)
  (refine wpList_get _ _ rfl rfl _ rfl _ _ fb7.out gK iRr.out ?_; simp only [Act.put, pvA, pv0, pv1])
  (refine wpList_plain rfl fun K hK => ?_; go_simp; refine (cP.out _).mono ?_; rintro _ w9 ⟨rfl, hs9⟩; refine hK _ _ ?_; clear hK K; (try simp only [Act.put, pvA, pv0, pv1]))
  iterate 3 (refine wpList_plain rfl fun K hK => ?_; go_simp; refine hK _ _ ?_; clear hK K; (try simp only [Act.put, pvA, pv0, pv1]))
  obtain ⟨pp, hpp⟩ : ∃ p, p = decP r := ⟨_, rfl⟩
  have hppl : LtP pp := by rw [hpp]; exact decP_lt _
  rw [← hpp]
  have Hpp := hid hpp
  clear hpp
  (refine wpList_new 44 (cellsP zeroP) rfl rfl zPe ?_; intro G12 w10 hle10 hs10 hn10; (try simp only [Act.put, pvA, pv0, pv1]))
  (refine wpList_set _ _ _ rfl rfl rfl _ _ rfl rfl _ _ hn10 (iPe pp) rfl (one_cellsP _) ?_)
  (refine wpList_plain rfl fun K hK => ?_; go_simp; refine hK _ _ ?_; clear hK K; (try simp only [Act.put, pvA, pv0, pv1]))
  refine wpList_nil ?_
  have nC3 : w.heap.size ≠ G12 := by have := fb3.out.lt; have := hs9.size; omega
  have nC7 : G7 ≠ G12 := by have := fb7.out.lt; have := hs9.size; omega
  have nC8 : G8 ≠ G12 := by have := fb8.out.lt; have := hs9.size; omega
  have nCA : G10 ≠ G12 := by have := fbA.out.lt; have := hs9.size; omega
  have hG12 : w.heap.size ≤ G12 := by have := hbl8.size; have := hs9.size; omega
  have gb3 := hid (((fb3.out.step hs9).step hs10).other nC3 (cellsP pp))
  have gb7 := hid (((fb7.out.step hs9).step hs10).other nC7 (cellsP pp))
  have gb8 := hid (((fb8.out.step hs9).step hs10).other nC8 (cellsP pp))
  have gbA := hid (((fbA.out.step hs9).step hs10).other nCA (cellsP pp))
  have gbC := hid (hn10.set (cellsP pp))
  have hbl11 := below_set (hbl8.trans ((hs9.trans (hs10.mono hs9.size)).mono hbl8.size)) G12 hG12 (cellsP pp)
  generalize w10.setRow G12 (cellsP pp) = w11 at gb3 gb7 gb8 gbA gbC hbl11 ⊢
  clear hs9 hle10 hs10 hn10 fb3 fb7 fb8 fbA hbl8 cP
  by_cases h1 : en = 0
  case neg =>
    have q1 : (en != 0) = true := by simpa using h1
    have hV0 : verOk k s = false := by rw [hOk.out]; rw [decide_eq_false h1]; rfl
    (repeat ((fail_if_success (with_reducible refine Go.at_region ?_)); go_step))
    refine list_all ?_
    iterate 3 (apply calm_on rfl; (focus (intro W hB; go_simp; exact ⟨rfl, Below.refl _ _⟩)); simp only [Act.put, pvA, pv0, pv1])
    iterate 2 (refine calm_off rfl ?_; simp only [Act.put, pvA, pv0, pv1])
    iterate 2 (apply calm_on rfl; (focus (intro W hB; go_simp; exact ⟨rfl, Below.refl _ _⟩)); simp only [Act.put, pvA, pv0, pv1])
    iterate 2 (refine calm_off rfl ?_; simp only [Act.put, pvA, pv0, pv1])
    (apply calm_on rfl; (focus (intro W hB; go_simp; exact ⟨rfl, Below.refl _ _⟩)); simp only [Act.put, pvA, pv0, pv1])
    refine calm_nil ?_
    intro w12 hs12
    ((repeat ((fail_if_success (with_reducible refine Go.at_region ?_)); go_step)); refine wp_region_lit ?_)
    (refine wpList_plain rfl fun K hK => ?_; go_simp; refine hK _ _ ?_; clear hK K; (try simp only [Act.put, pvA, pv0, pv1]))
    refine wpList_nil ?_
    (repeat ((fail_if_success (with_reducible refine Go.at_region ?_)); go_step))
    go_ret
    exact ⟨by rw [hVB.out, hV0]; rfl, hbl11.trans (hs12.mono hbl11.size)⟩
  subst h1
  by_cases h2 : ea = 0
  case neg =>
    have q1 : (ea != 0) = true := by simpa using h2
    have hV0 : verOk k s = false := by rw [hOk.out]; rw [decide_eq_false h2]; rfl
    (repeat ((fail_if_success (with_reducible refine Go.at_region ?_)); go_step))
    refine list_all ?_
    iterate 7 (apply calm_on rfl; (focus (intro W hB; go_simp; exact ⟨rfl, Below.refl _ _⟩)); simp only [Act.put, pvA, pv0, pv1])
    iterate 2 (refine calm_off rfl ?_; simp only [Act.put, pvA, pv0, pv1])
    (apply calm_on rfl; (focus (intro W hB; go_simp; exact ⟨rfl, Below.refl _ _⟩)); simp only [Act.put, pvA, pv0, pv1])
    refine calm_nil ?_
    intro w12 hs12
    ((repeat ((fail_if_success (with_reducible refine Go.at_region ?_)); go_step)); refine wp_region_lit ?_)
    (refine wpList_plain rfl fun K hK => ?_; go_simp; refine hK _ _ ?_; clear hK K; (try simp only [Act.put, pvA, pv0, pv1]))
    refine wpList_nil ?_
    (repeat ((fail_if_success (with_reducible refine Go.at_region ?_)); go_step))
    go_ret
    exact ⟨by rw [hVB.out, hV0]; rfl, hbl11.trans (hs12.mono hbl11.size)⟩
  subst h2
  by_cases h3 : ep = 0
  case neg =>
    have q1 : (ep != 0) = true := by simpa using h3
    have hV0 : verOk k s = false := by rw [hOk.out]; rw [decide_eq_false h3]; rfl
    (repeat ((fail_if_success (with_reducible refine Go.at_region ?_)); go_step))
    refine list_all ?_
    iterate 10 (apply calm_on rfl; (focus (intro W hB; go_simp; exact ⟨rfl, Below.refl _ _⟩)); simp only [Act.put, pvA, pv0, pv1])
    refine calm_nil ?_
    intro w12 hs12
    ((repeat ((fail_if_success (with_reducible refine Go.at_region ?_)); go_step)); refine wp_region_lit ?_)
    (refine wpList_plain rfl fun K hK => ?_; go_simp; refine hK _ _ ?_; clear hK K; (try simp only [Act.put, pvA, pv0, pv1]))
    refine wpList_nil ?_
    (repeat ((fail_if_success (with_reducible refine Go.at_region ?_)); go_step))
    go_ret
    exact ⟨by rw [hVB.out, hV0]; rfl, hbl11.trans (hs12.mono hbl11.size)⟩
  subst h3
  have hV1 : verOk k s = true := by rw [hOk.out]; rfl
  (repeat ((fail_if_success (with_reducible refine Go.at_region ?_)); go_step))
  refine list_all ?_
  iterate 10 (apply calm_on rfl; (focus (intro W hB; go_simp; exact ⟨rfl, Below.refl _ _⟩)); simp only [Act.put, pvA, pv0, pv1])
  refine calm_nil ?_
  intro w12 hs12
  have fb3 := hid (gb3.out.step hs12)
  have fb7 := hid (gb7.out.step hs12)
  have fb8 := hid (gb8.out.step hs12)
  have fbA := hid (gbA.out.step hs12)
  have fbC := hid (gbC.out.step hs12)
  have hbl12 := hbl11.trans (hs12.mono hbl11.size)
  clear gb3 gb7 gb8 gbA gbC hbl11 hs12
  have cS := hid fun w => fsub_any 0 pa.x w (by decide) hpal.x
  obtain ⟨sx, hsx⟩ : ∃ z, z = subP 0 pa.x := ⟨_, rfl⟩
  have hsl : LtP ⟨sx, pa.y⟩ := ⟨by rw [hsx]; exact p_mod_lt _, hpal.y⟩
  rw [← hsx] at cS
  have hAw := hid (show verA k = ⟨sx, pa.y⟩ by unfold verA; rw [← Hpa.out, hsx])
  clear hsx
  have cW := hid fun w => widen_any ⟨sx, pa.y⟩ w hsl
  have hTw := widenW_t ⟨sx, pa.y⟩ hsl
  have bN := hid nil_built
  obtain ⟨aw, haw⟩ : ∃ z, z = widenW ⟨sx, pa.y⟩ := ⟨_, rfl⟩
  rw [← haw] at cW hTw
  have Haw := hid (show widenW (verA k) = aw by rw [hAw.out, haw])
  clear haw
  unfold wd at cS
  unfold pt w4 at cW
  (repeat ((fail_if_success (with_reducible refine Go.at_region ?_)); go_step))
  refine draw_new1 8 _ rfl 66 (cells4 zero4) 14 rfl rfl rfl (by simp) z4 (by kernel_rfl) (by kernel_rfl) (by kernel_rfl) ?_
  simp only [List.take_succ_cons, List.take_zero]
  (refine calm_build rfl 25 _ rfl (cellsW 0) (by first | (simp only [List.map_toArray, List.map_cons, List.map_nil]; exact bN.out) | exact bN.out) ?_; simp only [Act.put, pvA, pv0, pv1])
  (apply calm_on rfl; (focus (intro W hB; go_simp; exact ⟨rfl, Below.refl _ _⟩)); simp only [Act.put, pvA, pv0, pv1])
  (refine calm_part rfl _ _ rfl _ _ rfl _ _ (cellsW pa.x) fbA.out (inP_x pa) gWd (iW pa.x) ?_; simp only [Act.put, pvA, pv0, pv1])
  (apply calm_on rfl; (focus (intro W hB; go_simp; refine (cS.out W).mono ?_; rintro _ _ ⟨rfl, hb'⟩; exact ⟨rfl, hb'⟩)); simp only [Act.put, pvA, pv0, pv1])
  (apply calm_on rfl; (focus (intro W hB; go_simp; exact ⟨rfl, Below.refl _ _⟩)); simp only [Act.put, pvA, pv0, pv1])
  (refine calm_part rfl _ _ rfl _ _ rfl _ _ (cellsW pa.y) fbA.out (inP_y pa) gWd (iW pa.y) ?_; simp only [Act.put, pvA, pv0, pv1])
  (refine calm_build rfl 44 _ rfl (cellsP ⟨sx, pa.y⟩) (by first | (simp only [List.map_toArray, List.map_cons, List.map_nil]; exact (bPe _ _)) | exact (bPe _ _)) ?_; simp only [Act.put, pvA, pv0, pv1])
  (apply calm_on rfl; (focus (intro W hB; go_simp; refine (cW.out W).mono ?_; rintro _ _ ⟨rfl, hb'⟩; exact ⟨rfl, hb'⟩)); simp only [Act.put, pvA, pv0, pv1])
  refine calm_nil ?_
  intro G14 w13 hle13 hx13 hn13
  simp only [List.drop_succ_cons, List.drop_zero]
  (try simp only [Act.put, pvA, pv0, pv1])
  have nE3 : w.heap.size ≠ G14 := by have := fb3.out.lt; omega
  have nE7 : G7 ≠ G14 := by have := fb7.out.lt; omega
  have nE8 : G8 ≠ G14 := by have := fb8.out.lt; omega
  have nEC : G12 ≠ G14 := by have := fbC.out.lt; omega
  have hG14 : w.heap.size ≤ G14 := by have := hbl12.size; omega
  (refine wpList_set _ _ _ rfl rfl rfl _ _ rfl rfl _ _ hn13 (i4 aw) rfl (one_cells4 _) ?_)
  refine wpList_nil ?_
  have gb3 := hid ((fb3.out.step hx13).other nE3 (cells4 aw))
  have gb7 := hid ((fb7.out.step hx13).other nE7 (cells4 aw))
  have gb8 := hid ((fb8.out.step hx13).other nE8 (cells4 aw))
  have gbC := hid ((fbC.out.step hx13).other nEC (cells4 aw))
  have gbE := hid (hn13.set (cells4 aw))
  have hbl14 := below_set (hbl12.trans (hx13.mono hbl12.size)) G14 hG14 (cells4 aw)
  generalize w13.setRow G14 (cells4 aw) = w14 at gb3 gb7 gb8 gbC gbE hbl14 ⊢
  clear fb3 fb7 fb8 fbA fbC hx13 hle13 hn13 hbl12 cS cW
  have HM14 := hid (HM.out.below hbl14)
  have cB := hid fun w => base_any w
  have cWb := hid fun w => widen_any baseP w ⟨bsxN_lt, bsyN_lt⟩
  have hTb := widenW_t baseP ⟨bsxN_lt, bsyN_lt⟩
  have hH := hid fun (v : Value) (w : World) (h : RdZ w v [r, k, msg]) => hashed_any [r, k, msg] v w h (by simp) (by simp; rw [lr, hk]; omega)
  have cBo := hid fun w => bothW_any n (widenW baseP) (hashN [r, k, msg]) aw w hTb hTw
  have hTg := bothW_t n (widenW baseP) (hashN [r, k, msg]) aw hTb hTw
  have hG := hid (show verG k msg s = bothW n (widenW baseP) (hashN [r, k, msg]) aw by unfold verG verN; rw [← Hn.out, ← Hr.out, Haw.out])
  obtain ⟨q, hq⟩ : ∃ q, q = bothW n (widenW baseP) (hashN [r, k, msg]) aw := ⟨_, rfl⟩
  rw [← hq] at cBo hTg hG
  clear hq hTb
  generalize hashN [r, k, msg] = h at hH cBo
  generalize widenW baseP = bw at cWb cBo
  generalize baseP = pb at cB cWb
  unfold pt at cB cWb
  unfold w4 at cWb cBo
  unfold wd at hH cBo
  have sl55 : ∀ (b : Nat) (w : World), (Instr.sliceAt 28 (.pointer (some ⟨b, 0, none⟩)) none none none).run Try.prog w = .ok (.slice (some ⟨b, 0, none⟩) 32 32) w := fun b w => sl_all uK sY1 b 0 w
  (repeat ((fail_if_success (with_reducible refine Go.at_region ?_)); go_step))
  (refine wp_region_loose_tail 11 [.kn (.agg (cellsW n)), .kn (.agg (cellsP pb)), .kn (.agg (cells4 bw)), .kn (.slice (some ⟨G7, 0, none⟩) 32 32), .kn (.slice (some ⟨w.heap.size, 0, none⟩) 32 32), .kn vm, .lo (fun v w => RdZ w v [r, k, msg]), .kn (.agg (cellsW h)), .kn (.agg (cells4 aw)), .kn (.agg (cells4 q)), .lo (newR w14 66 (cells4 zero4))] (by kernel_rfl) (by kernel_rfl) (by kernel_rfl) (by first | exact trivial | ((repeat (first | refine keepsAll_kn ?_ | (refine keepsAll_lo (fun v w w' h hb => ?_) ?_; first | exact RdN.below h hb | exact RdL.below h hb | exact RdY.below h hb | exact PtY.below h hb | exact RdZ.below h hb | exact newR_keeps _ _ _ h hb))); exact trivial)) ?_; simp only [List.take_succ_cons, List.take_zero, List.drop_succ_cons, List.drop_zero])
  (refine loose_part rfl 25 (.tmp 8) rfl G8 0 rfl 25 (cellsW n) (cellsW n) gb8.out (fun j v h => by rw [Nat.zero_add]; exact h) gWd iN.out rfl ?_; simp only [Act.put, pvA, pv0, pv1])
  (refine loose_step_on rfl (fun W' hB' hd Kt hK => ?_) ?_; (focus (clear hd; go_simp; refine (cB.out _).mono ?_; rintro _ _ ⟨rfl, hb'⟩; exact hK _ _ hb' rfl)); rintro _ rfl; simp only [Act.put, pvA, pv0, pv1])
  (refine loose_step_on rfl (fun W' hB' hd Kt hK => ?_) ?_; (focus (clear hd; go_simp; refine (cWb.out _).mono ?_; rintro _ _ ⟨rfl, hb'⟩; exact hK _ _ hb' rfl)); rintro _ rfl; simp only [Act.put, pvA, pv0, pv1])
  iterate 2 (refine loose_step_on rfl (fun W' hB' hd K hK => ?_) ?_; (focus (clear hd; go_simp; exact hK _ _ (Below.refl _ _) rfl)); rintro _ rfl; simp only [Act.put, pvA, pv0, pv1])
  (refine loose_move rfl (.tmp 1) (.inl rfl) rfl ?_; simp only [Act.put, pvA, pv0, pv1])
  (refine loose_step_on rfl (fun W' hB' hd Kt hK => ?_) ?_; (focus (skip; clear hd; refine wp_ones3 (.slice (some ⟨G7, 0, none⟩) 32 32) (.slice (some ⟨w.heap.size, 0, none⟩) 32 32) vm rfl rfl rfl rfl uPP iPP rfl rfl rfl hvm (hK _ _ (below_alloc _ _) ?_); exact rdz3 (blk_all (gb7.out.step hB') lr) (blk_all (gb3.out.step hB') hk) (HM14.out.below hB'))); intro v58 _; simp only [Act.put, pvA, pv0, pv1])
  (refine loose_step_on rfl (fun W' hB' hd Kt hK => ?_) ?_; (focus (have g58 : RdZ W' v58 [r, k, msg] := hd ⟨6, Ground.data⟩ (by simp) rfl _ 58 rfl rfl (by simp); clear hd; go_simp; refine (hH.out v58 _ g58).mono ?_; rintro _ _ ⟨rfl, hb'⟩; exact hK _ _ hb' rfl)); rintro _ rfl; simp only [Act.put, pvA, pv0, pv1])
  (refine loose_part rfl 66 (.tmp 14) rfl G14 0 rfl 66 (cells4 aw) (cells4 aw) gbE.out (fun j v h => by rw [Nat.zero_add]; exact h) g4 (i4 aw) rfl ?_; simp only [Act.put, pvA, pv0, pv1])
  (refine loose_step_on rfl (fun W' hB' hd Kt hK => ?_) ?_; (focus (clear hd; go_simp; refine (cBo.out _).mono ?_; rintro _ _ ⟨rfl, hb'⟩; exact hK _ _ hb' rfl)); rintro _ rfl; simp only [Act.put, pvA, pv0, pv1])
  (refine loose_new rfl rfl rfl z4 ?_; intro v15; simp only [Act.put, pvA, pv0, pv1])
  intro w15 hs15 hf
  have g15 : newR w14 66 (cells4 zero4) v15 w15 := hf 10 _ 15 (by first | omega | simp) rfl rfl (by simp)
  obtain ⟨G15, rfl, hn15, hle15⟩ := g15
  (try simp only [List.drop_succ_cons, List.drop_zero])
  have nFC : G12 ≠ G15 := by have := gbC.out.lt; omega
  have hG15 : w.heap.size ≤ G15 := by have := hbl14.size; omega
  (refine wpList_set _ _ _ rfl rfl rfl _ _ rfl rfl _ _ hn15 (i4 q) rfl (one_cells4 _) ?_)
  refine wpList_nil ?_
  have fbC := hid ((gbC.out.step hs15).other nFC (cells4 q))
  have fbF := hid (hn15.set (cells4 q))
  have hbl16 := below_set (hbl14.trans (hs15.mono hbl14.size)) G15 hG15 (cells4 q)
  generalize w15.setRow G15 (cells4 q) = w16 at fbC fbF hbl16 ⊢
  clear gb3 gb7 gb8 gbC gbE hs15 hle15 hn15 hf hbl14 HM14 cB cWb cBo hH sl55
  have hVX := hid (show verX k msg s = decide (val5 (mul5 (fOf pp.x) q.z) % pN = val5 q.x % pN) by unfold verX; rw [hG.out, ← Hr.out, ← Hpp.out])
  have hVY := hid (show verY k msg s = decide (val5 (mul5 (fOf pp.y) q.z) % pN = val5 q.y % pN) by unfold verY; rw [hG.out, ← Hr.out, ← Hpp.out])
  have c1 := hid fun w => feOf_any pp.x w hppl.x
  have t1 := fOf_t _ hppl.x
  have c2 := hid fun w => mul5_any (fOf pp.x) q.z w t1 hTg.z
  have t2 := mul5_t _ _ t1 hTg.z
  have c3 := hid fun w => word5_any (mul5 (fOf pp.x) q.z) w t2
  have c4 := hid fun w => word5_any q.x w hTg.x
  have c5 := hid fun w => feOf_any pp.y w hppl.y
  have t5 := fOf_t _ hppl.y
  have c6 := hid fun w => mul5_any (fOf pp.y) q.z w t5 hTg.z
  have t6 := mul5_t _ _ t5 hTg.z
  have c7 := hid fun w => word5_any (mul5 (fOf pp.y) q.z) w t6
  have c8 := hid fun w => word5_any q.y w hTg.y
  have e1 := eq_wd (val5 (mul5 (fOf pp.x) q.z) % pN) (val5 q.x % pN) (p_mod_lt _) (p_mod_lt _)
  have e2 := eq_wd (val5 (mul5 (fOf pp.y) q.z) % pN) (val5 q.y % pN) (p_mod_lt _) (p_mod_lt _)
  rw [← hVX.out] at e1
  rw [← hVY.out] at e2
  clear t1 t2 t5 t6
  generalize val5 (mul5 (fOf pp.x) q.z) % pN = a1 at c3 e1
  generalize mul5 (fOf pp.x) q.z = m1 at c2 c3
  generalize fOf pp.x = f1 at c1 c2
  generalize val5 (mul5 (fOf pp.y) q.z) % pN = a2 at c7 e2
  generalize mul5 (fOf pp.y) q.z = m2 at c6 c7
  generalize fOf pp.y = f2 at c5 c6
  generalize val5 q.x % pN = b1 at c4 e1
  generalize val5 q.y % pN = b2 at c8 e2
  unfold fe wd at *
  have hres := hid (show verB k msg s = (verX k msg s && verY k msg s) by rw [hVB.out, hV1]; rfl)
  obtain ⟨bx, hbx⟩ : ∃ z, z = verX k msg s := ⟨_, rfl⟩
  obtain ⟨bY, hby⟩ : ∃ z, z = verY k msg s := ⟨_, rfl⟩
  rw [← hbx, ← hby] at hres
  rw [← hbx] at e1
  rw [← hby] at e2
  clear hbx hby hVX hVY hVB hV1 hOk
  cases bx with
  | false =>
    (repeat ((fail_if_success (with_reducible refine Go.at_region ?_)); go_step))
    refine draw_all (by kernel_rfl) (by kernel_rfl) (by kernel_rfl) ?_
    (apply calm_on rfl; (focus (intro W hB; go_simp; exact ⟨rfl, Below.refl _ _⟩)); simp only [Act.put, pvA, pv0, pv1])
    (refine calm_part rfl _ _ rfl _ _ rfl _ _ (cellsW pp.x) fbC.out (inP_x pp) gWd (iW pp.x) ?_; simp only [Act.put, pvA, pv0, pv1])
    (apply calm_on rfl; (focus (intro W hB; go_simp; refine (c1.out W).mono ?_; rintro _ _ ⟨rfl, hb'⟩; exact ⟨rfl, hb'⟩)); simp only [Act.put, pvA, pv0, pv1])
    (apply calm_on rfl; (focus (intro W hB; go_simp; exact ⟨rfl, Below.refl _ _⟩)); simp only [Act.put, pvA, pv0, pv1])
    (refine calm_part rfl _ _ rfl _ _ rfl _ _ (cells5 q.z) fbF.out (in4_z q) g5 (i5 q.z) ?_; simp only [Act.put, pvA, pv0, pv1])
    (apply calm_on rfl; (focus (intro W hB; go_simp; refine (c2.out W).mono ?_; rintro _ _ ⟨rfl, hb'⟩; exact ⟨rfl, hb'⟩)); simp only [Act.put, pvA, pv0, pv1])
    (apply calm_on rfl; (focus (intro W hB; go_simp; refine (c3.out W).mono ?_; rintro _ _ ⟨rfl, hb'⟩; exact ⟨rfl, hb'⟩)); simp only [Act.put, pvA, pv0, pv1])
    (apply calm_on rfl; (focus (intro W hB; go_simp; exact ⟨rfl, Below.refl _ _⟩)); simp only [Act.put, pvA, pv0, pv1])
    (refine calm_part rfl _ _ rfl _ _ rfl _ _ (cells5 q.x) fbF.out (in4_x q) g5 (i5 q.x) ?_; simp only [Act.put, pvA, pv0, pv1])
    (apply calm_on rfl; (focus (intro W hB; go_simp; refine (c4.out W).mono ?_; rintro _ _ ⟨rfl, hb'⟩; exact ⟨rfl, hb'⟩)); simp only [Act.put, pvA, pv0, pv1])
    iterate 2 (apply calm_on rfl; (focus (intro W hB; go_simp; exact ⟨rfl, Below.refl _ _⟩)); simp only [Act.put, pvA, pv0, pv1])
    iterate 11 (refine calm_off rfl ?_; simp only [Act.put, pvA, pv0, pv1])
    iterate 2 (apply calm_on rfl; (focus (intro W hB; go_simp; exact ⟨rfl, Below.refl _ _⟩)); simp only [Act.put, pvA, pv0, pv1])
    refine calm_nil ?_
    intro w17 hs17
    (try dsimp only)
    (repeat ((fail_if_success (with_reducible refine Go.at_region ?_)); go_step))
    go_ret
    exact ⟨by rw [hres.out]; rfl, hbl16.trans (hs17.mono hbl16.size)⟩
  | true =>
    (repeat ((fail_if_success (with_reducible refine Go.at_region ?_)); go_step))
    refine draw_all (by kernel_rfl) (by kernel_rfl) (by kernel_rfl) ?_
    (apply calm_on rfl; (focus (intro W hB; go_simp; exact ⟨rfl, Below.refl _ _⟩)); simp only [Act.put, pvA, pv0, pv1])
    (refine calm_part rfl _ _ rfl _ _ rfl _ _ (cellsW pp.x) fbC.out (inP_x pp) gWd (iW pp.x) ?_; simp only [Act.put, pvA, pv0, pv1])
    (apply calm_on rfl; (focus (intro W hB; go_simp; refine (c1.out W).mono ?_; rintro _ _ ⟨rfl, hb'⟩; exact ⟨rfl, hb'⟩)); simp only [Act.put, pvA, pv0, pv1])
    (apply calm_on rfl; (focus (intro W hB; go_simp; exact ⟨rfl, Below.refl _ _⟩)); simp only [Act.put, pvA, pv0, pv1])
    (refine calm_part rfl _ _ rfl _ _ rfl _ _ (cells5 q.z) fbF.out (in4_z q) g5 (i5 q.z) ?_; simp only [Act.put, pvA, pv0, pv1])
    (apply calm_on rfl; (focus (intro W hB; go_simp; refine (c2.out W).mono ?_; rintro _ _ ⟨rfl, hb'⟩; exact ⟨rfl, hb'⟩)); simp only [Act.put, pvA, pv0, pv1])
    (apply calm_on rfl; (focus (intro W hB; go_simp; refine (c3.out W).mono ?_; rintro _ _ ⟨rfl, hb'⟩; exact ⟨rfl, hb'⟩)); simp only [Act.put, pvA, pv0, pv1])
    (apply calm_on rfl; (focus (intro W hB; go_simp; exact ⟨rfl, Below.refl _ _⟩)); simp only [Act.put, pvA, pv0, pv1])
    (refine calm_part rfl _ _ rfl _ _ rfl _ _ (cells5 q.x) fbF.out (in4_x q) g5 (i5 q.x) ?_; simp only [Act.put, pvA, pv0, pv1])
    (apply calm_on rfl; (focus (intro W hB; go_simp; refine (c4.out W).mono ?_; rintro _ _ ⟨rfl, hb'⟩; exact ⟨rfl, hb'⟩)); simp only [Act.put, pvA, pv0, pv1])
    iterate 3 (apply calm_on rfl; (focus (intro W hB; go_simp; exact ⟨rfl, Below.refl _ _⟩)); simp only [Act.put, pvA, pv0, pv1])
    (refine calm_part rfl _ _ rfl _ _ rfl _ _ (cellsW pp.y) fbC.out (inP_y pp) gWd (iW pp.y) ?_; simp only [Act.put, pvA, pv0, pv1])
    (apply calm_on rfl; (focus (intro W hB; go_simp; refine (c5.out W).mono ?_; rintro _ _ ⟨rfl, hb'⟩; exact ⟨rfl, hb'⟩)); simp only [Act.put, pvA, pv0, pv1])
    (apply calm_on rfl; (focus (intro W hB; go_simp; exact ⟨rfl, Below.refl _ _⟩)); simp only [Act.put, pvA, pv0, pv1])
    (refine calm_part rfl _ _ rfl _ _ rfl _ _ (cells5 q.z) fbF.out (in4_z q) g5 (i5 q.z) ?_; simp only [Act.put, pvA, pv0, pv1])
    (apply calm_on rfl; (focus (intro W hB; go_simp; refine (c6.out W).mono ?_; rintro _ _ ⟨rfl, hb'⟩; exact ⟨rfl, hb'⟩)); simp only [Act.put, pvA, pv0, pv1])
    (apply calm_on rfl; (focus (intro W hB; go_simp; refine (c7.out W).mono ?_; rintro _ _ ⟨rfl, hb'⟩; exact ⟨rfl, hb'⟩)); simp only [Act.put, pvA, pv0, pv1])
    (apply calm_on rfl; (focus (intro W hB; go_simp; exact ⟨rfl, Below.refl _ _⟩)); simp only [Act.put, pvA, pv0, pv1])
    (refine calm_part rfl _ _ rfl _ _ rfl _ _ (cells5 q.y) fbF.out (in4_y q) g5 (i5 q.y) ?_; simp only [Act.put, pvA, pv0, pv1])
    (apply calm_on rfl; (focus (intro W hB; go_simp; refine (c8.out W).mono ?_; rintro _ _ ⟨rfl, hb'⟩; exact ⟨rfl, hb'⟩)); simp only [Act.put, pvA, pv0, pv1])
    iterate 3 (apply calm_on rfl; (focus (intro W hB; go_simp; exact ⟨rfl, Below.refl _ _⟩)); simp only [Act.put, pvA, pv0, pv1])
    refine calm_nil ?_
    intro w17 hs17
    (try dsimp only)
    (repeat ((fail_if_success (with_reducible refine Go.at_region ?_)); go_step))
    go_ret
    exact ⟨by rw [hres.out]; rfl, hbl16.trans (hs17.mono hbl16.size)⟩
end Go.Proofs.Ytejnnghfelpioaa
namespace Go.Proofs.Ytejnnghfelpioaa
open Go.RowKit
def vC (W s : List (BitVec 64)) : Nat → List (BitVec 64)
  | 0 => s
  | t + 1 => stepV (vC W s t) (nb shaK t) (nb W t)
theorem vC_eq (ys : List (BitVec 8)) (s : List (BitVec 64)) (t : Nat) (ht : t ≤ 80) : vGo (w16 16 ys 128) s t = vC (w80 (w16 80 ys 128) 64) s t := by
  induction t with
  | zero => rfl
  | succ t ih => unfold vGo vC; rw [ih (by omega), w80_word ys t (by omega)]
def blockC (s : List (BitVec 64)) (ys : List (BitVec 8)) : List (BitVec 64) := addGo (vC (w80 (w16 80 ys 128) 64) s 80) s 8
theorem blockC_eq (s : List (BitVec 64)) (ys : List (BitVec 8)) : blockL s ys = blockC s ys := by unfold blockL blockC; rw [vC_eq ys s 80 (by omega)]
theorem sha_one (m : List (BitVec 8)) (h : (padS m).length = 128) : shaL m = outS (blockC shaH (padS m)) 64 := by
  unfold shaL
  rw [h, show 128 / 128 = 1 from rfl]
  show outS (blockL shaH (chunkS (padS m) 0)) 64 = _
  rw [blockC_eq]
  unfold chunkS
  rw [Nat.mul_zero, List.drop_zero, List.take_of_length_le (by omega)]
end Go.Proofs.Ytejnnghfelpioaa
namespace Go.Proofs.Ytejnnghfelpioaa
open Go.RowKit
set_option maxRecDepth 1000000
def sdL : List (BitVec 8) := [157, 97, 177, 157, 239, 253, 90, 96, 186, 132, 74, 244, 146, 236, 44, 196, 68, 73, 197, 105, 123, 50, 105, 25, 112, 59, 172, 3, 28, 174, 127, 96]
def h0L : List (BitVec 8) := [53, 124, 131, 134, 79, 40, 51, 203, 66, 122, 46, 241, 192, 10, 1, 60, 253, 255, 39, 104, 217, 128, 192, 163, 165, 32, 240, 6, 144, 77, 233, 15, 155, 79, 10, 254, 40, 11, 116, 106, 119, 134, 132, 231, 84, 66, 80, 32, 87, 183, 71, 58, 3, 240, 143, 150, 245, 163, 142, 146, 135, 224, 31, 143]
def alA : Nat := 36144925721603087658594284515452164870581325872720374094707712194495455132720
def alB : List (BitVec 8) := [155, 79, 10, 254, 40, 11, 116, 106, 119, 134, 132, 231, 84, 66, 80, 32, 87, 183, 71, 58, 3, 240, 143, 150, 245, 163, 142, 146, 135, 224, 31, 143]
def kyP : P2 := ⟨38815646466658113194383306759739515082307681141926459231621296960732224964046, 11903303657706407974989296177215005343713679411332034699907763981919547054807⟩
def kyL : List (BitVec 8) := [215, 90, 152, 1, 130, 177, 10, 183, 213, 75, 254, 211, 201, 100, 7, 58, 14, 225, 114, 243, 218, 166, 35, 37, 175, 2, 26, 104, 247, 7, 81, 26]
def alR : Nat := 2015312323900227545039973048451112962192803170366412514267238242679089760755
def sgP : P2 := ⟨44370630452101398467924320556439323233869374150616132215183787387252341590058, 38448863731492799660668882834560725606410712239157980760146247592118262650597⟩
def sgL : List (BitVec 8) := [229, 86, 67, 0, 195, 96, 172, 114, 144, 134, 226, 204, 128, 110, 130, 138, 132, 135, 127, 30, 184, 229, 217, 116, 216, 115, 224, 101, 34, 73, 1, 85]
def alH : Nat := 1958233733501237659471134851339390337284068724042047466985993338226439154310
def alH1 : Nat := 3522795203402148482764146148954277926717685080406457998596202582178711798453
def alN : Nat := 5004556735901913393272427758925840403246877222315506387332009764265656498271
def alS : List (BitVec 8) := [229, 86, 67, 0, 195, 96, 172, 114, 144, 134, 226, 204, 128, 110, 130, 138, 132, 135, 127, 30, 184, 229, 217, 116, 216, 115, 224, 101, 34, 73, 1, 85, 95, 184, 130, 21, 144, 163, 59, 172, 198, 30, 57, 112, 28, 249, 180, 107, 210, 91, 245, 240, 89, 91, 190, 36, 101, 81, 65, 67, 142, 122, 16, 11]
theorem sha_sd_b : blockC shaH (padS sdL) = [3854099993999193035, 4790192769505820988, 18302390741936160931, 11898774126494345487, 11191175685748782186, 8612717466478596128, 6320598916537552790, 17700147720492162959] := by decide +kernel
theorem sha_sd_o : outS [3854099993999193035, 4790192769505820988, 18302390741936160931, 11898774126494345487, 11191175685748782186, 8612717466478596128, 6320598916537552790, 17700147720492162959] 64 = [53, 124, 131, 134, 79, 40, 51, 203, 66, 122, 46, 241, 192, 10, 1, 60, 253, 255, 39, 104, 217, 128, 192, 163, 165, 32, 240, 6, 144, 77, 233, 15, 155, 79, 10, 254, 40, 11, 116, 106, 119, 134, 132, 231, 84, 66, 80, 32, 87, 183, 71, 58, 3, 240, 143, 150, 245, 163, 142, 146, 135, 224, 31, 143] := by decide +kernel
theorem sha_sd : shaL sdL = h0L := by rw [sha_one sdL (by decide +kernel), sha_sd_b, sha_sd_o]; rfl
theorem sha_r_b : blockC shaH (padS alB) = [13164475641069989721, 9509932450426471338, 10942261363819122011, 7085227815478653684, 306412736497058716, 16022516957188131835, 7944592038670115968, 3645139585509438765] := by decide +kernel
theorem sha_r_o : outS [13164475641069989721, 9509932450426471338, 10942261363819122011, 7085227815478653684, 306412736497058716, 16022516957188131835, 7944592038670115968, 3645139585509438765] 64 = [182, 177, 156, 216, 224, 66, 111, 89, 131, 250, 17, 45, 137, 161, 67, 170, 151, 218, 184, 188, 93, 235, 141, 91, 98, 83, 201, 40, 182, 82, 114, 244, 4, 64, 152, 194, 169, 144, 3, 156, 222, 91, 106, 72, 24, 223, 11, 251, 110, 64, 220, 93, 238, 84, 36, 128, 50, 150, 35, 35, 231, 1, 53, 45] := by decide +kernel
theorem sha_r : shaL alB = [182, 177, 156, 216, 224, 66, 111, 89, 131, 250, 17, 45, 137, 161, 67, 170, 151, 218, 184, 188, 93, 235, 141, 91, 98, 83, 201, 40, 182, 82, 114, 244, 4, 64, 152, 194, 169, 144, 3, 156, 222, 91, 106, 72, 24, 223, 11, 251, 110, 64, 220, 93, 238, 84, 36, 128, 50, 150, 35, 35, 231, 1, 53, 45] := by rw [sha_one alB (by decide +kernel), sha_r_b, sha_r_o]
theorem sha_h_b : blockC shaH (padS (sgL ++ kyL)) = [2842059623401484263, 18428124957239378555, 242614993760941040, 9377321590807045314, 1076742788928381639, 2338513036516782764, 698594959256859688, 3992703284400623263] := by decide +kernel
theorem sha_h_o : outS [2842059623401484263, 18428124957239378555, 242614993760941040, 9377321590807045314, 1076742788928381639, 2338513036516782764, 698594959256859688, 3992703284400623263] 64 = [39, 113, 6, 43, 107, 83, 111, 231, 255, 189, 218, 3, 32, 195, 130, 123, 3, 93, 241, 13, 40, 77, 243, 240, 130, 34, 240, 77, 188, 167, 164, 194, 14, 241, 91, 220, 152, 138, 34, 199, 32, 116, 17, 55, 124, 51, 242, 172, 9, 177, 232, 106, 4, 98, 52, 40, 55, 104, 238, 123, 160, 60, 14, 159] := by decide +kernel
theorem sha_h : shaL (sgL ++ kyL) = [39, 113, 6, 43, 107, 83, 111, 231, 255, 189, 218, 3, 32, 195, 130, 123, 3, 93, 241, 13, 40, 77, 243, 240, 130, 34, 240, 77, 188, 167, 164, 194, 14, 241, 91, 220, 152, 138, 34, 199, 32, 116, 17, 55, 124, 51, 242, 172, 9, 177, 232, 106, 4, 98, 52, 40, 55, 104, 238, 123, 160, 60, 14, 159] := by rw [sha_one (sgL ++ kyL) (by decide +kernel), sha_h_b, sha_h_o]
theorem sha_h1_b : blockC shaH (padS (sgL ++ kyL ++ [1])) = [11430403421265196102, 3402298852149852396, 9273862251635126080, 939919871453880837, 4874807645049534765, 14274835253221683659, 17402537702090689565, 12232828571827394225] := by decide +kernel
theorem sha_h1_o : outS [11430403421265196102, 3402298852149852396, 9273862251635126080, 939919871453880837, 4874807645049534765, 14274835253221683659, 17402537702090689565, 12232828571827394225] 64 = [158, 160, 243, 89, 203, 235, 244, 70, 47, 55, 100, 199, 166, 28, 120, 236, 128, 179, 96, 149, 52, 157, 175, 64, 13, 11, 68, 36, 167, 86, 226, 5, 67, 166, 203, 185, 175, 137, 57, 45, 198, 26, 103, 8, 15, 128, 113, 203, 241, 130, 59, 214, 99, 117, 76, 29, 169, 195, 188, 198, 22, 5, 86, 177] := by decide +kernel
theorem sha_h1 : shaL (sgL ++ kyL ++ [1]) = [158, 160, 243, 89, 203, 235, 244, 70, 47, 55, 100, 199, 166, 28, 120, 236, 128, 179, 96, 149, 52, 157, 175, 64, 13, 11, 68, 36, 167, 86, 226, 5, 67, 166, 203, 185, 175, 137, 57, 45, 198, 26, 103, 8, 15, 128, 113, 203, 241, 130, 59, 214, 99, 117, 76, 29, 169, 195, 188, 198, 22, 5, 86, 177] := by rw [sha_one (sgL ++ kyL ++ [1]) (by decide +kernel), sha_h1_b, sha_h1_o]
theorem al_seed : seedL sdL = [48, 124, 131, 134, 79, 40, 51, 203, 66, 122, 46, 241, 192, 10, 1, 60, 253, 255, 39, 104, 217, 128, 192, 163, 165, 32, 240, 6, 144, 77, 233, 79, 155, 79, 10, 254, 40, 11, 116, 106, 119, 134, 132, 231, 84, 66, 80, 32, 87, 183, 71, 58, 3, 240, 143, 150, 245, 163, 142, 146, 135, 224, 31, 143] := by unfold seedL; rw [sha_sd]; decide +kernel
theorem al_A : opA sdL = alA := by
  unfold opA seedA; rw [al_seed]; decide +kernel
theorem al_B : opB sdL = alB := by
  unfold opB seedB; rw [al_seed]; decide +kernel
theorem base_on : onB baseP = true := by decide +kernel
theorem base_lt : LtP baseP := ⟨bsxN_lt, bsyN_lt⟩
theorem P2_eq {p q : P2} (h1 : p.x = q.x) (h2 : p.y = q.y) : p = q := by cases p; cases q; simp only [P2.mk.injEq]; exact ⟨h1, h2⟩
theorem al_kP : mulP alA baseP = kyP := by
  rw [mulP_eval _ _ base_lt base_on]
  exact P2_eq (by decide +kernel) (by decide +kernel)
theorem al_K : opK sdL = kyL := by
  have h : sdL.length = 32 := rfl
  have hA : seedA sdL = alA := by rw [← al_A]; unfold opA; rw [if_pos h]
  unfold opK seedK
  rw [if_pos h, hA, al_kP]; decide +kernel
theorem hash_by {yss : List (List (BitVec 8))} {m s : List (BitVec 8)} {n : Nat} (e : yss.flatten = m) (h : shaL m = s) (h2 : leN s % lN = n) : hashN yss = n := by subst e; unfold hashN; rw [h, h2]
theorem al_r : hashN [alB, []] = alR := hash_by (by simp) sha_r (by decide +kernel)
theorem al_rP : mulP alR baseP = sgP := by
  rw [mulP_eval _ _ base_lt base_on]
  exact P2_eq (by decide +kernel) (by decide +kernel)
theorem al_R : sigR sdL [] = sgL := by unfold sigR; rw [al_B, al_r, al_rP]; decide +kernel
theorem al_h : hashN [sgL, kyL, []] = alH := hash_by (by simp) sha_h (by decide +kernel)
theorem al_h1 : hashN [sgL, kyL, [1]] = alH1 := hash_by (m := sgL ++ kyL ++ [1]) (by simp) sha_h1 (by decide +kernel)
theorem al_n0 : (alR + alH * alA % lN) % lN = alN := by decide +kernel
theorem n_by {m msg B R K : List (BitVec 8)} {A r h n : Nat} (hB : opB m = B) (hR : sigR m msg = R) (hK : opK m = K) (hA : opA m = A) (hr : hashN [B, msg] = r) (hh : hashN [R, K, msg] = h) (hn : (r + h * A % lN) % lN = n) : sigN m msg = n := by
  unfold sigN; rw [hB, hR, hK, hA, hr, hh, hn]
theorem al_n : sigN sdL [] = alN := n_by al_B al_R al_K al_A al_r al_h al_n0
theorem al_s0 : sgL ++ leL (alN % pN) = alS := by decide +kernel
theorem s_by {m msg R S : List (BitVec 8)} {n : Nat} (h : m.length = 32) (hR : sigR m msg = R) (hn : sigN m msg = n) (hS : R ++ leL (n % pN) = S) : sigL m msg = S := by
  unfold sigL; rw [if_pos h, hR, hn, hS]
theorem al_s : sigL sdL [] = alS := s_by (by decide +kernel) al_R al_n al_s0
theorem dec_by (k : List (BitVec 8)) (y inv a c : Nat) (P : P2) (h1 : fdN pN (lowB k) = y) (h0 : fdE pN (lowB k) = 0) (h2 : pmF ((dN * (y * y % pN) % pN + 1) % pN) 256 (pN - 2) = inv) (h3 : subP (y * y % pN) 1 * inv % pN = a) (h4 : pmF (a % pN) 256 ((pN + 3) / 8) = c)
    (h5 : (let s := if c * c % pN = a % pN then c else c * 19681161376707505956807079304988542015446066515923890162744021073123829784752 % pN; decide (s * s % pN = a % pN) && !(oddB k && decide ((if s % 2 = 1 then pN - s else s) = 0))) = true)
    (h6 : (let s := if c * c % pN = a % pN then c else c * 19681161376707505956807079304988542015446066515923890162744021073123829784752 % pN; let x := if s % 2 = 1 then pN - s else s; if oddB k = true then subP 0 x else x) = P.x) (h7 : y = P.y) : decP k = P ∧ decE k = 0 := by
  have hy : decY k = y := h1
  have hA : decA k = a := by
    unfold decA
    rw [hy, pow2 _ _ (by decide +kernel), h2, h3]
  have hc : sq0 a = c := by unfold sq0; rw [pow2 _ _ (by decide +kernel), h4]
  have hs : sq1 a = if c * c % pN = a % pN then c else c * 19681161376707505956807079304988542015446066515923890162744021073123829784752 % pN := by unfold sq1; rw [hc, pow_i]
  obtain ⟨s, hs'⟩ : ∃ s, s = if c * c % pN = a % pN then c else c * 19681161376707505956807079304988542015446066515923890162744021073123829784752 % pN := ⟨_, rfl⟩
  rw [← hs'] at hs
  simp only [← hs'] at h5 h6
  rw [Bool.and_eq_true, decide_eq_true_eq] at h5
  have hok : sqOk a = true := by unfold sqOk; rw [hs]; exact decide_eq_true h5.1
  have hx : sqX a = if s % 2 = 1 then pN - s else s := by unfold sqX; rw [if_pos hok, hs]
  have hB : decB k = true := by
    unfold decB
    rw [h0, hA, hok, hx, h5.2]; rfl
  refine ⟨?_, by unfold decE; rw [if_pos hB]⟩
  unfold decP
  rw [if_pos hB, hA, hx, h6, hy, h7]
theorem ky_dec : decP kyL = kyP ∧ decE kyL = 0 :=
  dec_by kyL 11903303657706407974989296177215005343713679411332034699907763981919547054807 26183629517387047170107039263209504307805777955316928339310294106180371817729 51523483521353598821315256951153545662292839605715741684547197689873795447516 1168942905347087226421132674947918255635854516639908037441319645233198647104 kyP (by decide +kernel) (by decide +kernel) (by decide +kernel) (by decide +kernel) (by decide +kernel) (by decide +kernel) (by decide +kernel) (by decide +kernel)
theorem sg_dec : decP sgL = sgP ∧ decE sgL = 0 :=
  dec_by sgL 38448863731492799660668882834560725606410712239157980760146247592118262650597 4332324842275715445375348713322146800773105034171902632131315053651204531706 55219342866674293627510244733923361162154483897632841798972269390984863624800 44370630452101398467924320556439323233869374150616132215183787387252341590058 sgP (by decide +kernel) (by decide +kernel) (by decide +kernel) (by decide +kernel) (by decide +kernel) (by decide +kernel) (by decide +kernel) (by decide +kernel)
def nG (n h : Nat) (A : P2) : NQ := nboth n h (nopen baseP) (nopen ⟨subP 0 A.x, A.y⟩) (nsum (nopen baseP) (nopen ⟨subP 0 A.x, A.y⟩)) 256
theorem ver_g {k msg s r : List (BitVec 8)} {n h : Nat} {A : P2} (hr : s.take 32 = r) (h1 : fdN lN (s.drop 32) = n) (h2 : hashN [r, k, msg] = h) (h4 : decP k = A) : qW (verG k msg s) = toQ (nG n h A) := by
  subst hr
  have hA : verA k = ⟨subP 0 A.x, A.y⟩ := by unfold verA; rw [h4]
  have ht := widenW_t (verA k) (verA_lt k)
  unfold verG verN nG
  rw [qW_both _ _ _ _ (widenW_t _ base_lt) ht, h1, h2, hA, qW_widen, qW_widen, toQ_both, toQ_sum, toQ_open, toQ_open]
theorem ver_key {k msg s : List (BitVec 8)} {g : NQ} (hG : qW (verG k msg s) = toQ g) (u : Nat) : val5 (mul5 (fOf u) (verG k msg s).z) % pN = u * g.z % pN := by
  have ez : fv (verG k msg s).z = nF g.z := congrArg QF.z hG
  show (fv (mul5 (fOf u) (verG k msg s).z)).val = _
  rw [fv_mul, fv_of, ez, ← nF_mul]; rfl
theorem ver_x {k msg s r : List (BitVec 8)} {P : P2} {g : NQ} {b : Bool} (hr : s.take 32 = r) (hG : qW (verG k msg s) = toQ g) (h3 : decP r = P) (hb : decide (P.x * g.z % pN = g.x % pN) = b) : verX k msg s = b := by
  subst hr
  have ex : fv (verG k msg s).x = nF g.x := congrArg QF.x hG
  unfold verX
  rw [h3, ver_key hG, show val5 (verG k msg s).x % pN = g.x % pN from congrArg Fin.val ex, hb]
theorem ver_y {k msg s r : List (BitVec 8)} {P : P2} {g : NQ} {b : Bool} (hr : s.take 32 = r) (hG : qW (verG k msg s) = toQ g) (h3 : decP r = P) (hb : decide (P.y * g.z % pN = g.y % pN) = b) : verY k msg s = b := by
  subst hr
  have ey : fv (verG k msg s).y = nF g.y := congrArg QF.y hG
  unfold verY
  rw [h3, ver_key hG, show val5 (verG k msg s).y % pN = g.y % pN from congrArg Fin.val ey, hb]
theorem ver_ok {k s r : List (BitVec 8)} (hr : s.take 32 = r) (h1 : fdE lN (s.drop 32) = 0) (h2 : decE k = 0) (h3 : decE r = 0) : verOk k s = true := by
  subst hr
  unfold verOk; rw [h1, h2, h3]; rfl
theorem ver_b {k msg s : List (BitVec 8)} {x y : Bool} (h1 : verOk k s = true) (h2 : verX k msg s = x) (h3 : verY k msg s = y) : verB k msg s = (x && y) := by
  unfold verB; rw [h1, h2, h3]; rfl
theorem al_take : alS.take 32 = sgL := by decide +kernel
theorem al_fd : fdN lN (alS.drop 32) = alN := by decide +kernel
theorem al_fe : fdE lN (alS.drop 32) = 0 := by decide +kernel
theorem al_ok : verOk kyL alS = true := ver_ok al_take al_fe ky_dec.2 sg_dec.2
theorem al_x : decide (sgP.x * (nG alN alH kyP).z % pN = (nG alN alH kyP).x % pN) = true := by decide +kernel
theorem al_y : decide (sgP.y * (nG alN alH kyP).z % pN = (nG alN alH kyP).y % pN) = true := by decide +kernel
theorem al_x1 : decide (sgP.x * (nG alN alH1 kyP).z % pN = (nG alN alH1 kyP).x % pN) = false := by decide +kernel
theorem al_g : qW (verG kyL [] alS) = toQ (nG alN alH kyP) := ver_g al_take al_fd al_h ky_dec.1
theorem al_g1 : qW (verG kyL [1] alS) = toQ (nG alN alH1 kyP) := ver_g al_take al_fd al_h1 ky_dec.1
theorem al_true : verB kyL [] alS = true := ver_b al_ok (ver_x al_take al_g sg_dec.1 al_x) (ver_y al_take al_g sg_dec.1 al_y)
theorem al_false : verB kyL [1] alS = false := ver_b (x := false) (y := verY kyL [1] alS) al_ok (ver_x al_take al_g1 sg_dec.1 al_x1) rfl
end Go.Proofs.Ytejnnghfelpioaa
set_option maxRecDepth 4000
namespace Go.Proofs.Ytejnnghfelpioaa
open Go.RowKit
set_option maxRecDepth 100000 in
set_option maxHeartbeats 4000000 in
theorem seed_any (w : World) : Calls Try.prog 21 #[] w fun e w' => ∃ v', e = .returned v' ∧ RdY w' v' sdL ∧ Below w.heap.size w w' := by
  have hn := Blk.new 5 w (cellsY sdL)
  have hb := below_alloc w (.cells (cellsY sdL) 5)
  have hr := hid (blk_all hn (n := 32) rfl)
  go_enter Try.func21, Try.ntmps21
  go_wp2
  go_ret
  exact ⟨_, rfl, hr.out, hb⟩
set_option maxRecDepth 100000 in
set_option maxHeartbeats 8000000 in
theorem ealive_any (w : World) : Calls Try.prog 6 #[] w fun e w' => e = .returned (.bool true) ∧ Below w.heap.size w w' := by
  have cPb := hid fun (v : Value) (w : World) (h : RdY w v sdL) => public_any sdL v w h
  have cSg := hid fun (v : Value) (w : World) (h : RdY w v sdL) => sign_any sdL [] v (.slice none 0 0) w h (RdY.nil _ _ _) (by decide)
  have hE0 : opE sdL = 0 := by unfold opE; rw [if_pos (by decide +kernel)]
  rw [al_K, hE0] at cPb
  rw [al_s, hE0] at cSg
  have cV := hid fun w => verify_any kyL [] alS (.slice none 0 0) w (by decide +kernel) (by decide +kernel) (RdY.nil _ _ _) (by decide)
  have cF := hid fun (v : Value) (w : World) (h : RdY w v [1]) => verify_any kyL [1] alS v w (by decide +kernel) (by decide +kernel) h (by decide)
  rw [al_true] at cV
  rw [al_false] at cF
  have cB := hid fun w => base_any w
  have cO := hid fun w => on_any baseP w base_lt
  rw [base_on] at cO
  have iKy := hid (iK kyL (by decide +kernel))
  have iS := hid (iSg alS (by decide +kernel))
  have zK1 := hid (show (cellsY zKey).size = (cellsY kyL).size by decide +kernel)
  have zS1 := hid (show (cellsY zSig).size = (cellsY alS).size by decide +kernel)
  unfold key at cPb cV cF
  generalize baseP = pb at cB cO
  unfold pt at cB cO
  go_enter Try.func6, Try.ntmps6
  ((repeat ((fail_if_success (with_reducible refine Go.at_region ?_)); go_step)); refine wp_region_lit ?_)
  (refine wpList_plain rfl fun K hK => ?_; go_simp; refine hK _ _ ?_; clear hK K; (try simp only [Act.put, pvA, pv0, pv1]))
  refine wpList_nil ?_
  ((repeat ((fail_if_success (with_reducible refine Go.at_region ?_)); go_step)); refine wp_region_lit ?_)
  (refine wpList_plain rfl fun K hK => ?_; go_simp; refine (seed_any _).mono ?_; rintro _ w1 ⟨v1, rfl, hr1, hs1⟩; refine hK _ _ ?_; clear hK K; (try simp only [Act.put, pvA, pv0, pv1]))
  (refine wpList_plain rfl fun K hK => ?_; go_simp; refine (cPb.out _ _ hr1).mono ?_; rintro _ w2 ⟨rfl, hs2⟩; refine hK _ _ ?_; clear hK K; (try simp only [Act.put, pvA, pv0, pv1]))
  iterate 3 (refine wpList_plain rfl fun K hK => ?_; go_simp; refine hK _ _ ?_; clear hK K; (try simp only [Act.put, pvA, pv0, pv1]))
  have hs12 := hs1.trans (hs2.mono hs1.size)
  clear hr1 hs1 hs2
  (refine wpList_new 28 (cellsY zKey) rfl rfl zK ?_; intro G1 w3 hle3 hs3 hn3; (try simp only [Act.put, pvA, pv0, pv1]))
  (refine wpList_set _ _ _ rfl rfl rfl _ _ rfl rfl _ _ hn3 iKy.out zK1.out (one_cellsY _) ?_)
  (refine wpList_plain rfl fun K hK => ?_; go_simp; refine hK _ _ ?_; clear hK K; (try simp only [Act.put, pvA, pv0, pv1]))
  refine wpList_nil ?_
  have hG1 : w.heap.size ≤ G1 := by have := hs12.size; omega
  have fb1 := hid (hn3.set (cellsY kyL))
  have hbl4 := below_set (hs12.trans (hs3.mono hs12.size)) G1 hG1 (cellsY kyL)
  generalize w3.setRow G1 (cellsY kyL) = w4' at fb1 hbl4 ⊢
  clear hs12 hs3 hle3 hn3
  ((repeat ((fail_if_success (with_reducible refine Go.at_region ?_)); go_step)); refine wp_region_lit ?_)
  (refine wpList_plain rfl fun K hK => ?_; go_simp; refine (seed_any _).mono ?_; rintro _ w5 ⟨v5, rfl, hr5, hs5⟩; refine hK _ _ ?_; clear hK K; (try simp only [Act.put, pvA, pv0, pv1]))
  (refine wpList_plain rfl fun K hK => ?_; go_simp; refine (cSg.out _ _ hr5).mono ?_; rintro _ w6 ⟨rfl, hs6⟩; refine hK _ _ ?_; clear hK K; (try simp only [Act.put, pvA, pv0, pv1]))
  iterate 3 (refine wpList_plain rfl fun K hK => ?_; go_simp; refine hK _ _ ?_; clear hK K; (try simp only [Act.put, pvA, pv0, pv1]))
  have hs56 := hs5.trans (hs6.mono hs5.size)
  clear hr5 hs5 hs6
  (refine wpList_new 33 (cellsY zSig) rfl rfl zSg ?_; intro G3 w7 hle7 hs7 hn7; (try simp only [Act.put, pvA, pv0, pv1]))
  (refine wpList_set _ _ _ rfl rfl rfl _ _ rfl rfl _ _ hn7 iS.out zS1.out (one_cellsY _) ?_)
  (refine wpList_plain rfl fun K hK => ?_; go_simp; refine hK _ _ ?_; clear hK K; (try simp only [Act.put, pvA, pv0, pv1]))
  refine wpList_nil ?_
  have n13 : G1 ≠ G3 := by have := fb1.out.lt; have := hs56.size; omega
  have hG3 : w.heap.size ≤ G3 := by have := hbl4.size; have := hs56.size; omega
  have hb1 := hid (((fb1.out.step hs56).step hs7).other n13 (cellsY alS))
  have hb3 := hid (hn7.set (cellsY alS))
  have hbl8 := below_set (hbl4.trans ((hs56.trans (hs7.mono hs56.size)).mono hbl4.size)) G3 hG3 (cellsY alS)
  generalize w7.setRow G3 (cellsY alS) = w8 at hb1 hb3 hbl8 ⊢
  clear fb1 hbl4 hs56 hs7 hle7 hn7 cPb cSg
  (repeat ((fail_if_success (with_reducible refine Go.at_region ?_)); go_step))
  refine list_tail 38 ?_
  simp only [List.take_succ_cons, List.take_zero]
  iterate 4 (apply calm_on rfl; (focus (intro W hB; go_simp; exact ⟨rfl, Below.refl _ _⟩)); simp only [Act.put, pvA, pv0, pv1])
  (refine calm_cell rfl _ _ rfl _ _ rfl _ _ hb1.out (.int .u8 215) rfl o8 ?_; simp only [Act.put, pvA, pv0, pv1])
  iterate 4 (apply calm_on rfl; (focus (intro W hB; go_simp; exact ⟨rfl, Below.refl _ _⟩)); simp only [Act.put, pvA, pv0, pv1])
  (refine calm_cell rfl _ _ rfl _ _ rfl _ _ hb1.out (.int .u8 90) rfl o8 ?_; simp only [Act.put, pvA, pv0, pv1])
  iterate 4 (apply calm_on rfl; (focus (intro W hB; go_simp; exact ⟨rfl, Below.refl _ _⟩)); simp only [Act.put, pvA, pv0, pv1])
  (refine calm_cell rfl _ _ rfl _ _ rfl _ _ hb1.out (.int .u8 26) rfl o8 ?_; simp only [Act.put, pvA, pv0, pv1])
  iterate 8 (apply calm_on rfl; (focus (intro W hB; go_simp; exact ⟨rfl, Below.refl _ _⟩)); simp only [Act.put, pvA, pv0, pv1])
  (refine calm_cell rfl _ _ rfl _ _ rfl _ _ hb3.out (.int .u8 229) rfl o8 ?_; simp only [Act.put, pvA, pv0, pv1])
  iterate 4 (apply calm_on rfl; (focus (intro W hB; go_simp; exact ⟨rfl, Below.refl _ _⟩)); simp only [Act.put, pvA, pv0, pv1])
  (refine calm_cell rfl _ _ rfl _ _ rfl _ _ hb3.out (.int .u8 86) rfl o8 ?_; simp only [Act.put, pvA, pv0, pv1])
  iterate 3 (apply calm_on rfl; (focus (intro W hB; go_simp; exact ⟨rfl, Below.refl _ _⟩)); simp only [Act.put, pvA, pv0, pv1])
  (refine calm_whole rfl _ _ rfl _ rfl _ _ hb1.out gK iKy.out ?_; simp only [Act.put, pvA, pv0, pv1])
  (refine calm_whole rfl _ _ rfl _ rfl _ _ hb3.out gSig iS.out ?_; simp only [Act.put, pvA, pv0, pv1])
  (apply calm_on rfl; (focus (intro W hB; go_simp; refine (cV.out W).mono ?_; rintro _ _ ⟨rfl, hb'⟩; exact ⟨rfl, hb'⟩)); simp only [Act.put, pvA, pv0, pv1])
  iterate 2 (apply calm_on rfl; (focus (intro W hB; go_simp; exact ⟨rfl, Below.refl _ _⟩)); simp only [Act.put, pvA, pv0, pv1])
  (refine calm_whole rfl _ _ rfl _ rfl _ _ hb1.out gK iKy.out ?_; simp only [Act.put, pvA, pv0, pv1])
  refine calm_nil ?_
  intro w9 hs9
  simp only [List.drop_succ_cons, List.drop_zero]
  have hn10 := Blk.new 5 w9 (cellsY [1])
  have hb10 := below_alloc w9 (.cells (cellsY [1]) 5)
  have hr10 := hid (blk_all hn10 (n := 1) rfl)
  have g3 := hid ((hb3.out.step hs9).step hb10)
  have hbl10 := (hbl8.trans (hs9.mono hbl8.size)).trans (hb10.mono (hbl8.trans (hs9.mono hbl8.size)).size)
  clear hn10 hb10 hb1 hb3 hbl8 hs9
  (refine wpList_on rfl fun K hK => ?_; go_simp; refine hK _ (w9.alloc (.cells (cellsY [1]) 5)) ?_; clear hK K; (try simp only [Act.put, pvA, pv0, pv1]))
  generalize w9.alloc (.cells (cellsY [1]) 5) = w10 at hr10 g3 hbl10 ⊢
  (refine wpList_on rfl fun K hK => wp_load_block 33 (.tmp 3) rfl G3 rfl 33 (cellsY alS) (0, 0) g3.out uSig rfl iS.out (hK _ _ ?_); clear hK K; simp only [Act.put, pvA, pv0, pv1])
  (refine wpList_on rfl fun K hK => ?_; go_simp; refine (cF.out _ _ hr10.out).mono ?_; rintro _ w11 ⟨rfl, hs11⟩; refine hK _ _ ?_; clear hK K; (try simp only [Act.put, pvA, pv0, pv1]))
  iterate 3 (refine wpList_on rfl fun K hK => ?_; go_simp; refine hK _ _ ?_; clear hK K; (try simp only [Act.put, pvA, pv0, pv1]))
  (refine wpList_on rfl fun K hK => ?_; go_simp; refine (cB.out _).mono ?_; rintro _ w12 ⟨rfl, hs12⟩; refine hK _ _ ?_; clear hK K; (try simp only [Act.put, pvA, pv0, pv1]))
  (refine wpList_on rfl fun K hK => ?_; go_simp; refine (cO.out _).mono ?_; rintro _ w13 ⟨rfl, hs13⟩; refine hK _ _ ?_; clear hK K; (try simp only [Act.put, pvA, pv0, pv1]))
  iterate 2 (refine wpList_on rfl fun K hK => ?_; go_simp; refine hK _ _ ?_; clear hK K; (try simp only [Act.put, pvA, pv0, pv1]))
  refine wpList_nil ?_
  (repeat ((fail_if_success (with_reducible refine Go.at_region ?_)); go_step))
  go_ret
  have h1 := hs11.trans (hs12.mono hs11.size)
  have h2 := h1.trans (hs13.mono h1.size)
  exact ⟨rfl, hbl10.trans (h2.mono hbl10.size)⟩
end Go.Proofs.Ytejnnghfelpioaa
namespace Go.Proofs.Ytejnnghfelpioaa
open Go.RowKit
theorem word_arg (xs : List Int) (hl : xs.length = 4) (hw : ∀ y ∈ xs, (Lit.int .u64 y).wf = true) : ∃ x, x < 2 ^ 256 ∧ (.agg (xs.map (Value.int .u64)).toArray : Value) = wd x := by
  obtain ⟨a, b, c, d, rfl⟩ := len4 hl
  have ha := wf_u64 (hw a (by simp))
  have hb := wf_u64 (hw b (by simp))
  have hc := wf_u64 (hw c (by simp))
  have hd := wf_u64 (hw d (by simp))
  refine ⟨mk4 a.toNat b.toNat c.toNat d.toNat, mk4_lt _ _ _ _ (by omega) (by omega) (by omega) (by omega), ?_⟩
  unfold wd
  rw [cellsW_mk4 _ _ _ _ (by omega) (by omega) (by omega) (by omega), show ((a.toNat : Nat) : Int) = a by omega, show ((b.toNat : Nat) : Int) = b by omega, show ((c.toNat : Nat) : Int) = c by omega, show ((d.toNat : Nat) : Int) = d by omega]
  rfl
end Go.Proofs.Ytejnnghfelpioaa
namespace Go.Proofs.Ytejnnghfelpioaa
open Go.RowKit
end Go.Proofs.Ytejnnghfelpioaa
namespace Go.Proofs.Ytejnnghfelpioaa
open Go.RowKit
end Go.Proofs.Ytejnnghfelpioaa
namespace Go.Proofs.Ytejnnghfelpioaa
open Go.ChangeShapes Go.WideShapes Go.ChangeAt Go.RowKit
theorem fieldsPr : Try.prog.underlying 43 = some (.struct (Try.prog.fieldsOf 43)) := by kernel_rfl
theorem fieldsPr2 : (Try.prog.fieldsOf 43).toList.map (fun f => (f.type, f.offset)) = [(25, 0), (25, 4)] := by kernel_rfl
theorem uWd4 : Try.prog.underlying 25 = some (.array 4 23) := by kernel_rfl
theorem uU64 : Try.prog.underlying 23 = some (.int .u64) := by kernel_rfl
theorem cU64 : Try.prog.cellsOf 23 = 1 := by kernel_rfl
theorem cWd4 : Try.prog.cellsOf 25 = 4 := by kernel_rfl
theorem cPr8 : Try.prog.cellsOf 43 = 8 := by kernel_rfl
section
variable {H : Type} {enc : TypeId × Value → H} {W : World} {base : Nat} {r : Reach} {sp : Nat → Bool} {held : Bool}
theorem arg_pt {b0 : Nat} {v : Value} {d : DataW H} {p : List MemPlace} (hval : Value.okWide Try.prog W r base 43 v) (h : DataW.Trod enc Try.prog W b0 sp held 43 v d p) : ∃ q : P2, v = pt q ∧ LtP q := by
  simp only [Value.okWide, fieldsPr] at hval
  obtain ⟨cs, rfl, _, _⟩ := hval
  obtain ⟨fuel, hf⟩ := h
  obtain ⟨xs, m, _, _, hl, hn, hel⟩ := DataW.trod_struct fieldsPr hf
  have hfs := fieldsPr2
  obtain ⟨f0, f1, hfl⟩ : ∃ f0 f1, (Try.prog.fieldsOf 43).toList = [f0, f1] := by
    match h : (Try.prog.fieldsOf 43).toList with
    | [] => rw [h] at hfs; simp at hfs
    | [_] => rw [h] at hfs; simp at hfs
    | [f0, f1] => exact ⟨f0, f1, rfl⟩
    | _ :: _ :: _ :: _ => rw [h] at hfs; simp at hfs
  rw [hfl] at hfs
  simp only [List.map_cons, List.map_nil, List.cons.injEq, Prod.mk.injEq, and_true] at hfs
  obtain ⟨⟨t0, o0⟩, t1, o1⟩ := hfs
  have g0 : (Try.prog.fieldsOf 43)[0]? = some f0 := by rw [← Array.getElem?_toList, hfl]; rfl
  have g1 : (Try.prog.fieldsOf 43)[1]? = some f1 := by rw [← Array.getElem?_toList, hfl]; rfl
  have hn2 : xs.length = 2 := by rw [hn, ← Array.length_toList, hfl]; rfl
  have h0 := hel 0 f0 g0
  have h1 := hel 1 f1 g1
  rw [t0, o0, cWd4] at h0
  rw [t1, o1, cWd4] at h1
  match xs, hn2 with
  | [y0, y1], _ =>
    obtain ⟨a, ha, la, wa⟩ := cells_arr uWd4 uU64 cU64 cWd4 (by simpa using h0)
    obtain ⟨b, hb, lb, wb⟩ := cells_arr uWd4 uU64 cU64 cWd4 (by simpa using h1)
    obtain ⟨x, hx, ex⟩ := word_arg a la wa
    obtain ⟨y, hy, ey⟩ := word_arg b lb wb
    refine ⟨⟨x, y⟩, ?_, hx, hy⟩
    rw [cPr8] at hl
    have ex2 : (a.map (Value.int .u64)) = (cellsW x).toList := by unfold wd at ex; have := Value.agg.inj ex; rw [← this]
    have ey2 : (b.map (Value.int .u64)) = (cellsW y).toList := by unfold wd at ey; have := Value.agg.inj ey; rw [← this]
    have hcs : cs.toList = (cellsW x).toList ++ (cellsW y).toList := by
      have e1 : cs.toList = cs.toList.take 4 ++ (cs.toList.drop 4).take 4 := by
        rw [List.take_of_length_le (l := cs.toList.drop 4) (by have : cs.toList.length = 8 := hl; rw [List.length_drop]; omega), List.take_append_drop]
      have ha' : cs.toList.take 4 = a.map (Value.int .u64) := ha
      have hb' : (cs.toList.drop 4).take 4 = b.map (Value.int .u64) := hb
      rw [e1, ha', hb', ex2, ey2]
    unfold pt
    congr 1
    apply Array.ext'
    rw [hcs]
    rfl
end
set_option maxRecDepth 20000 in
theorem own_any (p : P2) (w : World) : Calls Try.prog 15 #[pt p] w fun e w' => e = .returned (pt p) ∧ Below w.heap.size w w' := by
  unfold pt
  obtain ⟨w0, hw0, k1, k2, hbl0⟩ := entry2 w 43 (cellsP p) 44 (cellsP zeroP)
  have bB : Try.prog.built 44 [(0, .agg (cellsW p.x)), (1, .agg (cellsW p.y))] = some (cellsP p) := bPe p.x p.y
  go_enter Try.func15, Try.ntmps15
  ((repeat ((fail_if_success (with_reducible refine Go.at_region ?_)); go_step)); refine wp_region_lit ?_)
  (refine wpList_box 43 (.tmp 0) rfl rfl (cellsP p) rfl ?_; simp only [Act.put, pvA, pv0, pv1]; (try simp only [World.size_alloc]))
  (refine wpList_alloc_new rfl 44 rfl (cellsP zeroP) zPe ?_; simp only [Act.put, pvA, pv0, pv1]; (try simp only [World.size_alloc]))
  refine wpList_nil ?_
  rw [← hw0]
  clear hw0
  ((repeat ((fail_if_success (with_reducible refine Go.at_region ?_)); go_step)); refine wp_region_lit ?_)
  (refine wpList_plain rfl fun K hK => ?_; go_simp; refine hK _ _ ?_; clear hK K; (try simp only [Act.put, pvA, pv0, pv1]))
  (refine wpList_getp _ _ rfl rfl _ _ rfl _ _ (cellsW p.x) k1 (inP_x p) gWd (iW p.x) ?_; simp only [Act.put, pvA, pv0, pv1])
  (refine wpList_plain rfl fun K hK => ?_; go_simp; refine hK _ _ ?_; clear hK K; (try simp only [Act.put, pvA, pv0, pv1]))
  (refine wpList_getp _ _ rfl rfl _ _ rfl _ _ (cellsW p.y) k1 (inP_y p) gWd (iW p.y) ?_; simp only [Act.put, pvA, pv0, pv1])
  (refine wpList_built rfl 44 _ rfl (cellsP p) (by first | (simp only [List.map_toArray, List.map_cons, List.map_nil]; exact bB) | exact bB) ?_; simp only [Act.put, pvA, pv0, pv1])
  (refine wpList_set _ _ _ rfl rfl rfl _ _ rfl rfl _ _ k2 (iPe _) rfl (one_cellsP _) ?_)
  refine wpList_nil ?_
  have kb := k2.set (cellsP p)
  have hbe := below_set hbl0 (w.heap.size + 1) (by omega) (cellsP p)
  (repeat ((fail_if_success (with_reducible refine Go.at_region ?_)); go_step))
  refine ret_blk (w.heap.size + 1) 44 _ rfl rfl kb gPe (iPe _) rfl ?_
  exact ⟨rfl, hbe⟩
end Go.Proofs.Ytejnnghfelpioaa
namespace Go.Proofs.Ytejnnghfelpioaa
open Go.RowKit
def iRt : FP := nF 19681161376707505956807079304988542015446066515923890162744021073123829784752
theorem iRt_sq : iRt * iRt = -1 := by
  have h : iRt * iRt + 1 = 0 := by
    unfold iRt
    rw [← nF_one, ← nF_mul, ← nF_add, ← nF_zero]
    exact nF_eq (by decide +kernel)
  grind
theorem dN_half : powP dN ((pN - 1) / 2) = pN - 1 := by rw [pow2 dN _ (by decide +kernel)]; decide +kernel
theorem pow_half (s d e n : Nat) (he : n + n = e) (h1 : s * s % pN = d % pN) : powP d n = powP s e := by unfold powP; rw [← pow_mod_cong h1, Nat.mul_pow, ← Nat.pow_add, he]
theorem pow_01 (s e : Nat) (h0 : 0 < e) (he : ∀ s, s % pN ≠ 0 → powP s e = 1) : powP s e = 1 ∨ powP s e = 0 := by
  by_cases h : s % pN = 0
  · right; unfold powP; rw [Nat.pow_mod, h, Nat.zero_pow h0, Nat.zero_mod]
  · exact .inl (he s h)
theorem fermatP (s : Nat) (h : s % pN ≠ 0) : powP s (pN - 1) = 1 := by unfold powP; exact fermat pN pN_isP s h
theorem d_nonsq (s : FP) : s * s ≠ dF := by
  intro h
  have h1 : s.val * s.val % pN = dN % pN := by
    have := congrArg Fin.val h
    rw [Fin.val_mul] at this
    exact this
  have h2 := pow_half s.val dN (pN - 1) ((pN - 1) / 2) (by decide +kernel) h1
  rw [dN_half] at h2
  rcases pow_01 s.val (pN - 1) (by decide +kernel) fermatP with e | e
  · rw [e] at h2; exact absurd h2 (by decide +kernel)
  · rw [e] at h2; exact absurd h2 (by decide +kernel)
theorem dF_ne : dF ≠ 0 := fun h => d_nonsq 0 (by rw [h]; grind)
theorem one_ne : (1 : FP) ≠ 0 := fun h => absurd (congrArg Fin.val h) (by decide +kernel)
theorem two_ne : (1 : FP) + 1 ≠ 0 := fun e => by
  have : nF 2 = nF 0 := by rw [show (2 : Nat) = 1 + 1 from rfl, nF_add, nF_one, nF_zero]; exact e
  exact absurd (congrArg Fin.val this) (by decide +kernel)
theorem sq_no (t u v : FP) (hu : u ≠ 0) (hv : v ≠ 0) : t * t ≠ dF * (u * u) * (v * v) := fun e => by
  have h1 := mul_iF u hu
  have h2 := mul_iF v hv
  refine d_nonsq (t * iF u * iF v) ?_
  generalize iF u = ui at *
  generalize iF v = vi at *
  generalize dF = d at *
  grind
theorem half_0 (i x y : FP) (h1 : i * x + y = 0) (h2 : i * x - y = 0) : (1 + 1) * y = 0 := by grind
theorem den_k (x1 y1 x2 y2 s d i : FP) (h1 : y1 * y1 - x1 * x1 = 1 + d * (x1 * x1 * (y1 * y1))) (h2 : y2 * y2 - x2 * x2 = 1 + d * (x2 * x2 * (y2 * y2))) (hs : s * s = 1) (h : d * (x1 * x2 * (y1 * y2)) = s) (hI : i * i = -1) :
    (i * x1 + s * y1) * (i * x1 + s * y1) = d * (x1 * y1 * (x1 * y1)) * ((i * x2 + y2) * (i * x2 + y2)) ∧ (i * x1 - s * y1) * (i * x1 - s * y1) = d * (x1 * y1 * (x1 * y1)) * ((i * x2 - y2) * (i * x2 - y2)) := by
  constructor <;> grind
theorem zero_s (d a b s : FP) (h : d * (a * b) = s) (e : a = 0) : s = 0 := by rw [← h, e, Fin.zero_mul, Fin.mul_zero]
theorem den_ne (x1 y1 x2 y2 s : FP) (h1 : onC x1 y1) (h2 : onC x2 y2) (hs : s * s = 1) : dF * (x1 * x2 * (y1 * y2)) ≠ s := by
  intro h
  have hs0 : s ≠ 0 := fun e => by
    rw [e, Fin.zero_mul] at hs
    exact one_ne hs.symm
  have hr : dF * (x1 * y1 * (x2 * y2)) = s := by rw [← h]; congr 1; grind
  have hx1 : x1 * y1 ≠ 0 := fun e => hs0 (zero_s _ _ _ _ hr e)
  obtain ⟨k1, k2⟩ := den_k x1 y1 x2 y2 s dF iRt h1 h2 hs h iRt_sq
  by_cases c1 : iRt * x2 + y2 = 0
  · by_cases c2 : iRt * x2 - y2 = 0
    · have hy : y2 = 0 := F_zero_of (half_0 _ _ _ c1 c2) two_ne
      refine hs0 ?_
      rw [← h, hy, Fin.mul_zero, Fin.mul_zero, Fin.mul_zero]
    · exact sq_no _ _ _ hx1 c2 k2
  · exact sq_no _ _ _ hx1 c1 k1
theorem nF_of_lt {x : Nat} (h : x < pN) : (nF x).val = x := by rw [nF_val, Nat.mod_eq_of_lt h]
end Go.Proofs.Ytejnnghfelpioaa
namespace Go.Proofs.Ytejnnghfelpioaa
open Go.RowKit
structure AF where
  x : FP
  y : FP
def AF.on (a : AF) : Prop := onC a.x a.y
def dlt (a b : AF) : FP := dF * (a.x * b.x * (a.y * b.y))
def aadd (a b : AF) : AF := ⟨(a.x * b.y + a.y * b.x) * iF (1 + dlt a b), (a.y * b.y + a.x * b.x) * iF (1 - dlt a b)⟩
def azero : AF := ⟨0, 1⟩
def aneg (a : AF) : AF := ⟨-a.x, a.y⟩
theorem AF.ext2 {a b : AF} (h1 : a.x = b.x) (h2 : a.y = b.y) : a = b := by cases a; cases b; simp only [AF.mk.injEq]; exact ⟨h1, h2⟩
theorem neg_one_sq : (-1 : FP) * -1 = 1 := by grind
theorem one_sq : (1 : FP) * 1 = 1 := by grind
theorem plus_ne {a b : AF} (ha : a.on) (hb : b.on) : 1 + dlt a b ≠ 0 := fun h => den_ne a.x a.y b.x b.y (-1) ha hb neg_one_sq (by unfold dlt at h; generalize dF * (a.x * b.x * (a.y * b.y)) = u at *; grind)
theorem minus_ne {a b : AF} (ha : a.on) (hb : b.on) : 1 - dlt a b ≠ 0 := fun h => den_ne a.x a.y b.x b.y 1 ha hb one_sq (by unfold dlt at h; generalize dF * (a.x * b.x * (a.y * b.y)) = u at *; grind)
theorem aadd_x {a b : AF} (ha : a.on) (hb : b.on) : (aadd a b).x * (1 + dlt a b) = a.x * b.y + a.y * b.x := by
  have h := mul_iF _ (plus_ne ha hb)
  show (a.x * b.y + a.y * b.x) * iF (1 + dlt a b) * (1 + dlt a b) = _
  generalize iF (1 + dlt a b) = i at *
  generalize 1 + dlt a b = u at *
  grind
theorem aadd_y {a b : AF} (ha : a.on) (hb : b.on) : (aadd a b).y * (1 - dlt a b) = a.y * b.y + a.x * b.x := by
  have h := mul_iF _ (minus_ne ha hb)
  show (a.y * b.y + a.x * b.x) * iF (1 - dlt a b) * (1 - dlt a b) = _
  generalize iF (1 - dlt a b) = i at *
  generalize 1 - dlt a b = u at *
  grind
theorem dlt_comm (a b : AF) : dlt a b = dlt b a := by unfold dlt; congr 1; grind
theorem aadd_comm (a b : AF) : aadd a b = aadd b a := by
  refine AF.ext2 ?_ ?_
  · show (a.x * b.y + a.y * b.x) * iF (1 + dlt a b) = (b.x * a.y + b.y * a.x) * iF (1 + dlt b a)
    rw [dlt_comm a b]; congr 1; grind
  · show (a.y * b.y + a.x * b.x) * iF (1 - dlt a b) = (b.y * a.y + b.x * a.x) * iF (1 - dlt b a)
    rw [dlt_comm a b]; congr 1; grind
theorem mul_ne {a b : FP} (ha : a ≠ 0) (hb : b ≠ 0) : a * b ≠ 0 := fun h => hb (F_zero_of h ha)
theorem close0 (x1 y1 x2 y2 x3 y3 d p m : FP) (h1 : y1 * y1 - x1 * x1 = 1 + d * (x1 * x1 * (y1 * y1))) (h2 : y2 * y2 - x2 * x2 = 1 + d * (x2 * x2 * (y2 * y2)))
    (hp : p = 1 + d * (x1 * x2 * (y1 * y2))) (hm : m = 1 - d * (x1 * x2 * (y1 * y2))) (hx : x3 * p = x1 * y2 + y1 * x2) (hy : y3 * m = y1 * y2 + x1 * x2) :
    p * p * (m * m) * (y3 * y3 - x3 * x3) = p * p * (m * m) * (1 + d * (x3 * x3 * (y3 * y3))) := by
  have e1 : p * p * (m * m) * (y3 * y3 - x3 * x3) = p * p * ((y3 * m) * (y3 * m)) - m * m * ((x3 * p) * (x3 * p)) := by grind
  have e2 : p * p * (m * m) * (1 + d * (x3 * x3 * (y3 * y3))) = p * p * (m * m) + d * ((x3 * p) * (x3 * p) * ((y3 * m) * (y3 * m))) := by grind
  rw [e1, e2, hx, hy, hp, hm]
  clear e1 e2 hx hy hp hm
  grind (ringSteps := 100000)
theorem aadd_on {a b : AF} (ha : a.on) (hb : b.on) : (aadd a b).on := by
  have hp := plus_ne ha hb
  have hm := minus_ne ha hb
  have := close0 a.x a.y b.x b.y (aadd a b).x (aadd a b).y dF (1 + dlt a b) (1 - dlt a b) ha hb rfl rfl (aadd_x ha hb) (aadd_y ha hb)
  exact F_cancel (mul_ne (mul_ne hp hp) (mul_ne hm hm)) this
theorem assoc_x0 (x1 y1 x2 y2 x3 y3 e : FP)
  (h1 : x1*x1*(y1*y1) = e*(y1*y1 - x1*x1 - 1)) (h2 : x2*x2*(y2*y2) = e*(y2*y2 - x2*x2 - 1)) (h3 : x3*x3*(y3*y3) = e*(y3*y3 - x3*x3 - 1)) :
  ((x1*y2+y1*x2)*(e - x1*x2*(y1*y2))*y3 + (y1*y2+x1*x2)*(e + x1*x2*(y1*y2))*x3)*((e + x2*x3*(y2*y3))*(e - x2*x3*(y2*y3)) + x1*y1*((x2*y3+y2*x3)*(y2*y3+x2*x3))*e)
  = (x1*(y2*y3+x2*x3)*(e + x2*x3*(y2*y3)) + y1*(x2*y3+y2*x3)*(e - x2*x3*(y2*y3)))*((e + x1*x2*(y1*y2))*(e - x1*x2*(y1*y2)) + (x1*y2+y1*x2)*(y1*y2+x1*x2)*(x3*y3)*e) := by
  grind (ringSteps := 100000)
theorem assoc_y0 (x1 y1 x2 y2 x3 y3 e : FP)
  (h1 : x1*x1*(y1*y1) = e*(y1*y1 - x1*x1 - 1)) (h2 : x2*x2*(y2*y2) = e*(y2*y2 - x2*x2 - 1)) (h3 : x3*x3*(y3*y3) = e*(y3*y3 - x3*x3 - 1)) :
  ((y1*y2+x1*x2)*(e + x1*x2*(y1*y2))*y3 + (x1*y2+y1*x2)*(e - x1*x2*(y1*y2))*x3)*((e + x2*x3*(y2*y3))*(e - x2*x3*(y2*y3)) - x1*y1*((x2*y3+y2*x3)*(y2*y3+x2*x3))*e)
  = (y1*(y2*y3+x2*x3)*(e + x2*x3*(y2*y3)) + x1*(x2*y3+y2*x3)*(e - x2*x3*(y2*y3)))*((e + x1*x2*(y1*y2))*(e - x1*x2*(y1*y2)) - (x1*y2+y1*x2)*(y1*y2+x1*x2)*(x3*y3)*e) := by
  grind (ringSteps := 100000)
theorem e_form (x y d e : FP) (hd : d * e = 1) (h : y * y - x * x = 1 + d * (x * x * (y * y))) : x*x*(y*y) = e*(y*y - x*x - 1) := by grind
theorem q_plus (e d t p : FP) (hd : d * e = 1) (h : p = 1 + d * t) : e * p = e + t := by grind
theorem q_minus (e d t p : FP) (hd : d * e = 1) (h : p = 1 - d * t) : e * p = e - t := by grind
theorem fin_x (ax ay cx cy u v r s d e p1 m1 p2 m2 : FP) (hd : d * e = 1)
   (X : (u * p1 * (e * m1) * cy + v * m1 * (e * p1) * cx) * (e * p2 * (e * m2) + ax * ay * (r * p2 * (s * m2)) * e) = (ax * (s * m2) * (e * p2) + ay * (r * p2) * (e * m2)) * (e * p1 * (e * m1) + u * p1 * (v * m1) * (cx * cy) * e)) :
   e * e * e * (p1 * m1 * (p2 * m2)) * ((u * cy + v * cx) * (1 + d * (ax * r * (ay * s)))) = e * e * e * (p1 * m1 * (p2 * m2)) * ((ax * s + ay * r) * (1 + d * (u * cx * (v * cy)))) := by
  have e1 : e * e * e * (p1 * m1 * (p2 * m2)) * ((u * cy + v * cx) * (1 + d * (ax * r * (ay * s)))) = (u * p1 * (e * m1) * cy + v * m1 * (e * p1) * cx) * (e * p2 * (e * m2) + ax * ay * (r * p2 * (s * m2)) * e) := by clear X; grind
  have e2 : e * e * e * (p1 * m1 * (p2 * m2)) * ((ax * s + ay * r) * (1 + d * (u * cx * (v * cy)))) = (ax * (s * m2) * (e * p2) + ay * (r * p2) * (e * m2)) * (e * p1 * (e * m1) + u * p1 * (v * m1) * (cx * cy) * e) := by clear X e1; grind
  rw [e1, e2, X]
theorem fin_y (ax ay cx cy u v r s d e p1 m1 p2 m2 : FP) (hd : d * e = 1)
   (X : (v * m1 * (e * p1) * cy + u * p1 * (e * m1) * cx) * (e * p2 * (e * m2) - ax * ay * (r * p2 * (s * m2)) * e) = (ay * (s * m2) * (e * p2) + ax * (r * p2) * (e * m2)) * (e * p1 * (e * m1) - u * p1 * (v * m1) * (cx * cy) * e)) :
   e * e * e * (p1 * m1 * (p2 * m2)) * ((v * cy + u * cx) * (1 - d * (ax * r * (ay * s)))) = e * e * e * (p1 * m1 * (p2 * m2)) * ((ay * s + ax * r) * (1 - d * (u * cx * (v * cy)))) := by
  have e1 : e * e * e * (p1 * m1 * (p2 * m2)) * ((v * cy + u * cx) * (1 - d * (ax * r * (ay * s)))) = (v * m1 * (e * p1) * cy + u * p1 * (e * m1) * cx) * (e * p2 * (e * m2) - ax * ay * (r * p2 * (s * m2)) * e) := by clear X; grind
  have e2 : e * e * e * (p1 * m1 * (p2 * m2)) * ((ay * s + ax * r) * (1 - d * (u * cx * (v * cy)))) = (ay * (s * m2) * (e * p2) + ax * (r * p2) * (e * m2)) * (e * p1 * (e * m1) - u * p1 * (v * m1) * (cx * cy) * e) := by clear X e1; grind
  rw [e1, e2, X]
theorem assoc_k (ax ay bx bY cx cy u v r s d e p1 m1 p2 m2 : FP) (hd : d * e = 1)
   (ha : ax*ax*(ay*ay) = e*(ay*ay - ax*ax - 1)) (hb : bx*bx*(bY*bY) = e*(bY*bY - bx*bx - 1)) (hc : cx*cx*(cy*cy) = e*(cy*cy - cx*cx - 1))
   (hp1 : p1 = 1 + d * (ax * bx * (ay * bY))) (hm1 : m1 = 1 - d * (ax * bx * (ay * bY))) (hp2 : p2 = 1 + d * (bx * cx * (bY * cy))) (hm2 : m2 = 1 - d * (bx * cx * (bY * cy)))
   (hu : u * p1 = ax * bY + ay * bx) (hv : v * m1 = ay * bY + ax * bx) (hr : r * p2 = bx * cy + bY * cx) (hs : s * m2 = bY * cy + bx * cx) :
   e * e * e * (p1 * m1 * (p2 * m2)) * ((u * cy + v * cx) * (1 + d * (ax * r * (ay * s)))) = e * e * e * (p1 * m1 * (p2 * m2)) * ((ax * s + ay * r) * (1 + d * (u * cx * (v * cy)))) ∧
   e * e * e * (p1 * m1 * (p2 * m2)) * ((v * cy + u * cx) * (1 - d * (ax * r * (ay * s)))) = e * e * e * (p1 * m1 * (p2 * m2)) * ((ay * s + ax * r) * (1 - d * (u * cx * (v * cy)))) := by
  have q1 := q_plus e d _ p1 hd hp1
  have q2 := q_minus e d _ m1 hd hm1
  have q3 := q_plus e d _ p2 hd hp2
  have q4 := q_minus e d _ m2 hd hm2
  have X := assoc_x0 ax ay bx bY cx cy e ha hb hc
  have Y := assoc_y0 ax ay bx bY cx cy e ha hb hc
  rw [← q1, ← q2, ← q3, ← q4, ← hu, ← hv, ← hr, ← hs] at X Y
  exact ⟨fin_x _ _ _ _ _ _ _ _ _ _ _ _ _ _ hd X, fin_y _ _ _ _ _ _ _ _ _ _ _ _ _ _ hd Y⟩
theorem aadd_assoc {a b c : AF} (ha : a.on) (hb : b.on) (hc : c.on) : aadd (aadd a b) c = aadd a (aadd b c) := by
  have hab := aadd_on ha hb
  have hbc := aadd_on hb hc
  have hd := mul_iF dF dF_ne
  have he : iF dF ≠ 0 := fun h => by rw [h, Fin.mul_zero] at hd; exact one_ne hd.symm
  obtain ⟨X, Y⟩ := assoc_k a.x a.y b.x b.y c.x c.y (aadd a b).x (aadd a b).y (aadd b c).x (aadd b c).y dF (iF dF) (1 + dlt a b) (1 - dlt a b) (1 + dlt b c) (1 - dlt b c) hd (e_form _ _ _ _ hd ha) (e_form _ _ _ _ hd hb) (e_form _ _ _ _ hd hc) rfl rfl rfl rfl (aadd_x ha hb) (aadd_y ha hb) (aadd_x hb hc) (aadd_y hb hc)
  have hk := mul_ne (mul_ne (mul_ne he he) he) (mul_ne (mul_ne (plus_ne ha hb) (minus_ne ha hb)) (mul_ne (plus_ne hb hc) (minus_ne hb hc)))
  have X2 := F_cancel hk X
  have Y2 := F_cancel hk Y
  have l1 := aadd_x hab hc
  have l2 := aadd_y hab hc
  have r1 := aadd_x ha hbc
  have r2 := aadd_y ha hbc
  have n1 := mul_ne (plus_ne hab hc) (plus_ne ha hbc)
  have n2 := mul_ne (minus_ne hab hc) (minus_ne ha hbc)
  refine AF.ext2 (F_cancel n1 ?_) (F_cancel n2 ?_)
  · show (1 + dlt (aadd a b) c) * (1 + dlt a (aadd b c)) * _ = (1 + dlt (aadd a b) c) * (1 + dlt a (aadd b c)) * _
    have e1 : ∀ P Q L R : FP, L * P = R → P * Q * L = R * Q := fun P Q L R h => by rw [← h]; grind
    have e2 : ∀ P Q L R : FP, L * Q = R → P * Q * L = R * P := fun P Q L R h => by rw [← h]; grind
    rw [e1 _ _ _ _ l1, e2 _ _ _ _ r1]
    exact X2
  · show (1 - dlt (aadd a b) c) * (1 - dlt a (aadd b c)) * _ = (1 - dlt (aadd a b) c) * (1 - dlt a (aadd b c)) * _
    have e1 : ∀ P Q L R : FP, L * P = R → P * Q * L = R * Q := fun P Q L R h => by rw [← h]; grind
    have e2 : ∀ P Q L R : FP, L * Q = R → P * Q * L = R * P := fun P Q L R h => by rw [← h]; grind
    rw [e1 _ _ _ _ l2, e2 _ _ _ _ r2]
    exact Y2
structure Rep (q : QF) (a : AF) : Prop where
  z : q.z ≠ 0
  x : q.x = a.x * q.z
  y : q.y = a.y * q.z
  t : q.t = a.x * a.y * q.z
theorem rep_sum {p q : QF} {a b : AF} (hp : Rep p a) (hq : Rep q b) (ha : a.on) (hb : b.on) : Rep (qsum p q) (aadd a b) := by
  have n1 := plus_ne ha hb
  have n2 := minus_ne ha hb
  have sx := aadd_x ha hb
  have sy := aadd_y ha hb
  have zz := mul_ne hp.z hq.z
  have two := two_ne
  have e0 : (p.y + p.x) * (q.y + q.x) - (p.y - p.x) * (q.y - q.x) = (1 + 1) * (p.z * q.z) * (a.x * b.y + a.y * b.x) := by rw [hp.x, hp.y, hq.x, hq.y]; clear sx sy n1 n2 zz two; grind
  have e1 : (p.y + p.x) * (q.y + q.x) + (p.y - p.x) * (q.y - q.x) = (1 + 1) * (p.z * q.z) * (a.y * b.y + a.x * b.x) := by rw [hp.x, hp.y, hq.x, hq.y]; clear sx sy n1 n2 zz two e0; grind
  have e2 : p.z * q.z + p.z * q.z - (p.t * q.t * dF + p.t * q.t * dF) = (1 + 1) * (p.z * q.z) * (1 - dlt a b) := by rw [hp.t, hq.t]; unfold dlt; clear sx sy n1 n2 zz two e0 e1; generalize dF = d; grind
  have e3 : p.z * q.z + p.z * q.z + (p.t * q.t * dF + p.t * q.t * dF) = (1 + 1) * (p.z * q.z) * (1 + dlt a b) := by rw [hp.t, hq.t]; unfold dlt; clear sx sy n1 n2 zz two e0 e1 e2; generalize dF = d; grind
  have hk : (1 + 1) * (p.z * q.z) ≠ 0 := mul_ne two zz
  have hq2 : qsum p q = qfrom ((1 + 1) * (p.z * q.z) * (a.x * b.y + a.y * b.x)) ((1 + 1) * (p.z * q.z) * (1 - dlt a b)) ((1 + 1) * (p.z * q.z) * (1 + dlt a b)) ((1 + 1) * (p.z * q.z) * (a.y * b.y + a.x * b.x)) := by
    unfold qsum; rw [e0, e1, e2, e3]
  rw [hq2, ← sx, ← sy]
  generalize (1 + 1) * (p.z * q.z) = k at hk ⊢
  generalize 1 + dlt a b = u at n1 ⊢
  generalize 1 - dlt a b = v at n2 ⊢
  clear e0 e1 e2 e3 hq2 sx sy zz two hp hq
  refine ⟨mul_ne (mul_ne hk n2) (mul_ne hk n1), ?_, ?_, ?_⟩ <;> simp only [qfrom] <;> grind
theorem rep_twice {p : QF} {a : AF} (hp : Rep p a) (ha : a.on) : Rep (qtwice p) (aadd a a) := by
  have n1 := plus_ne ha ha
  have n2 := minus_ne ha ha
  have sx := aadd_x ha ha
  have sy := aadd_y ha ha
  have zz := mul_ne hp.z hp.z
  have hc : a.y * a.y - a.x * a.x = 1 + dlt a a := by
    have : a.y * a.y - a.x * a.x = 1 + dF * (a.x * a.x * (a.y * a.y)) := ha
    exact this
  have e0 : p.x * p.x + p.y * p.y - (p.x + p.y) * (p.x + p.y) = -(p.z * p.z) * (a.x * a.y + a.y * a.x) := by rw [hp.x, hp.y]; clear sx sy n1 n2 zz hc; grind
  have e1 : p.x * p.x + p.y * p.y = (p.z * p.z) * (a.y * a.y + a.x * a.x) := by rw [hp.x, hp.y]; clear sx sy n1 n2 zz e0 hc; grind
  have e2 : p.x * p.x - p.y * p.y = -(p.z * p.z) * (1 + dlt a a) := by rw [hp.x, hp.y, ← hc]; clear sx sy n1 n2 zz e0 e1 hc; grind
  have e3 : p.z * p.z + p.z * p.z + (p.x * p.x - p.y * p.y) = (p.z * p.z) * (1 - dlt a a) := by rw [e2]; clear sx sy n1 n2 zz e0 e1 e2 hc; generalize dlt a a = d; grind
  have hq2 : qtwice p = qfrom (-(p.z * p.z) * (a.x * a.y + a.y * a.x)) ((p.z * p.z) * (1 - dlt a a)) (-(p.z * p.z) * (1 + dlt a a)) ((p.z * p.z) * (a.y * a.y + a.x * a.x)) := by
    unfold qtwice; rw [e0, e3, e2, e1]
  rw [hq2, ← sx, ← sy]
  have zn : -(p.z * p.z) ≠ 0 := fun h => zz (by generalize p.z * p.z = k at *; grind)
  generalize p.z * p.z = k at zz zn ⊢
  generalize 1 + dlt a a = u at n1 ⊢
  generalize 1 - dlt a a = v at n2 ⊢
  clear e0 e1 e2 e3 hq2 sx sy hp hc
  refine ⟨mul_ne (mul_ne zz n2) (mul_ne zn n1), ?_, ?_, ?_⟩ <;> simp only [qfrom] <;> grind
theorem az_law (o z d : FP) (h1 : z = 0) (h2 : o * o = o) : o * o - z * z = o + d * (z * z * (o * o)) := by grind
theorem azero_on : azero.on := az_law 1 0 dF rfl (Fin.one_mul 1)
theorem neg_law (x : FP) : -x * -x = x * x := by grind
theorem aneg_on {a : AF} (h : a.on) : (aneg a).on := by
  show a.y * a.y - -a.x * -a.x = 1 + dF * (-a.x * -a.x * (a.y * a.y))
  rw [neg_law]; exact h
theorem iF_one : iF 1 = 1 := by
  have h := mul_iF (1 : FP) one_ne
  rwa [Fin.one_mul] at h
theorem F_sub0 (u : FP) : u - 0 = u := by grind
theorem aadd_zero (a : AF) : aadd a azero = a := by
  have hd : dlt a azero = 0 := by
    show dF * (a.x * 0 * (a.y * 1)) = 0
    rw [Fin.mul_zero, Fin.zero_mul, Fin.mul_zero]
  refine AF.ext2 ?_ ?_
  · show (a.x * 1 + a.y * 0) * iF (1 + dlt a azero) = a.x
    rw [hd, Fin.add_zero, iF_one, Fin.mul_one, Fin.mul_zero, Fin.add_zero, Fin.mul_one]
  · show (a.y * 1 + a.x * 0) * iF (1 - dlt a azero) = a.y
    rw [hd, F_sub0, iF_one, Fin.mul_one, Fin.mul_zero, Fin.add_zero, Fin.mul_one]
theorem zero_aadd (a : AF) : aadd azero a = a := by rw [aadd_comm, aadd_zero]
theorem aadd_neg {a : AF} (h : a.on) : aadd a (aneg a) = azero := by
  have hn := aneg_on h
  have h2 := mul_iF _ (minus_ne h hn)
  have hc : 1 - dlt a (aneg a) = a.y * a.y - a.x * a.x := by
    have h' : a.y * a.y - a.x * a.x = 1 + dF * (a.x * a.x * (a.y * a.y)) := h
    rw [h']
    show 1 - dF * (a.x * -a.x * (a.y * a.y)) = _
    generalize dF = d; grind
  refine AF.ext2 ?_ ?_
  · show (a.x * a.y + a.y * -a.x) * iF (1 + dlt a (aneg a)) = 0
    have e : a.x * a.y + a.y * -a.x = 0 := by grind
    rw [e, Fin.zero_mul]
  · show (a.y * a.y + a.x * -a.x) * iF (1 - dlt a (aneg a)) = 1
    have e : a.y * a.y + a.x * -a.x = 1 - dlt a (aneg a) := by rw [hc]; generalize a.x = x; generalize a.y = y; grind
    rw [e]; exact h2
def amul (a : AF) : Nat → AF
  | 0 => azero
  | n + 1 => aadd (amul a n) a
theorem amul_on {a : AF} (h : a.on) : ∀ n, (amul a n).on
  | 0 => azero_on
  | n + 1 => aadd_on (amul_on h n) h
theorem amul_add {a : AF} (h : a.on) (m : Nat) : ∀ n, amul a (m + n) = aadd (amul a m) (amul a n)
  | 0 => (aadd_zero _).symm
  | n + 1 => by
    show aadd (amul a (m + n)) a = aadd (amul a m) (aadd (amul a n) a)
    rw [amul_add h m n, aadd_assoc (amul_on h m) (amul_on h n) h]
theorem rep_none : Rep qnone azero := ⟨one_ne, by show (0 : FP) = 0 * 1; rw [Fin.zero_mul], by show (1 : FP) = 1 * 1; rw [Fin.one_mul], by show (0 : FP) = 0 * 1 * 1; rw [Fin.zero_mul, Fin.zero_mul]⟩
theorem rep_open (p : P2) : Rep (qopen p) ⟨nF p.x, nF p.y⟩ := ⟨one_ne, by show nF p.x = nF p.x * 1; rw [Fin.mul_one], by show nF p.y = nF p.y * 1; rw [Fin.mul_one], by show nF p.x * nF p.y = nF p.x * nF p.y * 1; rw [Fin.mul_one]⟩
theorem rep_mul {q : QF} {a : AF} (hq : Rep q a) (ha : a.on) (n : Nat) (hn : n < 2 ^ 256) : ∀ m, m ≤ 256 → Rep (qmul n q m) (amul a (n / 2 ^ (256 - m)))
  | 0, _ => by
    have : n / 2 ^ (256 - 0) = 0 := Nat.div_eq_of_lt hn
    rw [this]; exact rep_none
  | m + 1, hm => by
    have ih := rep_mul hq ha n hn m (by omega)
    have h2 := rep_twice ih (amul_on ha _)
    rw [← amul_add ha] at h2
    have e : n / 2 ^ (256 - (m + 1)) = n / 2 ^ (256 - m) + n / 2 ^ (256 - m) + n / 2 ^ (255 - m) % 2 := by
      rw [show 256 - (m + 1) = 255 - m by omega, show 256 - m = (255 - m) + 1 by omega, Nat.pow_succ, ← Nat.div_div_eq_div_mul]
      omega
    rw [qmul]
    split
    · rename_i hb
      rw [e, hb]
      exact rep_sum h2 hq (amul_on ha _) ha
    · rename_i hb
      rw [e, show n / 2 ^ (255 - m) % 2 = 0 by omega, Nat.add_zero]
      exact h2
theorem rep_close {q : QF} {a : AF} (h : Rep q a) : qclose q = ⟨a.x.val, a.y.val⟩ := by
  have hz := mul_iF _ h.z
  have e1 : q.x * iF q.z = a.x := by rw [h.x]; generalize iF q.z = i at *; generalize q.z = z at *; clear h; grind
  have e2 : q.y * iF q.z = a.y := by rw [h.y]; generalize iF q.z = i at *; generalize q.z = z at *; clear h e1; grind
  unfold qclose
  rw [e1, e2]
end Go.Proofs.Ytejnnghfelpioaa
namespace Go.Proofs.Ytejnnghfelpioaa
open Go.RowKit
def aP (p : P2) : AF := ⟨nF p.x, nF p.y⟩
def ofA (a : AF) : P2 := ⟨a.x.val, a.y.val⟩
theorem aP_of (a : AF) : aP (ofA a) = a := AF.ext2 (nF_back _) (nF_back _)
theorem ofA_aP (p : P2) (hx : p.x < pN) (hy : p.y < pN) : ofA (aP p) = p := by
  unfold ofA aP
  simp only [nF_of_lt hx, nF_of_lt hy]
theorem aP_on {p : P2} (h : onB p = true) : (aP p).on := (onB_onC h).2.2
theorem onB_ofA {a : AF} (h : a.on) : onB (ofA a) = true := by
  refine onB_of a.x.isLt a.y.isLt ?_
  show onC (nF a.x.val) (nF a.y.val)
  rw [nF_back, nF_back]; exact h
theorem ofA_back {p : P2} (h : onB p = true) : ofA (aP p) = p := ofA_aP p (onB_onC h).1 (onB_onC h).2.1
theorem onB_lt {p : P2} (h : onB p = true) : LtP p := ⟨Nat.lt_trans (onB_onC h).1 pN_lt, Nat.lt_trans (onB_onC h).2.1 pN_lt⟩
theorem addP_is {a b : P2} (ha : onB a = true) (hb : onB b = true) : addP a b = ofA (aadd (aP a) (aP b)) := by
  have la := onB_lt ha
  have lb := onB_lt hb
  unfold addP
  rw [if_pos (by rw [ha, hb]; rfl)]
  split
  · rename_i h
    have e : aP b = aP a := by unfold aP; rw [h.1, h.2]
    rw [e, qW_point, qW_twice _ (widenW_t a la), qW_widen]
    exact rep_close (rep_twice (rep_open a) (aP_on ha))
  · rw [qW_point, qW_plus _ _ (widenW_t a la) (widenW_t b lb), qW_widen, qW_widen]
    exact rep_close (rep_sum (rep_open a) (rep_open b) (aP_on ha) (aP_on hb))
theorem addP_on {a b : P2} (ha : onB a = true) (hb : onB b = true) : onB (addP a b) = true := by
  rw [addP_is ha hb]; exact onB_ofA (aadd_on (aP_on ha) (aP_on hb))
theorem mulP_is {p : P2} (hp : onB p = true) (n : Nat) (hn : n < 2 ^ 256) : mulP n p = ofA (amul (aP p) n) := by
  have lp := onB_lt hp
  unfold mulP mW
  rw [if_pos hp, qW_point, qW_fold n _ (widenW_t p lp), qW_widen]
  have h := rep_mul (rep_open p) (aP_on hp) n hn 256 (Nat.le_refl _)
  rw [Nat.sub_self, Nat.pow_zero, Nat.div_one] at h
  exact rep_close h
def oneP : P2 := ⟨0, 1⟩
def awayP (p : P2) : P2 := ⟨subP 0 p.x, p.y⟩
theorem aP_one : aP oneP = azero := AF.ext2 nF_zero nF_one
theorem oneP_on : onB oneP = true := by decide +kernel
theorem ofA_zero : ofA azero = oneP := by rw [← aP_one]; exact ofA_back oneP_on
theorem aP_away (p : P2) : aP (awayP p) = aneg (aP p) := by
  refine AF.ext2 ?_ rfl
  show nF (subP 0 p.x) = -(nF p.x)
  rw [nF_sub, nF_zero]; grind
theorem away_on {p : P2} (h : onB p = true) : onB (awayP p) = true := by
  have := onB_onC h
  refine onB_of (Nat.mod_lt _ pN_pos) this.2.1 ?_
  have h2 := aneg_on (aP_on h)
  rw [← aP_away] at h2; exact h2
theorem addP_comm {a b : P2} (ha : onB a = true) (hb : onB b = true) : addP a b = addP b a := by
  rw [addP_is ha hb, addP_is hb ha, aadd_comm]
theorem addP_assoc {a b c : P2} (ha : onB a = true) (hb : onB b = true) (hc : onB c = true) : addP (addP a b) c = addP a (addP b c) := by
  rw [addP_is (addP_on ha hb) hc, addP_is ha (addP_on hb hc), addP_is ha hb, addP_is hb hc, aP_of, aP_of, aadd_assoc (aP_on ha) (aP_on hb) (aP_on hc)]
theorem addP_one {a : P2} (ha : onB a = true) : addP a oneP = a := by
  rw [addP_is ha oneP_on, aP_one, aadd_zero, ofA_back ha]
theorem addP_away {a : P2} (ha : onB a = true) : addP a (awayP a) = oneP := by
  rw [addP_is ha (away_on ha), aP_away, aadd_neg (aP_on ha), ofA_zero]
theorem mulP_two {a : P2} (ha : onB a = true) : mulP 2 a = addP a a := by
  rw [mulP_is ha 2 (by decide), addP_is ha ha]
  show ofA (aadd (aadd azero (aP a)) (aP a)) = _
  rw [zero_aadd]
theorem baseP_on : onB baseP = true := by decide +kernel
theorem nmul_L : nmulP lN baseP = oneP := by
  have : (nmulP lN baseP).x = 0 ∧ (nmulP lN baseP).y = 1 := by decide +kernel
  obtain ⟨h1, h2⟩ := this
  cases h : nmulP lN baseP
  rw [h] at h1 h2
  simp only at h1 h2
  rw [h1, h2]; rfl
theorem mulP_L : mulP lN baseP = oneP := by
  rw [mulP_eval lN baseP (onB_lt baseP_on) baseP_on, nmul_L]
end Go.Proofs.Ytejnnghfelpioaa
namespace Go
open Go.RowKit
section
variable {P : Program} {w0 : World} {a : Act} {l : List Oper} {id : Nat} {Q' : Exit → Act → World → Prop}
theorem draw_new3 (n : Nat) (oA oB oC : Oper) (hA : (l.drop n).take 3 = [oA, oB, oC]) (T : TypeId) (zs : Array Value) (d d' d'' : Nat) (hz : (P.info? T).bind (·.zero) = some (.agg zs))
    (ho : oA.op = .alloc T) (hg : oA.guard = none) (hd : oA.dst = some d) (hds : d < a.tmps.size)
    (ho' : oB.op = .alloc T) (hg' : oB.guard = none) (hd' : oB.dst = some d') (hds' : d' < a.tmps.size)
    (ho'' : oC.op = .alloc T) (hg'' : oC.guard = none) (hd'' : oC.dst = some d'') (hds'' : d'' < a.tmps.size)
    (hne : d ≠ d') (hne2 : d ≠ d'') (hne3 : d' ≠ d'')
    (hm : P.follows .mixedOrders = true) (hB : looseB l (n + 3) = true) (hS : specTailB l (n + 3) = true) (hnew : ((l.take (n + 3)).all fun o => !newB P o || o.guard.isNone) = true)
    (h : wpCalm P l.toArray w0 (fun a' => ∀ b b' b'' w, w0.heap.size ≤ b → w0.heap.size ≤ b' → w0.heap.size ≤ b'' → b ≠ b' → b ≠ b'' → b' ≠ b'' → Below w0.heap.size w0 w → Blk T w b zs → Blk T w b' zs → Blk T w b'' zs →
      wpList P l.toArray Q' (l.drop (n + 3)) (((a'.put (some d) (.pointer (some ⟨b, 0, none⟩))).put (some d') (.pointer (some ⟨b', 0, none⟩))).put (some d'') (.pointer (some ⟨b'', 0, none⟩))) w) (l.take n) a) : (Code.region id l.toArray true).wp P Q' a w0 := by
  have hn : n + 2 < l.length := by
    rcases Nat.lt_or_ge (n + 2) l.length with h1 | h1
    · exact h1
    · have : ((l.drop n).take 3).length = 3 := by rw [hA]; rfl
      rw [List.length_take, List.length_drop] at this; omega
  have hlA : l[n]? = some oA := by
    have : ((l.drop n).take 3)[0]? = some oA := by rw [hA]; rfl
    rw [List.getElem?_take, if_pos (by decide), List.getElem?_drop, Nat.add_zero] at this; exact this
  have hlB : l[n + 1]? = some oB := by
    have : ((l.drop n).take 3)[1]? = some oB := by rw [hA]; rfl
    rw [List.getElem?_take, if_pos (by decide), List.getElem?_drop] at this; exact this
  have hlC : l[n + 2]? = some oC := by
    have : ((l.drop n).take 3)[2]? = some oC := by rw [hA]; rfl
    rw [List.getElem?_take, if_pos (by decide), List.getElem?_drop] at this; exact this
  obtain ⟨es1, h1, h2, a', h3, h4, h5⟩ := calm_ents (l.take n) a 0 h
  have hl1 : es1.length = n := by rw [h1, List.length_take]; omega
  obtain ⟨ES, hES⟩ : ∃ E, E = es1 ++ [Ent.lo (newR w0 T zs), Ent.lo (newR w0 T zs), Ent.lo (newR w0 T zs)] := ⟨_, rfl⟩
  have e1 : ES[n]? = some (.lo (newR w0 T zs)) := by rw [hES, ← hl1]; simp
  have e2 : ES[n + 1]? = some (.lo (newR w0 T zs)) := by rw [hES, ← hl1]; simp
  have e3 : ES[n + 2]? = some (.lo (newR w0 T zs)) := by rw [hES, ← hl1]; simp
  have hlt : 0 + (l.take n).length = n := by rw [Nat.zero_add, List.length_take, Nat.min_eq_left (by omega)]
  have hL := h5 ES (n + 3) (fun a w => ApartEnd P l (n + 3) a → wpList P l.toArray Q' (l.drop (n + 3)) a w) [oA, oB, oC]
    (fun j e hj => by
      rw [Nat.zero_add, hES]
      have hj2 : j < es1.length := (List.getElem?_eq_some_iff.1 hj).1
      rw [List.getElem?_append_left hj2]; exact hj)
    (loose_new (by rw [hlt]; exact e1) ho hg hz fun v => loose_new (by rw [hlt]; exact e2) ho' hg' hz fun v' => loose_new (by rw [hlt]; exact e3) ho'' hg'' hz fun v'' w hb hphi hap => by
      have s1 : d < a'.tmps.size := by rw [h4]; exact hds
      have s2 : d' < a'.tmps.size := by rw [h4]; exact hds'
      have s3 : d'' < a'.tmps.size := by rw [h4]; exact hds''
      have g1 : (((a'.put oA.dst v).put oB.dst v').put oC.dst v'').tmps.getD d undef = v := by rw [hd'', putd_ne (by simpa using Ne.symm hne2), hd', putd_ne (by simpa using Ne.symm hne), hd, putd_at s1]
      have g2 : (((a'.put oA.dst v).put oB.dst v').put oC.dst v'').tmps.getD d' undef = v' := by rw [hd'', putd_ne (by simpa using Ne.symm hne3), hd', putd_at (by rw [Act.putd_size]; exact s2)]
      have g3 : (((a'.put oA.dst v).put oB.dst v').put oC.dst v'').tmps.getD d'' undef = v'' := by rw [hd'', putd_at (by rw [Act.putd_size, Act.putd_size]; exact s3)]
      have z : ∀ k, k < a'.tmps.size → k < (((a'.put oA.dst v).put oB.dst v').put oC.dst v'').tmps.size := fun k hk => by rw [Act.putd_size, Act.putd_size, Act.putd_size]; exact hk
      have p1 := hphi n oA d (by omega) hlA hd (z _ s1)
      have p2 := hphi (n + 1) oB d' (by omega) hlB hd' (z _ s2)
      have p3 := hphi (n + 2) oC d'' (by omega) hlC hd'' (z _ s3)
      rw [g1] at p1
      rw [g2] at p2
      rw [g3] at p3
      unfold phiOf at p1 p2 p3
      rw [e1] at p1
      rw [e2] at p2
      rw [e3] at p3
      obtain ⟨b, rfl, hblk, hle⟩ := p1
      obtain ⟨b', rfl, hblk', hle'⟩ := p2
      obtain ⟨b'', rfl, hblk'', hle''⟩ := p3
      have hnb : newB P oA = true := by unfold newB; rw [ho]; simp only; rw [hz]; simp [hd]
      have hnb' : newB P oB = true := by unfold newB; rw [ho']; simp only; rw [hz]; simp [hd']
      have hnb'' : newB P oC = true := by unfold newB; rw [ho'']; simp only; rw [hz]; simp [hd'']
      have hx := hap n (n + 1) oA oB d d' (by omega) (by omega) (by omega) hlA hlB hnb hnb' hd hd' (z _ s1) (z _ s2)
      have hx2 := hap n (n + 2) oA oC d d'' (by omega) (by omega) (by omega) hlA hlC hnb hnb'' hd hd'' (z _ s1) (z _ s3)
      have hx3 := hap (n + 1) (n + 2) oB oC d' d'' (by omega) (by omega) (by omega) hlB hlC hnb' hnb'' hd' hd'' (z _ s2) (z _ s3)
      rw [g1, g2] at hx
      rw [g1, g3] at hx2
      rw [g2, g3] at hx3
      rw [hd, hd', hd'']
      exact h3 b b' b'' w hle hle' hle'' (fun e => hx (by rw [e])) (fun e => hx2 (by rw [e])) (fun e => hx3 (by rw [e])) hb hblk hblk' hblk'')
  rw [← hA, show l.take n ++ (l.drop n).take 3 = l.take (n + 3) by rw [List.take_add]] at hL
  refine wp_region_loose_apart (n + 3) hm hB hS ?_ hnew hL
  rw [hES]
  exact keepsAll_append h2 (keepsAll_lo newR_keeps (keepsAll_lo newR_keeps (keepsAll_lo newR_keeps (show keepsAll [] from trivial))))
end
end Go
namespace Go.Proofs.Ytejnnghfelpioaa
open Go.RowKit
set_option maxRecDepth 100000 in
set_option maxHeartbeats 8000000 in
theorem edg_p (w : World) (p q r : P2) (hp : LtP p) (hq : LtP q) (hr : LtP r) (h1 : onB p = false) : Calls Try.prog 5 #[pt p, pt q, pt r] w fun e w' => e = .returned (.bool true) ∧ Below w.heap.size w w' := by
  have cOp := hid fun w => own_any p w
  have cOq := hid fun w => own_any q w
  have cOr := hid fun w => own_any r w
  have cNp := hid fun w => on_any p w hp
  have cNq := hid fun w => on_any q w hq
  have cNr := hid fun w => on_any r w hr
  have cA := hid fun w => ealive_any w
  rw [h1] at cNp
  clear hp hq hr h1
  unfold pt at *
  obtain ⟨w0, hw0, k3, k4, k5, hbl0⟩ := entry3 w 43 (cellsP p) 43 (cellsP q) 43 (cellsP r)
  have hb3_0 := hid k3
  have hb4_0 := hid k4
  have hb5_0 := hid k5
  clear k3 k4 k5
  go_enter Try.func5, Try.ntmps5
  (repeat ((fail_if_success (with_reducible refine Go.at_region ?_)); go_step))
  refine wp_region_lit ?_
  (refine wpList_box 43 (.tmp 0) rfl rfl (cellsP p) rfl ?_; simp only [Act.put, pvA, pv0, pv1]; (try simp only [World.size_alloc]))
  (refine wpList_box 43 (.tmp 1) rfl rfl (cellsP q) rfl ?_; simp only [Act.put, pvA, pv0, pv1]; (try simp only [World.size_alloc]))
  (refine wpList_box 43 (.tmp 2) rfl rfl (cellsP r) rfl ?_; simp only [Act.put, pvA, pv0, pv1]; (try simp only [World.size_alloc]))
  (refine wpList_plain rfl fun K hK => ?_; go_simp; refine hK _ _ ?_; clear hK K; (try simp only [Act.put, pvA, pv0, pv1]))
  refine wpList_nil ?_
  rw [← hw0]
  clear hw0
  (repeat ((fail_if_success (with_reducible refine Go.at_region ?_)); go_step))
  refine draw_new3 6 _ _ _ rfl 44 (cellsP zeroP) 7 8 9 zPe rfl rfl rfl (by simp) rfl rfl rfl (by simp) rfl rfl rfl (by simp) (by decide) (by decide) (by decide) (by kernel_rfl) (by kernel_rfl) (by kernel_rfl) (by kernel_rfl) ?_
  simp only [List.take_succ_cons, List.take_zero]
  (refine calm_whole rfl _ _ rfl _ rfl _ _ hb3_0.out gPr (iPr p) ?_; simp only [Act.put, pvA, pv0, pv1])
  (apply calm_on rfl; (focus (intro W hB; go_simp; refine (cOp.out W).mono ?_; rintro _ _ ⟨rfl, hb'⟩; exact ⟨rfl, hb'⟩)); simp only [Act.put, pvA, pv0, pv1])
  (refine calm_whole rfl _ _ rfl _ rfl _ _ hb4_0.out gPr (iPr q) ?_; simp only [Act.put, pvA, pv0, pv1])
  (apply calm_on rfl; (focus (intro W hB; go_simp; refine (cOq.out W).mono ?_; rintro _ _ ⟨rfl, hb'⟩; exact ⟨rfl, hb'⟩)); simp only [Act.put, pvA, pv0, pv1])
  (refine calm_whole rfl _ _ rfl _ rfl _ _ hb5_0.out gPr (iPr r) ?_; simp only [Act.put, pvA, pv0, pv1])
  (apply calm_on rfl; (focus (intro W hB; go_simp; refine (cOr.out W).mono ?_; rintro _ _ ⟨rfl, hb'⟩; exact ⟨rfl, hb'⟩)); simp only [Act.put, pvA, pv0, pv1])
  refine calm_nil ?_
  intro bk7 bk8 bk9 wx1 hle7 hle8 hle9 hne7_8 hne7_9 hne8_9 hx1 hn7 hn8 hn9
  simp only [List.drop_succ_cons, List.drop_zero]
  (try simp only [Act.put, pvA, pv0, pv1])
  have fb3 := hb3_0.out.step hx1
  have fb4 := hb4_0.out.step hx1
  have fb5 := hb5_0.out.step hx1
  have hbb := hbl0.trans (hx1.mono hbl0.size)
  have fb7 := hn7
  have fb8 := hn8
  have fb9 := hn9
  have ne3_7 : w.heap.size ≠ bk7 := by have := hb3_0.out.lt; omega
  have ne4_7 : (w.heap.size + 1) ≠ bk7 := by have := hb4_0.out.lt; omega
  have ne5_7 : (w.heap.size + 1 + 1) ≠ bk7 := by have := hb5_0.out.lt; omega
  have ne3_8 : w.heap.size ≠ bk8 := by have := hb3_0.out.lt; omega
  have ne4_8 : (w.heap.size + 1) ≠ bk8 := by have := hb4_0.out.lt; omega
  have ne5_8 : (w.heap.size + 1 + 1) ≠ bk8 := by have := hb5_0.out.lt; omega
  have ne3_9 : w.heap.size ≠ bk9 := by have := hb3_0.out.lt; omega
  have ne4_9 : (w.heap.size + 1) ≠ bk9 := by have := hb4_0.out.lt; omega
  have ne5_9 : (w.heap.size + 1 + 1) ≠ bk9 := by have := hb5_0.out.lt; omega
  have ge7 : w.heap.size ≤ bk7 := Nat.le_trans hbl0.size hle7
  have ge8 : w.heap.size ≤ bk8 := Nat.le_trans hbl0.size hle8
  have ge9 : w.heap.size ≤ bk9 := Nat.le_trans hbl0.size hle9
  refine wpList_set _ _ _ rfl rfl rfl _ _ rfl rfl _ _ fb7 (iPe p) rfl (one_cellsP p) ?_
  replace fb3 := fb3.other ne3_7 (cellsP p)
  replace fb4 := fb4.other ne4_7 (cellsP p)
  replace fb5 := fb5.other ne5_7 (cellsP p)
  replace fb7 := fb7.set (cellsP p)
  replace fb8 := fb8.other (Ne.symm hne7_8) (cellsP p)
  replace fb9 := fb9.other (Ne.symm hne7_9) (cellsP p)
  replace hbb := below_set hbb bk7 (ge7) (cellsP p)
  refine wpList_set _ _ _ rfl rfl rfl _ _ rfl rfl _ _ fb8 (iPe q) rfl (one_cellsP q) ?_
  replace fb3 := fb3.other ne3_8 (cellsP q)
  replace fb4 := fb4.other ne4_8 (cellsP q)
  replace fb5 := fb5.other ne5_8 (cellsP q)
  replace fb7 := fb7.other hne7_8 (cellsP q)
  replace fb8 := fb8.set (cellsP q)
  replace fb9 := fb9.other (Ne.symm hne8_9) (cellsP q)
  replace hbb := below_set hbb bk8 (ge8) (cellsP q)
  refine wpList_set _ _ _ rfl rfl rfl _ _ rfl rfl _ _ fb9 (iPe r) rfl (one_cellsP r) ?_
  replace fb3 := fb3.other ne3_9 (cellsP r)
  replace fb4 := fb4.other ne4_9 (cellsP r)
  replace fb5 := fb5.other ne5_9 (cellsP r)
  replace fb7 := fb7.other hne7_9 (cellsP r)
  replace fb8 := fb8.other hne8_9 (cellsP r)
  replace fb9 := fb9.set (cellsP r)
  replace hbb := below_set hbb bk9 (ge9) (cellsP r)
  refine wpList_nil ?_
  obtain ⟨w1, hw⟩ : ∃ z, z = (((wx1.setRow bk7 (cellsP p)).setRow bk8 (cellsP q)).setRow bk9 (cellsP r)) := ⟨_, rfl⟩
  rw [← hw] at hbb fb3 fb4 fb5 fb7 fb8 fb9 ⊢
  have hb3_1 := hid fb3
  have hb4_1 := hid fb4
  have hb5_1 := hid fb5
  have hb7_1 := hid fb7
  have hb8_1 := hid fb8
  have hb9_1 := hid fb9
  have hbl1 := hbb
  clear hw hbb fb3 fb4 fb5 fb7 fb8 fb9 hx1 hbl0 hb3_0 hb4_0 hb5_0 hle7 hn7 hle8 hn8 hle9 hn9
  (repeat ((fail_if_success (with_reducible refine Go.at_region ?_)); go_step))
  refine list_all ?_
  (refine calm_whole rfl _ _ rfl _ rfl _ _ hb7_1.out gPe (iPe p) ?_; simp only [Act.put, pvA, pv0, pv1])
  (apply calm_on rfl; (focus (intro W hB; go_simp; refine (cNp.out W).mono ?_; rintro _ _ ⟨rfl, hb'⟩; exact ⟨rfl, hb'⟩)); simp only [Act.put, pvA, pv0, pv1])
  iterate 2 (apply calm_on rfl; (focus (intro W hB; go_simp; exact ⟨rfl, Below.refl _ _⟩)); simp only [Act.put, pvA, pv0, pv1])
  iterate 3 (refine calm_off rfl ?_; simp only [Act.put, pvA, pv0, pv1])
  iterate 2 (apply calm_on rfl; (focus (intro W hB; go_simp; exact ⟨rfl, Below.refl _ _⟩)); simp only [Act.put, pvA, pv0, pv1])
  iterate 3 (refine calm_off rfl ?_; simp only [Act.put, pvA, pv0, pv1])
  (apply calm_on rfl; (focus (intro W hB; go_simp; exact ⟨rfl, Below.refl _ _⟩)); simp only [Act.put, pvA, pv0, pv1])
  refine calm_nil ?_
  intro w2 hs2
  (try dsimp only)
  have hb3_2 := hid (hb3_1.out.step hs2)
  have hb4_2 := hid (hb4_1.out.step hs2)
  have hb5_2 := hid (hb5_1.out.step hs2)
  have hb7_2 := hid (hb7_1.out.step hs2)
  have hb8_2 := hid (hb8_1.out.step hs2)
  have hb9_2 := hid (hb9_1.out.step hs2)
  have hbl2 := hbl1.trans (hs2.mono hbl1.size)
  clear hs2 hbl1 hb3_1 hb4_1 hb5_1 hb7_1 hb8_1 hb9_1
  (repeat ((fail_if_success (with_reducible refine Go.at_region ?_)); go_step))
  refine list_all ?_
  (apply calm_on rfl; (focus (intro W hB; go_simp; refine (cA.out W).mono ?_; rintro _ _ ⟨rfl, hb'⟩; exact ⟨rfl, hb'⟩)); simp only [Act.put, pvA, pv0, pv1])
  (apply calm_on rfl; (focus (intro W hB; go_simp; exact ⟨rfl, Below.refl _ _⟩)); simp only [Act.put, pvA, pv0, pv1])
  refine calm_nil ?_
  intro w3 hs3
  (try dsimp only)
  have hb3_3 := hid (hb3_2.out.step hs3)
  have hb4_3 := hid (hb4_2.out.step hs3)
  have hb5_3 := hid (hb5_2.out.step hs3)
  have hb7_3 := hid (hb7_2.out.step hs3)
  have hb8_3 := hid (hb8_2.out.step hs3)
  have hb9_3 := hid (hb9_2.out.step hs3)
  have hbl3 := hbl2.trans (hs3.mono hbl2.size)
  clear hs3 hbl2 hb3_2 hb4_2 hb5_2 hb7_2 hb8_2 hb9_2
  (repeat ((fail_if_success (with_reducible refine Go.at_region ?_)); go_step))
  go_ret
  exact ⟨rfl, hbl3⟩
set_option maxRecDepth 100000 in
set_option maxHeartbeats 8000000 in
theorem edg_q (w : World) (p q r : P2) (hp : LtP p) (hq : LtP q) (hr : LtP r) (h1 : onB p = true) (h2 : onB q = false) : Calls Try.prog 5 #[pt p, pt q, pt r] w fun e w' => e = .returned (.bool true) ∧ Below w.heap.size w w' := by
  have cOp := hid fun w => own_any p w
  have cOq := hid fun w => own_any q w
  have cOr := hid fun w => own_any r w
  have cNp := hid fun w => on_any p w hp
  have cNq := hid fun w => on_any q w hq
  have cNr := hid fun w => on_any r w hr
  have cA := hid fun w => ealive_any w
  rw [h1] at cNp
  rw [h2] at cNq
  clear hp hq hr h1 h2
  unfold pt at *
  obtain ⟨w0, hw0, k3, k4, k5, hbl0⟩ := entry3 w 43 (cellsP p) 43 (cellsP q) 43 (cellsP r)
  have hb3_0 := hid k3
  have hb4_0 := hid k4
  have hb5_0 := hid k5
  clear k3 k4 k5
  go_enter Try.func5, Try.ntmps5
  (repeat ((fail_if_success (with_reducible refine Go.at_region ?_)); go_step))
  refine wp_region_lit ?_
  (refine wpList_box 43 (.tmp 0) rfl rfl (cellsP p) rfl ?_; simp only [Act.put, pvA, pv0, pv1]; (try simp only [World.size_alloc]))
  (refine wpList_box 43 (.tmp 1) rfl rfl (cellsP q) rfl ?_; simp only [Act.put, pvA, pv0, pv1]; (try simp only [World.size_alloc]))
  (refine wpList_box 43 (.tmp 2) rfl rfl (cellsP r) rfl ?_; simp only [Act.put, pvA, pv0, pv1]; (try simp only [World.size_alloc]))
  (refine wpList_plain rfl fun K hK => ?_; go_simp; refine hK _ _ ?_; clear hK K; (try simp only [Act.put, pvA, pv0, pv1]))
  refine wpList_nil ?_
  rw [← hw0]
  clear hw0
  (repeat ((fail_if_success (with_reducible refine Go.at_region ?_)); go_step))
  refine draw_new3 6 _ _ _ rfl 44 (cellsP zeroP) 7 8 9 zPe rfl rfl rfl (by simp) rfl rfl rfl (by simp) rfl rfl rfl (by simp) (by decide) (by decide) (by decide) (by kernel_rfl) (by kernel_rfl) (by kernel_rfl) (by kernel_rfl) ?_
  simp only [List.take_succ_cons, List.take_zero]
  (refine calm_whole rfl _ _ rfl _ rfl _ _ hb3_0.out gPr (iPr p) ?_; simp only [Act.put, pvA, pv0, pv1])
  (apply calm_on rfl; (focus (intro W hB; go_simp; refine (cOp.out W).mono ?_; rintro _ _ ⟨rfl, hb'⟩; exact ⟨rfl, hb'⟩)); simp only [Act.put, pvA, pv0, pv1])
  (refine calm_whole rfl _ _ rfl _ rfl _ _ hb4_0.out gPr (iPr q) ?_; simp only [Act.put, pvA, pv0, pv1])
  (apply calm_on rfl; (focus (intro W hB; go_simp; refine (cOq.out W).mono ?_; rintro _ _ ⟨rfl, hb'⟩; exact ⟨rfl, hb'⟩)); simp only [Act.put, pvA, pv0, pv1])
  (refine calm_whole rfl _ _ rfl _ rfl _ _ hb5_0.out gPr (iPr r) ?_; simp only [Act.put, pvA, pv0, pv1])
  (apply calm_on rfl; (focus (intro W hB; go_simp; refine (cOr.out W).mono ?_; rintro _ _ ⟨rfl, hb'⟩; exact ⟨rfl, hb'⟩)); simp only [Act.put, pvA, pv0, pv1])
  refine calm_nil ?_
  intro bk7 bk8 bk9 wx1 hle7 hle8 hle9 hne7_8 hne7_9 hne8_9 hx1 hn7 hn8 hn9
  simp only [List.drop_succ_cons, List.drop_zero]
  (try simp only [Act.put, pvA, pv0, pv1])
  have fb3 := hb3_0.out.step hx1
  have fb4 := hb4_0.out.step hx1
  have fb5 := hb5_0.out.step hx1
  have hbb := hbl0.trans (hx1.mono hbl0.size)
  have fb7 := hn7
  have fb8 := hn8
  have fb9 := hn9
  have ne3_7 : w.heap.size ≠ bk7 := by have := hb3_0.out.lt; omega
  have ne4_7 : (w.heap.size + 1) ≠ bk7 := by have := hb4_0.out.lt; omega
  have ne5_7 : (w.heap.size + 1 + 1) ≠ bk7 := by have := hb5_0.out.lt; omega
  have ne3_8 : w.heap.size ≠ bk8 := by have := hb3_0.out.lt; omega
  have ne4_8 : (w.heap.size + 1) ≠ bk8 := by have := hb4_0.out.lt; omega
  have ne5_8 : (w.heap.size + 1 + 1) ≠ bk8 := by have := hb5_0.out.lt; omega
  have ne3_9 : w.heap.size ≠ bk9 := by have := hb3_0.out.lt; omega
  have ne4_9 : (w.heap.size + 1) ≠ bk9 := by have := hb4_0.out.lt; omega
  have ne5_9 : (w.heap.size + 1 + 1) ≠ bk9 := by have := hb5_0.out.lt; omega
  have ge7 : w.heap.size ≤ bk7 := Nat.le_trans hbl0.size hle7
  have ge8 : w.heap.size ≤ bk8 := Nat.le_trans hbl0.size hle8
  have ge9 : w.heap.size ≤ bk9 := Nat.le_trans hbl0.size hle9
  refine wpList_set _ _ _ rfl rfl rfl _ _ rfl rfl _ _ fb7 (iPe p) rfl (one_cellsP p) ?_
  replace fb3 := fb3.other ne3_7 (cellsP p)
  replace fb4 := fb4.other ne4_7 (cellsP p)
  replace fb5 := fb5.other ne5_7 (cellsP p)
  replace fb7 := fb7.set (cellsP p)
  replace fb8 := fb8.other (Ne.symm hne7_8) (cellsP p)
  replace fb9 := fb9.other (Ne.symm hne7_9) (cellsP p)
  replace hbb := below_set hbb bk7 (ge7) (cellsP p)
  refine wpList_set _ _ _ rfl rfl rfl _ _ rfl rfl _ _ fb8 (iPe q) rfl (one_cellsP q) ?_
  replace fb3 := fb3.other ne3_8 (cellsP q)
  replace fb4 := fb4.other ne4_8 (cellsP q)
  replace fb5 := fb5.other ne5_8 (cellsP q)
  replace fb7 := fb7.other hne7_8 (cellsP q)
  replace fb8 := fb8.set (cellsP q)
  replace fb9 := fb9.other (Ne.symm hne8_9) (cellsP q)
  replace hbb := below_set hbb bk8 (ge8) (cellsP q)
  refine wpList_set _ _ _ rfl rfl rfl _ _ rfl rfl _ _ fb9 (iPe r) rfl (one_cellsP r) ?_
  replace fb3 := fb3.other ne3_9 (cellsP r)
  replace fb4 := fb4.other ne4_9 (cellsP r)
  replace fb5 := fb5.other ne5_9 (cellsP r)
  replace fb7 := fb7.other hne7_9 (cellsP r)
  replace fb8 := fb8.other hne8_9 (cellsP r)
  replace fb9 := fb9.set (cellsP r)
  replace hbb := below_set hbb bk9 (ge9) (cellsP r)
  refine wpList_nil ?_
  obtain ⟨w1, hw⟩ : ∃ z, z = (((wx1.setRow bk7 (cellsP p)).setRow bk8 (cellsP q)).setRow bk9 (cellsP r)) := ⟨_, rfl⟩
  rw [← hw] at hbb fb3 fb4 fb5 fb7 fb8 fb9 ⊢
  have hb3_1 := hid fb3
  have hb4_1 := hid fb4
  have hb5_1 := hid fb5
  have hb7_1 := hid fb7
  have hb8_1 := hid fb8
  have hb9_1 := hid fb9
  have hbl1 := hbb
  clear hw hbb fb3 fb4 fb5 fb7 fb8 fb9 hx1 hbl0 hb3_0 hb4_0 hb5_0 hle7 hn7 hle8 hn8 hle9 hn9
  (repeat ((fail_if_success (with_reducible refine Go.at_region ?_)); go_step))
  refine list_all ?_
  (refine calm_whole rfl _ _ rfl _ rfl _ _ hb7_1.out gPe (iPe p) ?_; simp only [Act.put, pvA, pv0, pv1])
  (apply calm_on rfl; (focus (intro W hB; go_simp; refine (cNp.out W).mono ?_; rintro _ _ ⟨rfl, hb'⟩; exact ⟨rfl, hb'⟩)); simp only [Act.put, pvA, pv0, pv1])
  iterate 2 (apply calm_on rfl; (focus (intro W hB; go_simp; exact ⟨rfl, Below.refl _ _⟩)); simp only [Act.put, pvA, pv0, pv1])
  (refine calm_whole rfl _ _ rfl _ rfl _ _ hb8_1.out gPe (iPe q) ?_; simp only [Act.put, pvA, pv0, pv1])
  (apply calm_on rfl; (focus (intro W hB; go_simp; refine (cNq.out W).mono ?_; rintro _ _ ⟨rfl, hb'⟩; exact ⟨rfl, hb'⟩)); simp only [Act.put, pvA, pv0, pv1])
  iterate 3 (apply calm_on rfl; (focus (intro W hB; go_simp; exact ⟨rfl, Below.refl _ _⟩)); simp only [Act.put, pvA, pv0, pv1])
  iterate 3 (refine calm_off rfl ?_; simp only [Act.put, pvA, pv0, pv1])
  (apply calm_on rfl; (focus (intro W hB; go_simp; exact ⟨rfl, Below.refl _ _⟩)); simp only [Act.put, pvA, pv0, pv1])
  refine calm_nil ?_
  intro w2 hs2
  (try dsimp only)
  have hb3_2 := hid (hb3_1.out.step hs2)
  have hb4_2 := hid (hb4_1.out.step hs2)
  have hb5_2 := hid (hb5_1.out.step hs2)
  have hb7_2 := hid (hb7_1.out.step hs2)
  have hb8_2 := hid (hb8_1.out.step hs2)
  have hb9_2 := hid (hb9_1.out.step hs2)
  have hbl2 := hbl1.trans (hs2.mono hbl1.size)
  clear hs2 hbl1 hb3_1 hb4_1 hb5_1 hb7_1 hb8_1 hb9_1
  (repeat ((fail_if_success (with_reducible refine Go.at_region ?_)); go_step))
  refine list_all ?_
  (apply calm_on rfl; (focus (intro W hB; go_simp; refine (cA.out W).mono ?_; rintro _ _ ⟨rfl, hb'⟩; exact ⟨rfl, hb'⟩)); simp only [Act.put, pvA, pv0, pv1])
  (apply calm_on rfl; (focus (intro W hB; go_simp; exact ⟨rfl, Below.refl _ _⟩)); simp only [Act.put, pvA, pv0, pv1])
  refine calm_nil ?_
  intro w3 hs3
  (try dsimp only)
  have hb3_3 := hid (hb3_2.out.step hs3)
  have hb4_3 := hid (hb4_2.out.step hs3)
  have hb5_3 := hid (hb5_2.out.step hs3)
  have hb7_3 := hid (hb7_2.out.step hs3)
  have hb8_3 := hid (hb8_2.out.step hs3)
  have hb9_3 := hid (hb9_2.out.step hs3)
  have hbl3 := hbl2.trans (hs3.mono hbl2.size)
  clear hs3 hbl2 hb3_2 hb4_2 hb5_2 hb7_2 hb8_2 hb9_2
  (repeat ((fail_if_success (with_reducible refine Go.at_region ?_)); go_step))
  go_ret
  exact ⟨rfl, hbl3⟩
set_option maxRecDepth 100000 in
set_option maxHeartbeats 8000000 in
theorem edg_r (w : World) (p q r : P2) (hp : LtP p) (hq : LtP q) (hr : LtP r) (h1 : onB p = true) (h2 : onB q = true) (h3 : onB r = false) : Calls Try.prog 5 #[pt p, pt q, pt r] w fun e w' => e = .returned (.bool true) ∧ Below w.heap.size w w' := by
  have cOp := hid fun w => own_any p w
  have cOq := hid fun w => own_any q w
  have cOr := hid fun w => own_any r w
  have cNp := hid fun w => on_any p w hp
  have cNq := hid fun w => on_any q w hq
  have cNr := hid fun w => on_any r w hr
  have cA := hid fun w => ealive_any w
  rw [h1] at cNp
  rw [h2] at cNq
  rw [h3] at cNr
  clear hp hq hr h1 h2 h3
  unfold pt at *
  obtain ⟨w0, hw0, k3, k4, k5, hbl0⟩ := entry3 w 43 (cellsP p) 43 (cellsP q) 43 (cellsP r)
  have hb3_0 := hid k3
  have hb4_0 := hid k4
  have hb5_0 := hid k5
  clear k3 k4 k5
  go_enter Try.func5, Try.ntmps5
  (repeat ((fail_if_success (with_reducible refine Go.at_region ?_)); go_step))
  refine wp_region_lit ?_
  (refine wpList_box 43 (.tmp 0) rfl rfl (cellsP p) rfl ?_; simp only [Act.put, pvA, pv0, pv1]; (try simp only [World.size_alloc]))
  (refine wpList_box 43 (.tmp 1) rfl rfl (cellsP q) rfl ?_; simp only [Act.put, pvA, pv0, pv1]; (try simp only [World.size_alloc]))
  (refine wpList_box 43 (.tmp 2) rfl rfl (cellsP r) rfl ?_; simp only [Act.put, pvA, pv0, pv1]; (try simp only [World.size_alloc]))
  (refine wpList_plain rfl fun K hK => ?_; go_simp; refine hK _ _ ?_; clear hK K; (try simp only [Act.put, pvA, pv0, pv1]))
  refine wpList_nil ?_
  rw [← hw0]
  clear hw0
  (repeat ((fail_if_success (with_reducible refine Go.at_region ?_)); go_step))
  refine draw_new3 6 _ _ _ rfl 44 (cellsP zeroP) 7 8 9 zPe rfl rfl rfl (by simp) rfl rfl rfl (by simp) rfl rfl rfl (by simp) (by decide) (by decide) (by decide) (by kernel_rfl) (by kernel_rfl) (by kernel_rfl) (by kernel_rfl) ?_
  simp only [List.take_succ_cons, List.take_zero]
  (refine calm_whole rfl _ _ rfl _ rfl _ _ hb3_0.out gPr (iPr p) ?_; simp only [Act.put, pvA, pv0, pv1])
  (apply calm_on rfl; (focus (intro W hB; go_simp; refine (cOp.out W).mono ?_; rintro _ _ ⟨rfl, hb'⟩; exact ⟨rfl, hb'⟩)); simp only [Act.put, pvA, pv0, pv1])
  (refine calm_whole rfl _ _ rfl _ rfl _ _ hb4_0.out gPr (iPr q) ?_; simp only [Act.put, pvA, pv0, pv1])
  (apply calm_on rfl; (focus (intro W hB; go_simp; refine (cOq.out W).mono ?_; rintro _ _ ⟨rfl, hb'⟩; exact ⟨rfl, hb'⟩)); simp only [Act.put, pvA, pv0, pv1])
  (refine calm_whole rfl _ _ rfl _ rfl _ _ hb5_0.out gPr (iPr r) ?_; simp only [Act.put, pvA, pv0, pv1])
  (apply calm_on rfl; (focus (intro W hB; go_simp; refine (cOr.out W).mono ?_; rintro _ _ ⟨rfl, hb'⟩; exact ⟨rfl, hb'⟩)); simp only [Act.put, pvA, pv0, pv1])
  refine calm_nil ?_
  intro bk7 bk8 bk9 wx1 hle7 hle8 hle9 hne7_8 hne7_9 hne8_9 hx1 hn7 hn8 hn9
  simp only [List.drop_succ_cons, List.drop_zero]
  (try simp only [Act.put, pvA, pv0, pv1])
  have fb3 := hb3_0.out.step hx1
  have fb4 := hb4_0.out.step hx1
  have fb5 := hb5_0.out.step hx1
  have hbb := hbl0.trans (hx1.mono hbl0.size)
  have fb7 := hn7
  have fb8 := hn8
  have fb9 := hn9
  have ne3_7 : w.heap.size ≠ bk7 := by have := hb3_0.out.lt; omega
  have ne4_7 : (w.heap.size + 1) ≠ bk7 := by have := hb4_0.out.lt; omega
  have ne5_7 : (w.heap.size + 1 + 1) ≠ bk7 := by have := hb5_0.out.lt; omega
  have ne3_8 : w.heap.size ≠ bk8 := by have := hb3_0.out.lt; omega
  have ne4_8 : (w.heap.size + 1) ≠ bk8 := by have := hb4_0.out.lt; omega
  have ne5_8 : (w.heap.size + 1 + 1) ≠ bk8 := by have := hb5_0.out.lt; omega
  have ne3_9 : w.heap.size ≠ bk9 := by have := hb3_0.out.lt; omega
  have ne4_9 : (w.heap.size + 1) ≠ bk9 := by have := hb4_0.out.lt; omega
  have ne5_9 : (w.heap.size + 1 + 1) ≠ bk9 := by have := hb5_0.out.lt; omega
  have ge7 : w.heap.size ≤ bk7 := Nat.le_trans hbl0.size hle7
  have ge8 : w.heap.size ≤ bk8 := Nat.le_trans hbl0.size hle8
  have ge9 : w.heap.size ≤ bk9 := Nat.le_trans hbl0.size hle9
  refine wpList_set _ _ _ rfl rfl rfl _ _ rfl rfl _ _ fb7 (iPe p) rfl (one_cellsP p) ?_
  replace fb3 := fb3.other ne3_7 (cellsP p)
  replace fb4 := fb4.other ne4_7 (cellsP p)
  replace fb5 := fb5.other ne5_7 (cellsP p)
  replace fb7 := fb7.set (cellsP p)
  replace fb8 := fb8.other (Ne.symm hne7_8) (cellsP p)
  replace fb9 := fb9.other (Ne.symm hne7_9) (cellsP p)
  replace hbb := below_set hbb bk7 (ge7) (cellsP p)
  refine wpList_set _ _ _ rfl rfl rfl _ _ rfl rfl _ _ fb8 (iPe q) rfl (one_cellsP q) ?_
  replace fb3 := fb3.other ne3_8 (cellsP q)
  replace fb4 := fb4.other ne4_8 (cellsP q)
  replace fb5 := fb5.other ne5_8 (cellsP q)
  replace fb7 := fb7.other hne7_8 (cellsP q)
  replace fb8 := fb8.set (cellsP q)
  replace fb9 := fb9.other (Ne.symm hne8_9) (cellsP q)
  replace hbb := below_set hbb bk8 (ge8) (cellsP q)
  refine wpList_set _ _ _ rfl rfl rfl _ _ rfl rfl _ _ fb9 (iPe r) rfl (one_cellsP r) ?_
  replace fb3 := fb3.other ne3_9 (cellsP r)
  replace fb4 := fb4.other ne4_9 (cellsP r)
  replace fb5 := fb5.other ne5_9 (cellsP r)
  replace fb7 := fb7.other hne7_9 (cellsP r)
  replace fb8 := fb8.other hne8_9 (cellsP r)
  replace fb9 := fb9.set (cellsP r)
  replace hbb := below_set hbb bk9 (ge9) (cellsP r)
  refine wpList_nil ?_
  obtain ⟨w1, hw⟩ : ∃ z, z = (((wx1.setRow bk7 (cellsP p)).setRow bk8 (cellsP q)).setRow bk9 (cellsP r)) := ⟨_, rfl⟩
  rw [← hw] at hbb fb3 fb4 fb5 fb7 fb8 fb9 ⊢
  have hb3_1 := hid fb3
  have hb4_1 := hid fb4
  have hb5_1 := hid fb5
  have hb7_1 := hid fb7
  have hb8_1 := hid fb8
  have hb9_1 := hid fb9
  have hbl1 := hbb
  clear hw hbb fb3 fb4 fb5 fb7 fb8 fb9 hx1 hbl0 hb3_0 hb4_0 hb5_0 hle7 hn7 hle8 hn8 hle9 hn9
  (repeat ((fail_if_success (with_reducible refine Go.at_region ?_)); go_step))
  refine list_all ?_
  (refine calm_whole rfl _ _ rfl _ rfl _ _ hb7_1.out gPe (iPe p) ?_; simp only [Act.put, pvA, pv0, pv1])
  (apply calm_on rfl; (focus (intro W hB; go_simp; refine (cNp.out W).mono ?_; rintro _ _ ⟨rfl, hb'⟩; exact ⟨rfl, hb'⟩)); simp only [Act.put, pvA, pv0, pv1])
  iterate 2 (apply calm_on rfl; (focus (intro W hB; go_simp; exact ⟨rfl, Below.refl _ _⟩)); simp only [Act.put, pvA, pv0, pv1])
  (refine calm_whole rfl _ _ rfl _ rfl _ _ hb8_1.out gPe (iPe q) ?_; simp only [Act.put, pvA, pv0, pv1])
  (apply calm_on rfl; (focus (intro W hB; go_simp; refine (cNq.out W).mono ?_; rintro _ _ ⟨rfl, hb'⟩; exact ⟨rfl, hb'⟩)); simp only [Act.put, pvA, pv0, pv1])
  iterate 3 (apply calm_on rfl; (focus (intro W hB; go_simp; exact ⟨rfl, Below.refl _ _⟩)); simp only [Act.put, pvA, pv0, pv1])
  (refine calm_whole rfl _ _ rfl _ rfl _ _ hb9_1.out gPe (iPe r) ?_; simp only [Act.put, pvA, pv0, pv1])
  (apply calm_on rfl; (focus (intro W hB; go_simp; refine (cNr.out W).mono ?_; rintro _ _ ⟨rfl, hb'⟩; exact ⟨rfl, hb'⟩)); simp only [Act.put, pvA, pv0, pv1])
  iterate 2 (apply calm_on rfl; (focus (intro W hB; go_simp; exact ⟨rfl, Below.refl _ _⟩)); simp only [Act.put, pvA, pv0, pv1])
  refine calm_nil ?_
  intro w2 hs2
  (try dsimp only)
  have hb3_2 := hid (hb3_1.out.step hs2)
  have hb4_2 := hid (hb4_1.out.step hs2)
  have hb5_2 := hid (hb5_1.out.step hs2)
  have hb7_2 := hid (hb7_1.out.step hs2)
  have hb8_2 := hid (hb8_1.out.step hs2)
  have hb9_2 := hid (hb9_1.out.step hs2)
  have hbl2 := hbl1.trans (hs2.mono hbl1.size)
  clear hs2 hbl1 hb3_1 hb4_1 hb5_1 hb7_1 hb8_1 hb9_1
  (repeat ((fail_if_success (with_reducible refine Go.at_region ?_)); go_step))
  refine list_all ?_
  (apply calm_on rfl; (focus (intro W hB; go_simp; refine (cA.out W).mono ?_; rintro _ _ ⟨rfl, hb'⟩; exact ⟨rfl, hb'⟩)); simp only [Act.put, pvA, pv0, pv1])
  (apply calm_on rfl; (focus (intro W hB; go_simp; exact ⟨rfl, Below.refl _ _⟩)); simp only [Act.put, pvA, pv0, pv1])
  refine calm_nil ?_
  intro w3 hs3
  (try dsimp only)
  have hb3_3 := hid (hb3_2.out.step hs3)
  have hb4_3 := hid (hb4_2.out.step hs3)
  have hb5_3 := hid (hb5_2.out.step hs3)
  have hb7_3 := hid (hb7_2.out.step hs3)
  have hb8_3 := hid (hb8_2.out.step hs3)
  have hb9_3 := hid (hb9_2.out.step hs3)
  have hbl3 := hbl2.trans (hs3.mono hbl2.size)
  clear hs3 hbl2 hb3_2 hb4_2 hb5_2 hb7_2 hb8_2 hb9_2
  (repeat ((fail_if_success (with_reducible refine Go.at_region ?_)); go_step))
  go_ret
  exact ⟨rfl, hbl3⟩
set_option maxRecDepth 100000 in
set_option maxHeartbeats 8000000 in
theorem edg_on (w : World) (p q r : P2) (hp : LtP p) (hq : LtP q) (hr : LtP r) (h1 : onB p = true) (h2 : onB q = true) (h3 : onB r = true) : Calls Try.prog 5 #[pt p, pt q, pt r] w fun e w' => e = .returned (.bool true) ∧ Below w.heap.size w w' := by
  have cOp := hid fun w => own_any p w
  have cOq := hid fun w => own_any q w
  have cOr := hid fun w => own_any r w
  have cNp := hid fun w => on_any p w hp
  have cNq := hid fun w => on_any q w hq
  have cNr := hid fun w => on_any r w hr
  have cA := hid fun w => ealive_any w
  rw [h1] at cNp
  rw [h2] at cNq
  rw [h3] at cNr
  have one := onB_lt oneP_on
  have hb := onB_lt baseP_on
  have cS := hid fun w => fsub_any 0 p.x w (by decide) hp.x
  have l1 := onB_lt (addP_on h1 h2)
  have l2 := onB_lt (addP_on h2 h3)
  have ha := onB_lt (away_on h1)
  have c12 := hid fun w => add_any p q w hp hq
  have c21 := hid fun w => add_any q p w hq hp
  rw [← addP_comm h1 h2] at c21
  have c123 := hid fun w => add_any (addP p q) r w l1 hr
  have c23 := hid fun w => add_any q r w hq hr
  have c1_23 := hid fun w => add_any p (addP q r) w hp l2
  rw [← addP_assoc h1 h2 h3] at c1_23
  have c10 := hid fun w => add_any p oneP w hp one
  rw [addP_one h1] at c10
  have c1a := hid fun w => add_any p (awayP p) w hp ha
  rw [addP_away h1] at c1a
  have cL := hid fun w => fL_any w
  have cB := hid fun w => base_any w
  have cLB := hid fun w => mul_any lN baseP w hb
  rw [mulP_L] at cLB
  have c2 := hid fun w => mul_any 2 p w hp
  rw [mulP_two h1] at c2
  have c11 := hid fun w => add_any p p w hp hp
  have l3 := onB_lt (addP_on (addP_on h1 h2) h3)
  have l4 := onB_lt (addP_on h1 h1)
  have q1 := eq_pt (addP p q) (addP p q) l1 l1
  rw [decide_eq_true ⟨rfl, rfl⟩] at q1
  have q2 := eq_pt (addP (addP p q) r) (addP (addP p q) r) l3 l3
  rw [decide_eq_true ⟨rfl, rfl⟩] at q2
  have q3 := eq_pt p p hp hp
  rw [decide_eq_true ⟨rfl, rfl⟩] at q3
  have q4 := eq_pt oneP oneP one one
  rw [decide_eq_true ⟨rfl, rfl⟩] at q4
  have q5 := eq_pt (addP p p) (addP p p) l4 l4
  rw [decide_eq_true ⟨rfl, rfl⟩] at q5
  have b1 := hid one_built
  have b2 := hid two_built
  have b0 := hid nil_built
  have bO : Try.prog.built 44 [(1, .agg (cellsW 1))] = some (cellsP oneP) := by kernel_rfl
  replace bO := hid bO
  have bA := hid (bPe (subP 0 p.x) p.y)
  rw [show (⟨subP 0 p.x, p.y⟩ : P2) = awayP p from rfl] at bA
  clear h1 h2 h3 one hb l1 l2 ha l3 l4 hp hq hr
  generalize awayP p = v at *
  generalize addP (addP p q) r = s3 at *
  generalize addP p q = s1 at *
  generalize addP q r = s2 at *
  generalize addP p p = s4 at *
  generalize oneP = o at *
  generalize baseP = bb at *
  generalize subP 0 p.x = ax at *
  obtain ⟨L, hL⟩ : ∃ L, L = lN := ⟨_, rfl⟩
  rw [← hL] at cL cLB
  clear hL
  unfold pt wd at *
  obtain ⟨w0, hw0, k3, k4, k5, hbl0⟩ := entry3 w 43 (cellsP p) 43 (cellsP q) 43 (cellsP r)
  have hb3_0 := hid k3
  have hb4_0 := hid k4
  have hb5_0 := hid k5
  clear k3 k4 k5
  go_enter Try.func5, Try.ntmps5
  (repeat ((fail_if_success (with_reducible refine Go.at_region ?_)); go_step))
  refine wp_region_lit ?_
  (refine wpList_box 43 (.tmp 0) rfl rfl (cellsP p) rfl ?_; simp only [Act.put, pvA, pv0, pv1]; (try simp only [World.size_alloc]))
  (refine wpList_box 43 (.tmp 1) rfl rfl (cellsP q) rfl ?_; simp only [Act.put, pvA, pv0, pv1]; (try simp only [World.size_alloc]))
  (refine wpList_box 43 (.tmp 2) rfl rfl (cellsP r) rfl ?_; simp only [Act.put, pvA, pv0, pv1]; (try simp only [World.size_alloc]))
  (refine wpList_plain rfl fun K hK => ?_; go_simp; refine hK _ _ ?_; clear hK K; (try simp only [Act.put, pvA, pv0, pv1]))
  refine wpList_nil ?_
  rw [← hw0]
  clear hw0
  (repeat ((fail_if_success (with_reducible refine Go.at_region ?_)); go_step))
  refine draw_new3 6 _ _ _ rfl 44 (cellsP zeroP) 7 8 9 zPe rfl rfl rfl (by simp) rfl rfl rfl (by simp) rfl rfl rfl (by simp) (by decide) (by decide) (by decide) (by kernel_rfl) (by kernel_rfl) (by kernel_rfl) (by kernel_rfl) ?_
  simp only [List.take_succ_cons, List.take_zero]
  (refine calm_whole rfl _ _ rfl _ rfl _ _ hb3_0.out gPr (iPr p) ?_; simp only [Act.put, pvA, pv0, pv1])
  (apply calm_on rfl; (focus (intro W hB; go_simp; refine (cOp.out W).mono ?_; rintro _ _ ⟨rfl, hb'⟩; exact ⟨rfl, hb'⟩)); simp only [Act.put, pvA, pv0, pv1])
  (refine calm_whole rfl _ _ rfl _ rfl _ _ hb4_0.out gPr (iPr q) ?_; simp only [Act.put, pvA, pv0, pv1])
  (apply calm_on rfl; (focus (intro W hB; go_simp; refine (cOq.out W).mono ?_; rintro _ _ ⟨rfl, hb'⟩; exact ⟨rfl, hb'⟩)); simp only [Act.put, pvA, pv0, pv1])
  (refine calm_whole rfl _ _ rfl _ rfl _ _ hb5_0.out gPr (iPr r) ?_; simp only [Act.put, pvA, pv0, pv1])
  (apply calm_on rfl; (focus (intro W hB; go_simp; refine (cOr.out W).mono ?_; rintro _ _ ⟨rfl, hb'⟩; exact ⟨rfl, hb'⟩)); simp only [Act.put, pvA, pv0, pv1])
  refine calm_nil ?_
  intro bk7 bk8 bk9 wx1 hle7 hle8 hle9 hne7_8 hne7_9 hne8_9 hx1 hn7 hn8 hn9
  simp only [List.drop_succ_cons, List.drop_zero]
  (try simp only [Act.put, pvA, pv0, pv1])
  have fb3 := hb3_0.out.step hx1
  have fb4 := hb4_0.out.step hx1
  have fb5 := hb5_0.out.step hx1
  have hbb := hbl0.trans (hx1.mono hbl0.size)
  have fb7 := hn7
  have fb8 := hn8
  have fb9 := hn9
  have ne3_7 : w.heap.size ≠ bk7 := by have := hb3_0.out.lt; omega
  have ne4_7 : (w.heap.size + 1) ≠ bk7 := by have := hb4_0.out.lt; omega
  have ne5_7 : (w.heap.size + 1 + 1) ≠ bk7 := by have := hb5_0.out.lt; omega
  have ne3_8 : w.heap.size ≠ bk8 := by have := hb3_0.out.lt; omega
  have ne4_8 : (w.heap.size + 1) ≠ bk8 := by have := hb4_0.out.lt; omega
  have ne5_8 : (w.heap.size + 1 + 1) ≠ bk8 := by have := hb5_0.out.lt; omega
  have ne3_9 : w.heap.size ≠ bk9 := by have := hb3_0.out.lt; omega
  have ne4_9 : (w.heap.size + 1) ≠ bk9 := by have := hb4_0.out.lt; omega
  have ne5_9 : (w.heap.size + 1 + 1) ≠ bk9 := by have := hb5_0.out.lt; omega
  have ge7 : w.heap.size ≤ bk7 := Nat.le_trans hbl0.size hle7
  have ge8 : w.heap.size ≤ bk8 := Nat.le_trans hbl0.size hle8
  have ge9 : w.heap.size ≤ bk9 := Nat.le_trans hbl0.size hle9
  refine wpList_set _ _ _ rfl rfl rfl _ _ rfl rfl _ _ fb7 (iPe p) rfl (one_cellsP p) ?_
  replace fb3 := fb3.other ne3_7 (cellsP p)
  replace fb4 := fb4.other ne4_7 (cellsP p)
  replace fb5 := fb5.other ne5_7 (cellsP p)
  replace fb7 := fb7.set (cellsP p)
  replace fb8 := fb8.other (Ne.symm hne7_8) (cellsP p)
  replace fb9 := fb9.other (Ne.symm hne7_9) (cellsP p)
  replace hbb := below_set hbb bk7 (ge7) (cellsP p)
  refine wpList_set _ _ _ rfl rfl rfl _ _ rfl rfl _ _ fb8 (iPe q) rfl (one_cellsP q) ?_
  replace fb3 := fb3.other ne3_8 (cellsP q)
  replace fb4 := fb4.other ne4_8 (cellsP q)
  replace fb5 := fb5.other ne5_8 (cellsP q)
  replace fb7 := fb7.other hne7_8 (cellsP q)
  replace fb8 := fb8.set (cellsP q)
  replace fb9 := fb9.other (Ne.symm hne8_9) (cellsP q)
  replace hbb := below_set hbb bk8 (ge8) (cellsP q)
  refine wpList_set _ _ _ rfl rfl rfl _ _ rfl rfl _ _ fb9 (iPe r) rfl (one_cellsP r) ?_
  replace fb3 := fb3.other ne3_9 (cellsP r)
  replace fb4 := fb4.other ne4_9 (cellsP r)
  replace fb5 := fb5.other ne5_9 (cellsP r)
  replace fb7 := fb7.other hne7_9 (cellsP r)
  replace fb8 := fb8.other hne8_9 (cellsP r)
  replace fb9 := fb9.set (cellsP r)
  replace hbb := below_set hbb bk9 (ge9) (cellsP r)
  refine wpList_nil ?_
  obtain ⟨w1, hw⟩ : ∃ z, z = (((wx1.setRow bk7 (cellsP p)).setRow bk8 (cellsP q)).setRow bk9 (cellsP r)) := ⟨_, rfl⟩
  rw [← hw] at hbb fb3 fb4 fb5 fb7 fb8 fb9 ⊢
  have hb3_1 := hid fb3
  have hb4_1 := hid fb4
  have hb5_1 := hid fb5
  have hb7_1 := hid fb7
  have hb8_1 := hid fb8
  have hb9_1 := hid fb9
  have hbl1 := hbb
  clear hw hbb fb3 fb4 fb5 fb7 fb8 fb9 hx1 hbl0 hb3_0 hb4_0 hb5_0 hle7 hn7 hle8 hn8 hle9 hn9
  (repeat ((fail_if_success (with_reducible refine Go.at_region ?_)); go_step))
  refine list_all ?_
  (refine calm_whole rfl _ _ rfl _ rfl _ _ hb7_1.out gPe (iPe p) ?_; simp only [Act.put, pvA, pv0, pv1])
  (apply calm_on rfl; (focus (intro W hB; go_simp; refine (cNp.out W).mono ?_; rintro _ _ ⟨rfl, hb'⟩; exact ⟨rfl, hb'⟩)); simp only [Act.put, pvA, pv0, pv1])
  iterate 2 (apply calm_on rfl; (focus (intro W hB; go_simp; exact ⟨rfl, Below.refl _ _⟩)); simp only [Act.put, pvA, pv0, pv1])
  (refine calm_whole rfl _ _ rfl _ rfl _ _ hb8_1.out gPe (iPe q) ?_; simp only [Act.put, pvA, pv0, pv1])
  (apply calm_on rfl; (focus (intro W hB; go_simp; refine (cNq.out W).mono ?_; rintro _ _ ⟨rfl, hb'⟩; exact ⟨rfl, hb'⟩)); simp only [Act.put, pvA, pv0, pv1])
  iterate 3 (apply calm_on rfl; (focus (intro W hB; go_simp; exact ⟨rfl, Below.refl _ _⟩)); simp only [Act.put, pvA, pv0, pv1])
  (refine calm_whole rfl _ _ rfl _ rfl _ _ hb9_1.out gPe (iPe r) ?_; simp only [Act.put, pvA, pv0, pv1])
  (apply calm_on rfl; (focus (intro W hB; go_simp; refine (cNr.out W).mono ?_; rintro _ _ ⟨rfl, hb'⟩; exact ⟨rfl, hb'⟩)); simp only [Act.put, pvA, pv0, pv1])
  iterate 2 (apply calm_on rfl; (focus (intro W hB; go_simp; exact ⟨rfl, Below.refl _ _⟩)); simp only [Act.put, pvA, pv0, pv1])
  refine calm_nil ?_
  intro w2 hs2
  (try dsimp only)
  have hb3_2 := hid (hb3_1.out.step hs2)
  have hb4_2 := hid (hb4_1.out.step hs2)
  have hb5_2 := hid (hb5_1.out.step hs2)
  have hb7_2 := hid (hb7_1.out.step hs2)
  have hb8_2 := hid (hb8_1.out.step hs2)
  have hb9_2 := hid (hb9_1.out.step hs2)
  have hbl2 := hbl1.trans (hs2.mono hbl1.size)
  clear hs2 hbl1 hb3_1 hb4_1 hb5_1 hb7_1 hb8_1 hb9_1
  (repeat ((fail_if_success (with_reducible refine Go.at_region ?_)); go_step))
  refine list_tail 2 ?_
  simp only [List.take_succ_cons, List.take_zero]
  (refine calm_build rfl 25 _ rfl (cellsW 1) (by first | (simp only [List.map_toArray, List.map_cons, List.map_nil]; exact b1.out) | exact b1.out) ?_; simp only [Act.put, pvA, pv0, pv1])
  (refine calm_build rfl 44 _ rfl (cellsP o) (by first | (simp only [List.map_toArray, List.map_cons, List.map_nil]; exact bO.out) | exact bO.out) ?_; simp only [Act.put, pvA, pv0, pv1])
  refine calm_nil ?_
  intro wx3 hx3
  simp only [List.drop_succ_cons, List.drop_zero]
  (try simp only [Act.put, pvA, pv0, pv1])
  refine wpList_new 44 (cellsP zeroP) rfl rfl zPe ?_
  intro bk10 wy3 hle10 hy3 hn10
  (try simp only [Act.put, pvA, pv0, pv1])
  replace hle10 := Nat.le_trans hx3.size hle10
  replace hx3 := hx3.trans (hy3.mono hx3.size)
  clear hy3
  have fb3 := hb3_2.out.step hx3
  have fb4 := hb4_2.out.step hx3
  have fb5 := hb5_2.out.step hx3
  have fb7 := hb7_2.out.step hx3
  have fb8 := hb8_2.out.step hx3
  have fb9 := hb9_2.out.step hx3
  have hbb := hbl2.trans (hx3.mono hbl2.size)
  have fb10 := hn10
  have ne3_10 : w.heap.size ≠ bk10 := by have := hb3_2.out.lt; omega
  have ne4_10 : (w.heap.size + 1) ≠ bk10 := by have := hb4_2.out.lt; omega
  have ne5_10 : (w.heap.size + 1 + 1) ≠ bk10 := by have := hb5_2.out.lt; omega
  have ne7_10 : bk7 ≠ bk10 := by have := hb7_2.out.lt; omega
  have ne8_10 : bk8 ≠ bk10 := by have := hb8_2.out.lt; omega
  have ne9_10 : bk9 ≠ bk10 := by have := hb9_2.out.lt; omega
  have ge10 : w.heap.size ≤ bk10 := Nat.le_trans hbl2.size hle10
  refine wpList_set _ _ _ rfl rfl rfl _ _ rfl rfl _ _ fb10 (iPe o) rfl (one_cellsP o) ?_
  replace fb3 := fb3.other ne3_10 (cellsP o)
  replace fb4 := fb4.other ne4_10 (cellsP o)
  replace fb5 := fb5.other ne5_10 (cellsP o)
  replace fb7 := fb7.other ne7_10 (cellsP o)
  replace fb8 := fb8.other ne8_10 (cellsP o)
  replace fb9 := fb9.other ne9_10 (cellsP o)
  replace fb10 := fb10.set (cellsP o)
  replace hbb := below_set hbb bk10 (ge10) (cellsP o)
  refine wpList_nil ?_
  obtain ⟨w3, hw⟩ : ∃ z, z = (wy3.setRow bk10 (cellsP o)) := ⟨_, rfl⟩
  rw [← hw] at hbb fb3 fb4 fb5 fb7 fb8 fb9 fb10 ⊢
  have hb3_3 := hid fb3
  have hb4_3 := hid fb4
  have hb5_3 := hid fb5
  have hb7_3 := hid fb7
  have hb8_3 := hid fb8
  have hb9_3 := hid fb9
  have hb10_3 := hid fb10
  have hbl3 := hbb
  clear hw hbb fb3 fb4 fb5 fb7 fb8 fb9 fb10 hx3 hbl2 hb3_2 hb4_2 hb5_2 hb7_2 hb8_2 hb9_2 hle10 hn10
  (repeat ((fail_if_success (with_reducible refine Go.at_region ?_)); go_step))
  refine draw_new1 7 _ rfl 44 (cellsP zeroP) 11 rfl rfl rfl (by simp) zPe (by kernel_rfl) (by kernel_rfl) (by kernel_rfl) ?_
  simp only [List.take_succ_cons, List.take_zero]
  (refine calm_build rfl 25 _ rfl (cellsW 0) (by first | (simp only [List.map_toArray, List.map_cons, List.map_nil]; exact b0.out) | exact b0.out) ?_; simp only [Act.put, pvA, pv0, pv1])
  (apply calm_on rfl; (focus (intro W hB; go_simp; exact ⟨rfl, Below.refl _ _⟩)); simp only [Act.put, pvA, pv0, pv1])
  (refine calm_part rfl _ _ rfl _ _ rfl _ _ (cellsW (p).x) hb7_3.out (inP_x p) gWd (iW (p).x) ?_; simp only [Act.put, pvA, pv0, pv1])
  (apply calm_on rfl; (focus (intro W hB; go_simp; refine (cS.out W).mono ?_; rintro _ _ ⟨rfl, hb'⟩; exact ⟨rfl, hb'⟩)); simp only [Act.put, pvA, pv0, pv1])
  (apply calm_on rfl; (focus (intro W hB; go_simp; exact ⟨rfl, Below.refl _ _⟩)); simp only [Act.put, pvA, pv0, pv1])
  (refine calm_part rfl _ _ rfl _ _ rfl _ _ (cellsW (p).y) hb7_3.out (inP_y p) gWd (iW (p).y) ?_; simp only [Act.put, pvA, pv0, pv1])
  (refine calm_build rfl 44 _ rfl (cellsP v) (by first | (simp only [List.map_toArray, List.map_cons, List.map_nil]; exact bA.out) | exact bA.out) ?_; simp only [Act.put, pvA, pv0, pv1])
  refine calm_nil ?_
  intro bk11 wx4 hle11 hx4 hn11
  simp only [List.drop_succ_cons, List.drop_zero]
  (try simp only [Act.put, pvA, pv0, pv1])
  have fb3 := hb3_3.out.step hx4
  have fb4 := hb4_3.out.step hx4
  have fb5 := hb5_3.out.step hx4
  have fb7 := hb7_3.out.step hx4
  have fb8 := hb8_3.out.step hx4
  have fb9 := hb9_3.out.step hx4
  have fb10 := hb10_3.out.step hx4
  have hbb := hbl3.trans (hx4.mono hbl3.size)
  have fb11 := hn11
  have ne3_11 : w.heap.size ≠ bk11 := by have := hb3_3.out.lt; omega
  have ne4_11 : (w.heap.size + 1) ≠ bk11 := by have := hb4_3.out.lt; omega
  have ne5_11 : (w.heap.size + 1 + 1) ≠ bk11 := by have := hb5_3.out.lt; omega
  have ne7_11 : bk7 ≠ bk11 := by have := hb7_3.out.lt; omega
  have ne8_11 : bk8 ≠ bk11 := by have := hb8_3.out.lt; omega
  have ne9_11 : bk9 ≠ bk11 := by have := hb9_3.out.lt; omega
  have ne10_11 : bk10 ≠ bk11 := by have := hb10_3.out.lt; omega
  have ge11 : w.heap.size ≤ bk11 := Nat.le_trans hbl3.size hle11
  refine wpList_set _ _ _ rfl rfl rfl _ _ rfl rfl _ _ fb11 (iPe v) rfl (one_cellsP v) ?_
  replace fb3 := fb3.other ne3_11 (cellsP v)
  replace fb4 := fb4.other ne4_11 (cellsP v)
  replace fb5 := fb5.other ne5_11 (cellsP v)
  replace fb7 := fb7.other ne7_11 (cellsP v)
  replace fb8 := fb8.other ne8_11 (cellsP v)
  replace fb9 := fb9.other ne9_11 (cellsP v)
  replace fb10 := fb10.other ne10_11 (cellsP v)
  replace fb11 := fb11.set (cellsP v)
  replace hbb := below_set hbb bk11 (ge11) (cellsP v)
  refine wpList_nil ?_
  obtain ⟨w4, hw⟩ : ∃ z, z = (wx4.setRow bk11 (cellsP v)) := ⟨_, rfl⟩
  rw [← hw] at hbb fb3 fb4 fb5 fb7 fb8 fb9 fb10 fb11 ⊢
  have hb3_4 := hid fb3
  have hb4_4 := hid fb4
  have hb5_4 := hid fb5
  have hb7_4 := hid fb7
  have hb8_4 := hid fb8
  have hb9_4 := hid fb9
  have hb10_4 := hid fb10
  have hb11_4 := hid fb11
  have hbl4 := hbb
  clear hw hbb fb3 fb4 fb5 fb7 fb8 fb9 fb10 fb11 hx4 hbl3 hb3_3 hb4_3 hb5_3 hb7_3 hb8_3 hb9_3 hb10_3 hle11 hn11
  (repeat ((fail_if_success (with_reducible refine Go.at_region ?_)); go_step))
  refine draw_all (by kernel_rfl) (by kernel_rfl) (by kernel_rfl) ?_
  (refine calm_whole rfl _ _ rfl _ rfl _ _ hb7_4.out gPe (iPe p) ?_; simp only [Act.put, pvA, pv0, pv1])
  (refine calm_whole rfl _ _ rfl _ rfl _ _ hb8_4.out gPe (iPe q) ?_; simp only [Act.put, pvA, pv0, pv1])
  (apply calm_on rfl; (focus (intro W hB; go_simp; refine (c12.out W).mono ?_; rintro _ _ ⟨rfl, hb'⟩; exact ⟨rfl, hb'⟩)); simp only [Act.put, pvA, pv0, pv1])
  (refine calm_whole rfl _ _ rfl _ rfl _ _ hb8_4.out gPe (iPe q) ?_; simp only [Act.put, pvA, pv0, pv1])
  (refine calm_whole rfl _ _ rfl _ rfl _ _ hb7_4.out gPe (iPe p) ?_; simp only [Act.put, pvA, pv0, pv1])
  (apply calm_on rfl; (focus (intro W hB; go_simp; refine (c21.out W).mono ?_; rintro _ _ ⟨rfl, hb'⟩; exact ⟨rfl, hb'⟩)); simp only [Act.put, pvA, pv0, pv1])
  iterate 2 (apply calm_on rfl; (focus (intro W hB; go_simp; exact ⟨rfl, Below.refl _ _⟩)); simp only [Act.put, pvA, pv0, pv1])
  (refine calm_whole rfl _ _ rfl _ rfl _ _ hb7_4.out gPe (iPe p) ?_; simp only [Act.put, pvA, pv0, pv1])
  (refine calm_whole rfl _ _ rfl _ rfl _ _ hb8_4.out gPe (iPe q) ?_; simp only [Act.put, pvA, pv0, pv1])
  (apply calm_on rfl; (focus (intro W hB; go_simp; refine (c12.out W).mono ?_; rintro _ _ ⟨rfl, hb'⟩; exact ⟨rfl, hb'⟩)); simp only [Act.put, pvA, pv0, pv1])
  (refine calm_whole rfl _ _ rfl _ rfl _ _ hb9_4.out gPe (iPe r) ?_; simp only [Act.put, pvA, pv0, pv1])
  (apply calm_on rfl; (focus (intro W hB; go_simp; refine (c123.out W).mono ?_; rintro _ _ ⟨rfl, hb'⟩; exact ⟨rfl, hb'⟩)); simp only [Act.put, pvA, pv0, pv1])
  (refine calm_whole rfl _ _ rfl _ rfl _ _ hb7_4.out gPe (iPe p) ?_; simp only [Act.put, pvA, pv0, pv1])
  (refine calm_whole rfl _ _ rfl _ rfl _ _ hb8_4.out gPe (iPe q) ?_; simp only [Act.put, pvA, pv0, pv1])
  (refine calm_whole rfl _ _ rfl _ rfl _ _ hb9_4.out gPe (iPe r) ?_; simp only [Act.put, pvA, pv0, pv1])
  (apply calm_on rfl; (focus (intro W hB; go_simp; refine (c23.out W).mono ?_; rintro _ _ ⟨rfl, hb'⟩; exact ⟨rfl, hb'⟩)); simp only [Act.put, pvA, pv0, pv1])
  (apply calm_on rfl; (focus (intro W hB; go_simp; refine (c1_23.out W).mono ?_; rintro _ _ ⟨rfl, hb'⟩; exact ⟨rfl, hb'⟩)); simp only [Act.put, pvA, pv0, pv1])
  iterate 3 (apply calm_on rfl; (focus (intro W hB; go_simp; exact ⟨rfl, Below.refl _ _⟩)); simp only [Act.put, pvA, pv0, pv1])
  (refine calm_whole rfl _ _ rfl _ rfl _ _ hb7_4.out gPe (iPe p) ?_; simp only [Act.put, pvA, pv0, pv1])
  (refine calm_whole rfl _ _ rfl _ rfl _ _ hb10_4.out gPe (iPe o) ?_; simp only [Act.put, pvA, pv0, pv1])
  (apply calm_on rfl; (focus (intro W hB; go_simp; refine (c10.out W).mono ?_; rintro _ _ ⟨rfl, hb'⟩; exact ⟨rfl, hb'⟩)); simp only [Act.put, pvA, pv0, pv1])
  (refine calm_whole rfl _ _ rfl _ rfl _ _ hb7_4.out gPe (iPe p) ?_; simp only [Act.put, pvA, pv0, pv1])
  iterate 3 (apply calm_on rfl; (focus (intro W hB; go_simp; exact ⟨rfl, Below.refl _ _⟩)); simp only [Act.put, pvA, pv0, pv1])
  (refine calm_whole rfl _ _ rfl _ rfl _ _ hb7_4.out gPe (iPe p) ?_; simp only [Act.put, pvA, pv0, pv1])
  (refine calm_whole rfl _ _ rfl _ rfl _ _ hb11_4.out gPe (iPe v) ?_; simp only [Act.put, pvA, pv0, pv1])
  (apply calm_on rfl; (focus (intro W hB; go_simp; refine (c1a.out W).mono ?_; rintro _ _ ⟨rfl, hb'⟩; exact ⟨rfl, hb'⟩)); simp only [Act.put, pvA, pv0, pv1])
  (refine calm_whole rfl _ _ rfl _ rfl _ _ hb10_4.out gPe (iPe o) ?_; simp only [Act.put, pvA, pv0, pv1])
  iterate 3 (apply calm_on rfl; (focus (intro W hB; go_simp; exact ⟨rfl, Below.refl _ _⟩)); simp only [Act.put, pvA, pv0, pv1])
  (apply calm_on rfl; (focus (intro W hB; go_simp; refine (cL.out W).mono ?_; rintro _ _ ⟨rfl, hb'⟩; exact ⟨rfl, hb'⟩)); simp only [Act.put, pvA, pv0, pv1])
  (apply calm_on rfl; (focus (intro W hB; go_simp; refine (cB.out W).mono ?_; rintro _ _ ⟨rfl, hb'⟩; exact ⟨rfl, hb'⟩)); simp only [Act.put, pvA, pv0, pv1])
  (apply calm_on rfl; (focus (intro W hB; go_simp; refine (cLB.out W).mono ?_; rintro _ _ ⟨rfl, hb'⟩; exact ⟨rfl, hb'⟩)); simp only [Act.put, pvA, pv0, pv1])
  (refine calm_whole rfl _ _ rfl _ rfl _ _ hb10_4.out gPe (iPe o) ?_; simp only [Act.put, pvA, pv0, pv1])
  iterate 3 (apply calm_on rfl; (focus (intro W hB; go_simp; exact ⟨rfl, Below.refl _ _⟩)); simp only [Act.put, pvA, pv0, pv1])
  (refine calm_build rfl 25 _ rfl (cellsW 2) (by first | (simp only [List.map_toArray, List.map_cons, List.map_nil]; exact b2.out) | exact b2.out) ?_; simp only [Act.put, pvA, pv0, pv1])
  (refine calm_whole rfl _ _ rfl _ rfl _ _ hb7_4.out gPe (iPe p) ?_; simp only [Act.put, pvA, pv0, pv1])
  (apply calm_on rfl; (focus (intro W hB; go_simp; refine (c2.out W).mono ?_; rintro _ _ ⟨rfl, hb'⟩; exact ⟨rfl, hb'⟩)); simp only [Act.put, pvA, pv0, pv1])
  iterate 2 (refine calm_whole rfl _ _ rfl _ rfl _ _ hb7_4.out gPe (iPe p) ?_; simp only [Act.put, pvA, pv0, pv1])
  (apply calm_on rfl; (focus (intro W hB; go_simp; refine (c11.out W).mono ?_; rintro _ _ ⟨rfl, hb'⟩; exact ⟨rfl, hb'⟩)); simp only [Act.put, pvA, pv0, pv1])
  iterate 3 (apply calm_on rfl; (focus (intro W hB; go_simp; exact ⟨rfl, Below.refl _ _⟩)); simp only [Act.put, pvA, pv0, pv1])
  (apply calm_on rfl; (focus (intro W hB; go_simp; refine (cA.out W).mono ?_; rintro _ _ ⟨rfl, hb'⟩; exact ⟨rfl, hb'⟩)); simp only [Act.put, pvA, pv0, pv1])
  iterate 2 (apply calm_on rfl; (focus (intro W hB; go_simp; exact ⟨rfl, Below.refl _ _⟩)); simp only [Act.put, pvA, pv0, pv1])
  refine calm_nil ?_
  intro w5 hs5
  (try dsimp only)
  have hb3_5 := hid (hb3_4.out.step hs5)
  have hb4_5 := hid (hb4_4.out.step hs5)
  have hb5_5 := hid (hb5_4.out.step hs5)
  have hb7_5 := hid (hb7_4.out.step hs5)
  have hb8_5 := hid (hb8_4.out.step hs5)
  have hb9_5 := hid (hb9_4.out.step hs5)
  have hb10_5 := hid (hb10_4.out.step hs5)
  have hb11_5 := hid (hb11_4.out.step hs5)
  have hbl5 := hbl4.trans (hs5.mono hbl4.size)
  clear hs5 hbl4 hb3_4 hb4_4 hb5_4 hb7_4 hb8_4 hb9_4 hb10_4 hb11_4
  (repeat ((fail_if_success (with_reducible refine Go.at_region ?_)); go_step))
  go_ret
  exact ⟨rfl, hbl5⟩
theorem walk_EdGroup (w : World) (p : P2) (hp : LtP p) (q : P2) (hq : LtP q) (r : P2) (hr : LtP r) : Calls Try.prog 5 #[pt p, pt q, pt r] w fun e w' => e = .returned (.bool true) ∧ Below w.heap.size w w' := by
  cases h1 : onB p with
  | false => exact edg_p w p q r hp hq hr h1
  | true =>
    cases h2 : onB q with
    | false => exact edg_q w p q r hp hq hr h1 h2
    | true =>
      cases h3 : onB r with
      | false => exact edg_r w p q r hp hq hr h1 h2 h3
      | true => exact edg_on w p q r hp hq hr h1 h2 h3
end Go.Proofs.Ytejnnghfelpioaa
