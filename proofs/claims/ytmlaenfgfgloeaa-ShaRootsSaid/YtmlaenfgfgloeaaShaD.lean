import Derived.Test.YtmlaenfgfgloeaaShaC
/-! sha.New, (*Hasher).Sum, Sum. -/
set_option maxRecDepth 4000
set_option linter.unusedVariables false
set_option linter.unusedSimpArgs false
namespace Go
open Go.RowKit
theorem wpList_built {P : Program} {ops : Array Oper} {rest : List Oper} {o : Oper} {a : Act} {w : World} {Q : Exit → Act → World → Prop} (hg : o.guard = none) (t : TypeId) (parts : Array (Nat × Operand)) (ho : o.op = .build t parts) (cs : Array Value)
    (hb : P.built t (parts.map fun (i, x) => (i, a.eval x)).toList = some cs) (h : wpList P ops Q rest (a.put o.dst (.agg cs)) w) : wpList P ops Q (o :: rest) a w :=
  wpList_build hg t parts ho (by rw [hb]; rfl) (by rw [hb]; exact h)
end Go
namespace Go.Proofs.Ytmlaenfgfgloeaa
open Go.RowKit

/-! ### what stands behind a text -/
theorem ny_set (xs : List (BitVec 8)) (i j : Nat) (x : BitVec 8) (h : i < xs.length) : ny (xs.set i x) j = if i = j then x else ny xs j := by
  unfold ny
  simp only [List.getD_eq_getElem?_getD, List.getElem?_set]
  split <;> simp_all
theorem ny_ext {xs ys : List (BitVec 8)} (hl : xs.length = ys.length) (h : ∀ j, j < xs.length → ny xs j = ny ys j) : xs = ys := by
  apply List.ext_getElem hl
  intro j h1 h2
  have := h j h1
  simpa [ny, List.getD_eq_getElem?_getD, h1, h2] using this
def zY (n : Nat) : List (BitVec 8) := List.replicate n 0
theorem zY_len (n : Nat) : (zY n).length = n := by simp [zY]
theorem ny_zY (n j : Nat) : ny (zY n) j = 0 := by
  unfold ny zY
  rw [List.getD_eq_getElem?_getD, List.getElem?_replicate]
  split <;> rfl
def tlGo (n pad : Nat) : Nat → List (BitVec 8)
  | 0 => (zY 256).set 0 128
  | i + 1 => (tlGo n pad i).set (pad - 1 - i) (((BitVec.ofNat 64 n <<< 3) >>> (8 * i)).setWidth 8)
theorem tlGo_len (n pad i : Nat) : (tlGo n pad i).length = 256 := by
  induction i with
  | zero => unfold tlGo; rw [List.length_set, zY_len]
  | succ i ih => unfold tlGo; rw [List.length_set, ih]
theorem ny_rep (n j : Nat) : ny (List.replicate n 0) j = 0 := by
  unfold ny
  rw [List.getD_eq_getElem?_getD, List.getElem?_replicate]
  split <;> rfl
theorem tlGo_at (n pad : Nat) (h1 : 9 ≤ pad) (h2 : pad ≤ 256) (i : Nat) (hi : i ≤ 8) (j : Nat) :
    ny (tlGo n pad i) j = if j = 0 then (128 : BitVec 8) else if pad - i ≤ j ∧ j < pad then ((BitVec.ofNat 64 n <<< 3) >>> (8 * (pad - 1 - j))).setWidth 8 else 0 := by
  induction i with
  | zero =>
    unfold tlGo
    rw [ny_set _ _ _ _ (by rw [zY_len]; omega), ny_zY]
    by_cases h0 : j = 0
    · subst h0; simp
    · rw [if_neg (fun e => h0 e.symm), if_neg h0, if_neg (by omega)]
  | succ i ih =>
    unfold tlGo
    rw [ny_set _ _ _ _ (by rw [tlGo_len]; omega), ih (by omega)]
    by_cases h0 : pad - 1 - i = j
    · subst h0
      rw [if_pos rfl, if_neg (by omega), if_pos (by omega)]
      congr 2
      omega
    · rw [if_neg h0]
      by_cases hj : j = 0
      · rw [if_pos hj, if_pos hj]
      · rw [if_neg hj, if_neg hj]
        by_cases h3 : pad - i ≤ j ∧ j < pad
        · rw [if_pos h3, if_pos (by omega)]
        · rw [if_neg h3, if_neg (by omega)]
theorem ny_cons (x : BitVec 8) (xs : List (BitVec 8)) (j : Nat) : ny (x :: xs) j = if j = 0 then x else ny xs (j - 1) := by
  cases j <;> simp [ny]
theorem ny_app (xs ys : List (BitVec 8)) (j : Nat) : ny (xs ++ ys) j = if j < xs.length then ny xs j else ny ys (j - xs.length) := by
  unfold ny
  simp only [List.getD_eq_getElem?_getD, List.getElem?_append]
  split <;> rfl
theorem lenY_at (n j : Nat) (h : j < 16) : ny (lenY n) j = BitVec.ofNat 8 (8 * n / 2 ^ (8 * (15 - j))) := by
  unfold ny lenY
  simp [List.getD_eq_getElem?_getD, h]
theorem byte_at (n k : Nat) (hn : 8 * n < 18446744073709551616) : ((BitVec.ofNat 64 n <<< 3) >>> (8 * k)).setWidth 8 = BitVec.ofNat 8 (8 * n / 2 ^ (8 * k)) := by
  apply BitVec.eq_of_toNat_eq
  simp only [BitVec.toNat_setWidth, BitVec.toNat_ushiftRight, BitVec.toNat_shiftLeft, BitVec.toNat_ofNat, Nat.shiftRight_eq_div_pow, Nat.shiftLeft_eq]
  rw [Nat.mod_eq_of_lt (by omega : n < 2 ^ 64), Nat.mod_eq_of_lt (by omega : n * 2 ^ 3 < 2 ^ 64), show n * 2 ^ 3 = 8 * n by omega]
def padW (n : Nat) : Nat := 17 + padZ n
theorem tail_eq (n : Nat) (hn : 8 * n < 18446744073709551616) : (tlGo n (padW n) 8).take (padW n) = tailS n := by
  have hp : padW n ≤ 256 := by unfold padW padZ; omega
  have hp2 : 17 ≤ padW n := by unfold padW; omega
  apply ny_ext
  · simp [tlGo_len, tailS, lenY, padW] at hp ⊢; omega
  · intro j hj
    have hj2 : j < padW n := by simp at hj; omega
    rw [show ny ((tlGo n (padW n) 8).take (padW n)) j = ny (tlGo n (padW n) 8) j from by simp [ny, List.getD_eq_getElem?_getD, List.getElem?_take, hj2],
      tlGo_at n _ (by omega) hp 8 (by omega)]
    unfold tailS
    rw [ny_cons]
    by_cases h0 : j = 0
    · rw [if_pos h0, if_pos h0]; rfl
    · rw [if_neg h0, if_neg h0, ny_app, ny_rep, List.length_replicate]
      have hpz : padW n = 17 + padZ n := rfl
      by_cases h1 : j - 1 < padZ n
      · rw [if_pos h1, if_neg (by omega)]
      · rw [if_neg h1, lenY_at _ _ (by omega)]
        by_cases h2 : padW n - 8 ≤ j
        · rw [if_pos ⟨h2, hj2⟩, byte_at n _ hn]
          congr 4
          omega
        · rw [if_neg (by omega)]
          have : 8 * n / 2 ^ (8 * (15 - (j - 1 - padZ n))) = 0 := by
            apply Nat.div_eq_of_lt
            refine Nat.lt_of_lt_of_le hn ?_
            rw [show 18446744073709551616 = 2 ^ 64 from rfl]
            exact Nat.pow_le_pow_right (by omega) (by omega)
          rw [this]; rfl
theorem AtS.more {w : World} {hb : Nat} {s : List (BitVec 64)} {T : List (BitVec 8)} {a : BitVec 64} (h : AtS w hb s T T.length a) (U : List (BitVec 8)) : AtS w hb s (T ++ U) T.length a := by
  obtain ⟨y, h1, h2, h3⟩ := h
  have hch : ∀ k, k ≤ T.length / 128 → absS s (T ++ U) k = absS s T k := by
    intro k
    induction k with
    | zero => intro _; rfl
    | succ k ih =>
      intro hk
      unfold absS
      rw [ih (by omega)]
      congr 1
      unfold chunkS
      rw [List.drop_append_of_le_length (by omega), List.take_append_of_le_length (by simp; omega)]
  refine ⟨y, h1, ?_, ?_⟩
  · unfold stS at *
    rw [hch _ (Nat.le_refl _)]; exact h2
  · rw [List.drop_append_of_le_length (by omega), List.take_append_of_le_length (by simp; omega)]; exact h3

theorem heap_new (w : World) (o : Obj) : (w.alloc o).heap[w.heap.size]? = some o := by
  show (w.heap.push _)[w.heap.size]? = _
  simp
/-! ### New -/
def zero128 : List (BitVec 8) := List.replicate 128 0
theorem built80 : Try.prog.built 80 [(0, .agg (cellsB shaH))] = some (shaC shaH zero128 0 0) := by kernel_rfl
theorem snew_any (w : World) : Calls Try.prog 24 #[] w fun e w' => ∃ b, e = .returned (.pointer (some ⟨b, 0, none⟩)) ∧ w.heap.size ≤ b ∧ HasS w' b shaH zero128 0 0 ∧ Below w.heap.size w w' := by
  have hbu := hid built80
  have hsq := hid (fun w => squares_any w)
  have hH : Hid (∃ c, c = cellsB shaH) := hid ⟨_, rfl⟩
  have hS : Hid (∃ c, c = shaC shaH zero128 0 0) := hid ⟨_, rfl⟩
  obtain ⟨ch, hch⟩ := hH.out
  obtain ⟨cs, hcs⟩ := hS.out
  rw [← hch] at hsq hbu
  rw [← hcs] at hbu
  have HCS := hid hcs
  clear hch hcs hH hS
  go_enter Try.func24, Try.ntmps24
  go_wp2_with fail
  refine (hsq.out _).mono ?_
  rintro e w1 ⟨rfl, hb1⟩
  go_wp2_with (refine wpList_built rfl 80 _ rfl cs (by simp only [List.map_toArray, List.map_cons, List.map_nil]; exact hbu.out) ?_; simp only [Act.put, List.setIfInBounds_toArray, List.set_cons_zero, List.set_cons_succ])
  go_ret
  refine ⟨_, rfl, hb1.size, ?_, hb1.alloc hb1.size _⟩
  rw [HCS.out]
  show (w1.heap.push _)[w1.heap.size]? = _
  simp

/-! ### Sum -/
theorem u64h : Try.prog.underlying 38 = some (.array 64 5) := by kernel_rfl
theorem i64h : (Try.prog.info? 38).map (·.size) = some 64 := by kernel_rfl
theorem zi64 : (Try.prog.info? 38).bind (·.zero) = some (.agg (cellsY (zY 64))) := by kernel_rfl
theorem zi256 : (Try.prog.info? 81).bind (·.zero) = some (.agg (cellsY (zY 256))) := by kernel_rfl
theorem zi80 : (Try.prog.info? 80).bind (·.zero) = some (.agg (shaC (zeroB 8) zero128 0 0)) := by kernel_rfl
theorem iHs : (Try.prog.info? 80).map (·.size) = some 138 := by kernel_rfl
theorem uHs : ∃ l, Try.prog.underlying 80 = some (.struct l) := ⟨_, rfl⟩
theorem one_shaC (s : List (BitVec 64)) (y : List (BitVec 8)) (n : Nat) (a : BitVec 64) : (shaC s y n a).all (·.oneCell') = true := by
  unfold shaC
  rw [Array.all_append, Array.all_append, one_cellsB, one_cellsY]
  simp [Value.oneCell']
theorem slTo256 (b p : Nat) (hp : p ≤ 256) (w : World) : (Instr.sliceAt 81 (.pointer (some ⟨b, 0, none⟩)) none (some (.int .i64 (p : Int))) none).run Try.prog w = .ok (.slice (some ⟨b, 0, none⟩) p 256) w := by
  have hl : Try.prog.arrayLen 81 = 256 := by kernel_rfl
  have he : Try.prog.elem 81 = 5 := by kernel_rfl
  have hu : Try.prog.underlying 81 = some (.array (Try.prog.arrayLen 81) (Try.prog.elem 81)) := by kernel_rfl
  obtain ⟨i, hi⟩ : ∃ i, Try.prog.info? 5 = some i := ⟨_, rfl⟩
  have hs : Try.prog.cellsOf 5 = 1 := by kernel_rfl
  rw [run_sliceAt_array_h w _ _ hu .i64 (p : Int) (by omega) (by rw [hl]; omega), hl, he, run_sizeOf w hi, hs]
  simp [slicedAt, Addr.add]
theorem yv_or' (x y : BitVec 8) : bits .or .u8 (yv x) (yv y) = yv (x ||| y) := by
  unfold yv; rw [u8_or_nat _ _ x.isLt y.isLt, BitVec.toNat_or]
theorem iv_byte2 (x : BitVec 64) : iv x % 256 = yv (x.setWidth 8) := by
  unfold yv iv; rw [BitVec.toNat_setWidth]; omega

set_option maxRecDepth 20000 in
set_option maxHeartbeats 2000000 in
theorem shsum_any (hb : Nat) (s : List (BitVec 64)) (T : List (BitVec 8)) (w : World) (hs : s.length = 8) (hH : AtS w hb s T T.length (BitVec.ofNat 64 T.length)) (hl : T.length ≤ 140737488351232) :
    Calls Try.prog 26 #[.pointer (some ⟨hb, 0, none⟩)] w fun e w' => e = .returned (.agg (cellsY (outS (absS s (padS T) ((padS T).length / 128)) 64))) ∧ Below w.heap.size w w' := by
  obtain ⟨y, hy, hH, hyt⟩ := hH
  have hbl := hH.lt
  have ls : (stS s T T.length).length = 8 := (stS_len s T _).trans hs
  have HS := hid hs
  have HY := hid hy
  have HYT := hid hyt
  have HH := hid hH
  have HLS := hid ls
  have cA := hH.cellA ls hy
  have cN := hH.cellN ls hy
  obtain ⟨n, hn⟩ : ∃ n, n = T.length % 128 := ⟨_, rfl⟩
  obtain ⟨a, ha⟩ : ∃ a, a = BitVec.ofNat 64 T.length := ⟨_, rfl⟩
  obtain ⟨s1, hs1⟩ : ∃ s1, s1 = stS s T T.length := ⟨_, rfl⟩
  rw [← hn, ← ha, ← hs1] at HH
  rw [← hn] at cN HYT
  rw [← ha] at cA
  rw [← hs1] at HLS
  have iH := hid (show (Try.prog.info? 80).map (·.size) = some (shaC s1 y n a).size by rw [shaC_size _ _ _ _ HLS.out hy]; exact iHs)
  have zH := hid (show (shaC (zeroB 8) zero128 0 0).size = (shaC s1 y n a).size by rw [shaC_size _ _ _ _ HLS.out hy]; rfl)
  have oH := hid (one_shaC s1 y n a)
  obtain ⟨fl, hfl⟩ := uHs
  have HFL := hid hfl
  have HN := hid hn
  have HA := hid ha
  have HS1 := hid hs1
  have hn128 : n < 128 := by omega
  clear hfl hs hy hH hyt ls hn ha hs1
  obtain ⟨pad, hpad⟩ : ∃ pad, pad = padW T.length := ⟨_, rfl⟩
  have hpc : (n ≤ 111 ∧ 128 - (n : Int) = (pad : Int)) ∨ (112 ≤ n ∧ 128 - (n : Int) + 128 = (pad : Int)) := by
    have := HN.out
    unfold padW padZ at hpad
    omega
  have hp1 : 17 ≤ pad := by rw [hpad]; unfold padW; omega
  have hp2 : pad ≤ 256 := by rw [hpad]; unfold padW padZ; omega
  have HPAD := hid hpad
  clear hpad
  have l1 : hb < w.heap.size + 1 := by omega
  have l2 : hb < w.heap.size + 2 := by omega
  have z0 : (cellsY (zY 256))[0]? = some (.int .u8 0) := by
    unfold cellsY zY
    rw [List.map_replicate, List.getElem?_toArray, List.getElem?_replicate]
    rfl
  go_enter Try.func26, Try.ntmps26
  rcases hpc with ⟨hn1, hpe⟩ | ⟨hn1, hpe⟩
  all_goals
    go_wp2_with (first | (refine wpList_alloc_new rfl 38 rfl (cellsY (zY 64)) zi64 ?_; simp only [Act.put, List.setIfInBounds_toArray, List.set_cons_zero, List.set_cons_succ]) | (refine wpList_load_row rfl 80 (.tmp 13) rfl hb rfl 80 _ (0, 0) _ ((Below.heap_alloc _ _ _ hbl).trans HH.out) HFL.out rfl iH.out ?_; simp only [Act.put, List.setIfInBounds_toArray, List.set_cons_zero, List.set_cons_succ]) | (refine wpList_allocStore 80 14 3 (shaC s1 y n a) _ rfl rfl rfl rfl rfl rfl (by decide) (by simp) rfl zi80 zH.out iH.out oH.out ?_; simp only [Act.put, List.setIfInBounds_toArray, List.set_cons_zero, List.set_cons_succ]) | (refine wpList_alloc_new rfl 81 rfl (cellsY (zY 256)) zi256 ?_; simp only [Act.put, List.setIfInBounds_toArray, List.set_cons_zero, List.set_cons_succ]))
    clear hpe hn1 z0 cN cA zH iH oH
    obtain ⟨wA, hwA⟩ : ∃ wA, wA = ((w.alloc (.cells (cellsY (zY 64)) 38)).alloc (.cells (shaC s1 y n a) 80)).alloc (.cells ((cellsY (zY 256)).setIfInBounds 0 (.int .u8 128)) 81) := ⟨_, rfl⟩
    have hO : Hid (ArrY 38 wA w.heap.size (zY 64)) := hid (by rw [hwA]; exact ((ArrY.new _ w _).alloc _).alloc _)
    have hE : Hid (HasS wA (w.heap.size + 1) s1 y n a) := hid (by
      rw [hwA]
      refine (Below.heap_alloc _ _ _ (by simp)).trans ?_
      have := heap_new (w.alloc (.cells (cellsY (zY 64)) 38)) (.cells (shaC s1 y n a) 80)
      rw [World.size_alloc] at this; exact this)
    have hT : Hid (ArrY 81 wA (w.heap.size + 2) (tlGo T.length pad 0)) := hid (by
      rw [hwA, show (cellsY (zY 256)).setIfInBounds 0 (.int .u8 128) = cellsY (tlGo T.length pad 0) from by
        unfold tlGo
        generalize zY 256 = z
        simp [cellsY, List.map_set]; rfl]
      have := ArrY.new 81 ((w.alloc (.cells (cellsY (zY 64)) 38)).alloc (.cells (shaC s1 y n a) 80)) (tlGo T.length pad 0)
      rw [World.size_alloc, World.size_alloc] at this; exact this)
    have hB : Below w.heap.size w wA := by rw [hwA]; exact (((Below.refl _ _).alloc (Nat.le_refl _) _).alloc (by simp) _).alloc (by simp; omega) _
    rw [← hwA]
    clear hwA
    go_loopw [29] (fun i wr => ∃ k : Nat, k ≤ 8 ∧ i = .int .i64 k ∧ Hid (ArrY 38 wr w.heap.size (zY 64)) ∧ Hid (HasS wr (w.heap.size + 1) s1 y n a) ∧ Hid (ArrY 81 wr (w.heap.size + 2) (tlGo T.length pad k)) ∧ Below w.heap.size w wr)
      (fun i _ => 8 - (intOf i).toNat)
    case atStart => exact ⟨0, by omega, rfl, hO, hE, hT, hB⟩
    case round =>
      clear hO hE hT hB
      clear wA
      obtain ⟨k, hk, rfl, hO, hE, hT, hB⟩ := hrel
      by_cases hlt : k < 8
      · have e1 : ((pad : Int) - 1 - (k : Int)) = ((pad - 1 - k : Nat) : Int) := by omega
        have e2 : ((pad : Int) - 1 - (k : Int)).toNat = pad - 1 - k := by omega
        have e3 : (0 : Int) ≤ (pad : Int) - 1 - (k : Int) := by omega
        have e4 : (pad : Int) - 1 - (k : Int) < 256 := by omega
        have c1 := hT.out.cell (pad - 1 - k) (by rw [tlGo_len]; omega)
        have f1 := hT.out.free (pad - 1 - k)
        have l3 := hT.out.lt
        have n1 := iv_nonneg a
        clear e1
        go_wp2
        go_roundw
        case rel =>
          refine ⟨k + 1, by omega, by go_num, hid (hO.out.other (by show w.heap.size ≠ w.heap.size + 2; omega) _), hid (hE.out.other (by show w.heap.size + 1 ≠ w.heap.size + 2; omega) _), hid ?_, hB.setCell (p := ⟨w.heap.size + 2, pad - 1 - k, none⟩) (by show w.heap.size ≤ w.heap.size + 2; omega) _⟩
          rw [show iv a * 8 = iv a * 2 ^ 3 from rfl, iv_shl, iv_shr, iv_byte2, HA.out]
          exact hT.out.set _ _
        case measure => simp [intOf]; omega
      · obtain rfl : k = 8 := by omega
        clear hlt hk
        have hv : (nb [a] 0 >>> 61).setWidth 8 = (0 : BitVec 8) := by
          show (a >>> 61).setWidth 8 = 0
          rw [HA.out]
          apply BitVec.eq_of_toNat_eq
          simp only [BitVec.toNat_setWidth, BitVec.toNat_ushiftRight, BitVec.toNat_ofNat, Nat.shiftRight_eq_div_pow]
          rw [Nat.mod_eq_of_lt (by omega : T.length < 2 ^ 64), Nat.div_eq_of_lt (by omega)]
          rfl
        have HV := hid (show (a >>> 61).setWidth 8 = (0 : BitVec 8) from hv)
        have e2 : ((pad : Int) - 9).toNat = pad - 9 := by omega
        have e3 : (0 : Int) ≤ (pad : Int) - 9 := by omega
        have e4 : (pad : Int) - 9 < 256 := by omega
        have c1 := hT.out.cell (pad - 9) (by rw [tlGo_len]; omega)
        have f1 := hT.out.free (pad - 9)
        have l3 := hT.out.lt
        have n1 := iv_nonneg a
        have hsl := slTo256 (w.heap.size + 2) pad hp2
        have hZ : Hid ((tlGo T.length pad 8).set (pad - 9) (ny (tlGo T.length pad 8) (pad - 9) ||| (a >>> 61).setWidth 8) = tlGo T.length pad 8) := hid (by
          rw [HV.out]
          apply ny_ext
          · simp
          · intro j hj
            rw [ny_set _ _ _ _ (by rw [tlGo_len]; omega)]
            by_cases h : pad - 9 = j
            · rw [if_pos h, h]; simp
            · rw [if_neg h])
        clear hv
        go_wp2_with fail
        rw [show iv a / 2305843009213693952 = iv a / 2 ^ 61 from rfl, iv_shr, iv_byte2, yv_or']
        have hT2 := hT.out.set (pad - 9) (ny (tlGo T.length pad 8) (pad - 9) ||| (a >>> 61).setWidth 8)
        rw [hZ.out] at hT2
        have hE2 := hE.out.other (p := ⟨w.heap.size + 2, pad - 9, none⟩) (by show w.heap.size + 1 ≠ w.heap.size + 2; omega) (.int .u8 (yv (ny (tlGo T.length pad 8) (pad - 9) ||| (a >>> 61).setWidth 8)))
        have hO2 := hO.out.other (a := ⟨w.heap.size + 2, pad - 9, none⟩) (by show w.heap.size ≠ w.heap.size + 2; omega) (.int .u8 (yv (ny (tlGo T.length pad 8) (pad - 9) ||| (a >>> 61).setWidth 8)))
        have hB2 := hB.setCell (p := ⟨w.heap.size + 2, pad - 9, none⟩) (by show w.heap.size ≤ w.heap.size + 2; omega) (.int .u8 (yv (ny (tlGo T.length pad 8) (pad - 9) ||| (a >>> 61).setWidth 8)))
        generalize wr.setCell ⟨w.heap.size + 2, pad - 9, none⟩ (.int .u8 (yv (ny (tlGo T.length pad 8) (pad - 9) ||| (a >>> 61).setWidth 8))) = w2 at hT2 hE2 hO2 hB2 ⊢
        clear hT hE hO hB c1 f1 l3 hZ HV wr
        have hTl : padS T = T ++ tailS T.length := rfl
        have htt : (tlGo T.length pad 8).take pad = tailS T.length := by rw [HPAD.out]; exact tail_eq T.length (by omega)
        have htl : (tailS T.length).length = pad := by rw [← htt, List.length_take, tlGo_len]; omega
        have hpl : (padS T).length = T.length + pad := by rw [hTl, List.length_append, htl]
        have hAt : AtS w2 (w.heap.size + 1) s (padS T) T.length a := by
          rw [hTl]
          refine AtS.more ⟨y, HY.out, ?_, ?_⟩ _
          · rw [← HS1.out, ← HN.out]; exact hE2
          · rw [← HN.out]; exact HYT.out
        have hRd : RdX (w.heap.size + 1) w2 (.slice (some ⟨w.heap.size + 2, 0, none⟩) pad 256) ((padS T).drop T.length) := by
          rw [hTl, List.drop_left]
          refine ⟨_, 256, by rw [htl], by rw [htl]; exact hp2, fun _ => ⟨w.heap.size + 2, 0, rfl, by omega, hT2.lt, fun j hj => ?_⟩⟩
          rw [htl] at hj
          have := hT2.cell j (by rw [tlGo_len]; omega)
          rw [Nat.zero_add, this, ← htt]
          simp [ny, List.getD_eq_getElem?_getD, hj]
        refine (swrite_any (w.heap.size + 1) s (padS T) T.length a _ w2 HS.out (by omega) hAt hRd (by omega)).mono ?_
        rintro e w3 ⟨rfl, hA3, hg3⟩
        have hO3 := hid (show ArrY 38 w3 w.heap.size (zY 64) from (hg3.block _ hO2.lt (by simp)).trans hO2)
        have hB3 := hB2.grown hg3 hB2.size (fun k e => by simp at e; omega)
        obtain ⟨y3, hy3, hH3, -⟩ := hA3
        have hS3 : stS s (padS T) (padS T).length = absS s (padS T) ((padS T).length / 128) := rfl
        rw [hS3] at hH3
        obtain ⟨s3, hs3⟩ : ∃ s3, s3 = absS s (padS T) ((padS T).length / 128) := ⟨_, rfl⟩
        have hl3 : s3.length = 8 := by rw [hs3, absS_len]; exact HS.out
        rw [← hs3] at hH3
        have HS3 := hid hs3
        have HH3 := hid hH3
        have HL3 := hid hl3
        clear hs3 hS3 hH3 hl3 hTl htt htl hpl hAt hRd hT2 hE2 hO2 hB2 hg3 w2 hy3 hsl e2 e3 e4 HS1 HA HN
        go_wp2_with fail
        go_loopw [56] (fun i wr => ∃ k : Nat, k ≤ 64 ∧ i = .int .i64 k ∧ Hid (ArrY 38 wr w.heap.size (outS s3 k)) ∧ Hid (∀ j, j < 8 → wr.cell? ⟨w.heap.size + 1, j, none⟩ = some (.int .u64 (iv (nb s3 j)))) ∧ Below w.heap.size w wr ∧ w.heap.size + 1 < wr.heap.size)
          (fun i _ => 64 - (intOf i).toNat)
        case atStart => exact ⟨0, by omega, rfl, hO3, hid (HH3.out.cellS HL3.out), hB3, HH3.out.lt⟩
        case round =>
          clear hO3 HH3 hB3
          obtain ⟨k, hk, rfl, hO, hE, hB, hlE⟩ := hrel
          by_cases hlt : k < 64
          · have h8 : k / 8 < 8 := by omega
            have c1 := hE.out (k / 8) h8
            have c2 := hO.out.cell k (by rw [outS_len]; omega)
            have f2 := hO.out.free k
            have l1 := hO.out.lt
            have e1 : (56 - 8 * ((k : Int) % 8)).toNat = 56 - 8 * (k % 8) := by omega
            have e2 : (0 : Int) ≤ 56 - 8 * ((k : Int) % 8) := by omega
            have n1 := iv_nonneg (nb s3 (k / 8))
            go_wp2
            go_roundw
            case rel =>
              refine ⟨k + 1, by omega, by go_num, ?_, hid fun j hj => ?_, hB.setCell (p := ⟨w.heap.size, k, none⟩) (Nat.le_refl _) _, by simpa using hlE⟩
              · rw [iv_shr, iv_byte2]
                exact hid (hO.out.set k _)
              · rw [World.cell?_setCell_far _ _ _ _ (by show w.heap.size ≠ w.heap.size + 1; omega)]; exact hE.out j hj
            case measure => simp [intOf]; omega
          · obtain rfl : k = 64 := by omega
            have hlO : (outS s3 64).length = 64 := outS_len s3 64
            have iO := hid (show (Try.prog.info? 38).map (·.size) = some (cellsY (outS s3 64)).size by rw [size_cellsY, hlO]; exact i64h)
            have nO := hid (one_cellsY (outS s3 64))
            obtain ⟨y2, hy2⟩ : ∃ y2, y2 = outS s3 64 := ⟨_, rfl⟩
            rw [← hy2] at iO nO hO
            have HY2 := hid hy2
            clear hy2 hlO hlt hk
            go_wp2_with (first | (refine wpList_load_row rfl 38 (.tmp 2) rfl w.heap.size rfl 38 _ (0, 0) _ hO.out u64h rfl iO.out ?_; simp only [Act.put, List.setIfInBounds_toArray, List.set_cons_zero, List.set_cons_succ]) | (refine wpList_store_row rfl 38 (.tmp 2) (.tmp 73) rfl w.heap.size _ rfl rfl 38 _ hO.out iO.out rfl nO.out ?_; simp only [Act.put]))
            refine bodyPost_ret (results_cell_row rfl _ _ w.heap.size 38 (cellsY y2) (0, 0) _ rfl (heap_setRow _ _ _ _ _ hO.out) u64h rfl iO.out) rfl ⟨by rw [HY2.out, HS3.out], below_setRow hB _ (Nat.le_refl _) _⟩
end Go.Proofs.Ytmlaenfgfgloeaa
