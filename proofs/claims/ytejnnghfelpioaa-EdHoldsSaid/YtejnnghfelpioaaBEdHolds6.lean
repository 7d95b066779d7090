import Derived.Laws.Slices
import Derived.Lib.SliceRun
import Derived.Great.BuildSlice
import Derived.Test.YtejnnghfelpioaaBEdHolds5
set_option maxRecDepth 4000
set_option linter.unusedVariables false
set_option linter.unusedSimpArgs false
namespace Go.Proofs.Ytejnnghfelpioaa
open Go.RowKit
def shaK : List (BitVec 64) := [0x428a2f98d728ae22, 0x7137449123ef65cd, 0xb5c0fbcfec4d3b2f, 0xe9b5dba58189dbbc, 0x3956c25bf348b538, 0x59f111f1b605d019, 0x923f82a4af194f9b, 0xab1c5ed5da6d8118, 0xd807aa98a3030242, 0x12835b0145706fbe, 0x243185be4ee4b28c, 0x550c7dc3d5ffb4e2, 0x72be5d74f27b896f, 0x80deb1fe3b1696b1, 0x9bdc06a725c71235, 0xc19bf174cf692694, 0xe49b69c19ef14ad2, 0xefbe4786384f25e3, 0x0fc19dc68b8cd5b5, 0x240ca1cc77ac9c65, 0x2de92c6f592b0275, 0x4a7484aa6ea6e483, 0x5cb0a9dcbd41fbd4, 0x76f988da831153b5, 0x983e5152ee66dfab, 0xa831c66d2db43210, 0xb00327c898fb213f, 0xbf597fc7beef0ee4, 0xc6e00bf33da88fc2, 0xd5a79147930aa725, 0x06ca6351e003826f, 0x142929670a0e6e70, 0x27b70a8546d22ffc, 0x2e1b21385c26c926, 0x4d2c6dfc5ac42aed, 0x53380d139d95b3df, 0x650a73548baf63de, 0x766a0abb3c77b2a8, 0x81c2c92e47edaee6, 0x92722c851482353b, 0xa2bfe8a14cf10364, 0xa81a664bbc423001, 0xc24b8b70d0f89791, 0xc76c51a30654be30, 0xd192e819d6ef5218, 0xd69906245565a910, 0xf40e35855771202a, 0x106aa07032bbd1b8, 0x19a4c116b8d2d0c8, 0x1e376c085141ab53, 0x2748774cdf8eeb99, 0x34b0bcb5e19b48a8, 0x391c0cb3c5c95a63, 0x4ed8aa4ae3418acb, 0x5b9cca4f7763e373, 0x682e6ff3d6b2b8a3, 0x748f82ee5defb2fc, 0x78a5636f43172f60, 0x84c87814a1f0ab72, 0x8cc702081a6439ec, 0x90befffa23631e28, 0xa4506cebde82bde9, 0xbef9a3f7b2c67915, 0xc67178f2e372532b, 0xca273eceea26619c, 0xd186b8c721c0c207, 0xeada7dd6cde0eb1e, 0xf57d4f7fee6ed178, 0x06f067aa72176fba, 0x0a637dc5a2c898a6, 0x113f9804bef90dae, 0x1b710b35131c471b, 0x28db77f523047d84, 0x32caab7b40c72493, 0x3c9ebe0a15c9bebc, 0x431d67c49c100d4c, 0x4cc5d4becb3e42b6, 0x597f299cfc657e2a, 0x5fcb6fab3ad6faec, 0x6c44198c4a475817]
def shaH : List (BitVec 64) := [0x6a09e667f3bcc908, 0xbb67ae8584caa73b, 0x3c6ef372fe94f82b, 0xa54ff53a5f1d36f1, 0x510e527fade682d1, 0x9b05688c2b3e6c1f, 0x1f83d9abfb41bd6b, 0x5be0cd19137e2179]
def rr (x : BitVec 64) (n : Nat) : BitVec 64 := x.rotateLeft (64 - n)
def sg0 (a : BitVec 64) : BitVec 64 := rr a 1 ^^^ rr a 8 ^^^ (a >>> 7)
def sg1 (b : BitVec 64) : BitVec 64 := rr b 19 ^^^ rr b 61 ^^^ (b >>> 6)
def bs1 (e : BitVec 64) : BitVec 64 := rr e 14 ^^^ rr e 18 ^^^ rr e 41
def bs0 (a : BitVec 64) : BitVec 64 := rr a 28 ^^^ rr a 34 ^^^ rr a 39
def chs (e f g : BitVec 64) : BitVec 64 := g ^^^ (e &&& (f ^^^ g))
def mjs (a b c : BitVec 64) : BitVec 64 := (a &&& b) ||| (c &&& (a ||| b))
def stepV (v : List (BitVec 64)) (k x : BitVec 64) : List (BitVec 64) :=
  let one := nb v 7 + bs1 (nb v 4) + chs (nb v 4) (nb v 5) (nb v 6) + k + x
  let two := bs0 (nb v 0) + mjs (nb v 0) (nb v 1) (nb v 2)
  [one + two, nb v 0, nb v 1, nb v 2, nb v 3 + one, nb v 4, nb v 5, nb v 6]
def w16 (n : Nat) (ys : List (BitVec 8)) : Nat → List (BitVec 64)
  | 0 => List.replicate n 0
  | i + 1 => (w16 n ys i).set (i / 8) (((nb (w16 n ys i) (i / 8)) <<< 8) ||| (ny ys i).setWidth 64)
theorem w16_len (n : Nat) (ys : List (BitVec 8)) (i : Nat) : (w16 n ys i).length = n := by induction i <;> simp [w16, *]
def wf (b : List (BitVec 64)) (t : Nat) : BitVec 64 :=
  if h : t < 16 then nb b t else sg1 (wf b (t - 2)) + wf b (t - 7) + sg0 (wf b (t - 15)) + wf b (t - 16)
  termination_by t
  decreasing_by all_goals omega
theorem wf_lt (b : List (BitVec 64)) (t : Nat) (h : t < 16) : wf b t = nb b t := by rw [wf, dif_pos h]
theorem wf_ge (b : List (BitVec 64)) (t : Nat) (h : 16 ≤ t) : wf b t = sg1 (wf b (t - 2)) + wf b (t - 7) + sg0 (wf b (t - 15)) + wf b (t - 16) := by rw [wf, dif_neg (by omega)]
def vGo (b s : List (BitVec 64)) : Nat → List (BitVec 64)
  | 0 => s
  | t + 1 => stepV (vGo b s t) (nb shaK t) (wf b t)
theorem vGo_len (b s : List (BitVec 64)) (hs : s.length = 8) (t : Nat) : (vGo b s t).length = 8 := by
  cases t with
  | zero => exact hs
  | succ t => rfl
def addGo (v s : List (BitVec 64)) : Nat → List (BitVec 64)
  | 0 => s
  | i + 1 => (addGo v s i).set i (nb (addGo v s i) i + nb v i)
theorem addGo_len (v s : List (BitVec 64)) (i : Nat) : (addGo v s i).length = s.length := by induction i <;> simp [addGo, *]
def blockL (s : List (BitVec 64)) (ys : List (BitVec 8)) : List (BitVec 64) := addGo (vGo (w16 16 ys 128) s 80) s 8
theorem blockL_len (s : List (BitVec 64)) (ys : List (BitVec 8)) : (blockL s ys).length = s.length := addGo_len _ _ _
def cw (b : List (BitVec 64)) : Nat → List (BitVec 64)
  | 0 => b
  | t + 1 => if 16 ≤ t then (cw b t).set (t % 16) (nb (cw b t) (t % 16) + (nb (cw b t) ((t + 9) % 16) + sg0 (nb (cw b t) ((t + 1) % 16)) + sg1 (nb (cw b t) ((t + 14) % 16)))) else cw b t
theorem cw_len (b : List (BitVec 64)) (t : Nat) : (cw b t).length = b.length := by
  induction t with
  | zero => rfl
  | succ t ih => unfold cw; split <;> simp [ih]
theorem nb_set (xs : List (BitVec 64)) (i j : Nat) (x : BitVec 64) (h : i < xs.length) : nb (xs.set i x) j = if i = j then x else nb xs j := by
  unfold nb
  simp only [List.getD_eq_getElem?_getD, List.getElem?_set]
  split <;> simp_all
theorem cw_early (b : List (BitVec 64)) (t : Nat) (h : t ≤ 16) : cw b t = b := by
  induction t with
  | zero => rfl
  | succ t ih => unfold cw; rw [if_neg (by omega)]; exact ih (by omega)
theorem cw_spec (b : List (BitVec 64)) (hb : b.length = 16) (t : Nat) : ∀ s, s < max t 16 → max t 16 ≤ s + 16 → nb (cw b t) (s % 16) = wf b s := by
  induction t with
  | zero =>
    intro s h1 h2
    have : s < 16 := by omega
    rw [wf_lt b s this, Nat.mod_eq_of_lt this]; rfl
  | succ t ih =>
    intro s h1 h2
    unfold cw
    split
    · rename_i h16
      rw [nb_set _ _ _ _ (by rw [cw_len, hb]; omega)]
      have e1 := ih (t - 16) (by omega) (by omega)
      have e2 := ih (t - 7) (by omega) (by omega)
      have e3 := ih (t - 15) (by omega) (by omega)
      have e4 := ih (t - 2) (by omega) (by omega)
      rw [show (t - 16) % 16 = t % 16 from by omega] at e1
      rw [show (t - 7) % 16 = (t + 9) % 16 from by omega] at e2
      rw [show (t - 15) % 16 = (t + 1) % 16 from by omega] at e3
      rw [show (t - 2) % 16 = (t + 14) % 16 from by omega] at e4
      rw [e1, e2, e3, e4]
      by_cases hst : s = t
      · subst hst
        rw [if_pos rfl, wf_ge b s h16]
        ac_rfl
      · rw [if_neg (by omega)]
        exact ih s (by omega) (by omega)
    · exact ih s (by omega) (by omega)
theorem cw_word (b : List (BitVec 64)) (hb : b.length = 16) (t : Nat) : nb (cw b (t + 1)) (t % 16) = wf b t := by
  by_cases h : t < 16
  · rw [cw_early b (t + 1) (by omega), wf_lt b t h, Nat.mod_eq_of_lt h]
  · exact cw_spec b hb (t + 1) t (by omega) (by omega)
def w80 (b : List (BitVec 64)) : Nat → List (BitVec 64)
  | 0 => b
  | t + 1 => (w80 b t).set (16 + t) (sg1 (nb (w80 b t) (16 + t - 2)) + nb (w80 b t) (16 + t - 7) + sg0 (nb (w80 b t) (16 + t - 15)) + nb (w80 b t) (16 + t - 16))
theorem w80_len (b : List (BitVec 64)) (t : Nat) : (w80 b t).length = b.length := by induction t <;> simp [w80, *]
theorem w80_spec (b c : List (BitVec 64)) (hb : b.length = 80) (h : ∀ j, j < 16 → nb b j = nb c j) (t : Nat) (ht : t ≤ 64) : ∀ s, s < 16 + t → nb (w80 b t) s = wf c s := by
  induction t with
  | zero => intro s hs; rw [wf_lt c s (by omega)]; exact h s (by omega)
  | succ t ih =>
    intro s hs
    have ih := ih (by omega)
    unfold w80
    rw [nb_set _ _ _ _ (by rw [w80_len, hb]; omega)]
    by_cases hst : s = 16 + t
    · subst hst
      rw [if_pos rfl, ih _ (by omega), ih _ (by omega), ih _ (by omega), ih _ (by omega), wf_ge c (16 + t) (by omega)]
    · rw [if_neg (by omega)]
      exact ih s (by omega)
theorem nb_zero (n j : Nat) : nb (List.replicate n 0) j = 0 := by
  unfold nb
  rw [List.getD_eq_getElem?_getD, List.getElem?_replicate]
  split <;> rfl
theorem w16_more (ys : List (BitVec 8)) (i : Nat) (hi : i ≤ 128) : ∀ j, j < 16 → nb (w16 80 ys i) j = nb (w16 16 ys i) j := by
  induction i with
  | zero =>
    intro j hj
    show nb (List.replicate 80 0) j = nb (List.replicate 16 0) j
    rw [nb_zero, nb_zero]
  | succ i ih =>
    intro j hj
    unfold w16
    rw [nb_set _ _ _ _ (by rw [w16_len]; omega), nb_set _ _ _ _ (by rw [w16_len]; omega), ih (by omega) _ (by omega)]
    split
    · rfl
    · exact ih (by omega) j hj
theorem w80_word (ys : List (BitVec 8)) (t : Nat) (ht : t < 80) : nb (w80 (w16 80 ys 128) 64) t = wf (w16 16 ys 128) t :=
  w80_spec _ _ (w16_len _ _ _) (w16_more ys 128 (by omega)) 64 (by omega) t (by omega)
def chunkS (m : List (BitVec 8)) (k : Nat) : List (BitVec 8) := (m.drop (128 * k)).take 128
def absS (s : List (BitVec 64)) (m : List (BitVec 8)) : Nat → List (BitVec 64)
  | 0 => s
  | k + 1 => blockL (absS s m k) (chunkS m k)
theorem absS_len (s : List (BitVec 64)) (m : List (BitVec 8)) (k : Nat) : (absS s m k).length = s.length := by induction k <;> simp [absS, blockL_len, *]
def lenY (n : Nat) : List (BitVec 8) := (List.range 16).map fun i => BitVec.ofNat 8 (8 * n / 2 ^ (8 * (15 - i)))
def padZ (n : Nat) : Nat := (239 - n % 128) % 128
def tailS (n : Nat) : List (BitVec 8) := 128#8 :: (List.replicate (padZ n) 0 ++ lenY n)
def outS (s : List (BitVec 64)) : Nat → List (BitVec 8)
  | 0 => List.replicate 64 0
  | i + 1 => (outS s i).set i ((nb s (i / 8) >>> (56 - 8 * (i % 8))).setWidth 8)
theorem outS_len (s : List (BitVec 64)) (i : Nat) : (outS s i).length = 64 := by induction i <;> simp [outS, *]
def padS (m : List (BitVec 8)) : List (BitVec 8) := m ++ tailS m.length
def shaL (m : List (BitVec 8)) : List (BitVec 8) := outS (absS shaH (padS m) ((padS m).length / 128)) 64
theorem shaL_len (m : List (BitVec 8)) : (shaL m).length = 64 := outS_len _ _
end Go.Proofs.Ytejnnghfelpioaa
namespace Go.Proofs.Ytejnnghfelpioaa
open Go.RowKit
def nn (xs : List Nat) (j : Nat) : Nat := xs.getD j 0
def cellsN (xs : List Nat) : Array Value := (xs.map fun x : Nat => Value.int .i64 (x : Int)).toArray
def ArrN (t : TypeId) (w : World) (b : Nat) (xs : List Nat) : Prop := w.heap[b]? = some (.cells (cellsN xs) t (0, 0))
theorem ArrN.cell {t : TypeId} {w : World} {b : Nat} {xs : List Nat} (h : ArrN t w b xs) (j : Nat) (hj : j < xs.length) : w.cell? ⟨b, j, none⟩ = some (.int .i64 ((nn xs j : Nat) : Int)) := by
  unfold ArrN at h
  simp [World.cell?, h, cellsN, nn, hj]
theorem ArrN.free {t : TypeId} {w : World} {b : Nat} {xs : List Nat} (h : ArrN t w b xs) (j : Nat) : w.frozen? ⟨b, j, none⟩ = false := by
  unfold ArrN at h
  simp [World.frozen?, h]
theorem ArrN.lt {t : TypeId} {w : World} {b : Nat} {xs : List Nat} (h : ArrN t w b xs) : b < w.heap.size := by
  unfold ArrN at h
  exact (Array.getElem?_eq_some_iff.1 h).1
theorem ArrN.set {t : TypeId} {w : World} {b : Nat} {xs : List Nat} (h : ArrN t w b xs) (j : Nat) (x : Nat) : ArrN t (w.setCell ⟨b, j, none⟩ (.int .i64 (x : Int))) b (xs.set j x) := by
  unfold ArrN at *
  simp [World.setCell, Array.getElem?_modify, h, cellsN, List.map_set]
theorem ArrN.other {t : TypeId} {w : World} {b : Nat} {xs : List Nat} (h : ArrN t w b xs) {a : Addr} (ha : b ≠ a.block) (v : Value) : ArrN t (w.setCell a v) b xs := by
  unfold ArrN at *
  rw [Below.heap_setCell _ _ _ _ ha]; exact h
theorem ArrN.below {t : TypeId} {w w' : World} {b B : Nat} {xs : List Nat} (h : ArrN t w b xs) (hb : Below B w w') (hB : b < B) : ArrN t w' b xs := by
  unfold ArrN at *
  rw [hb.block b hB]; exact h
theorem ArrN.alloc {t : TypeId} {w : World} {b : Nat} {xs : List Nat} (h : ArrN t w b xs) (o : Obj) : ArrN t (w.alloc o) b xs := by
  unfold ArrN at *
  rw [Below.heap_alloc _ _ _ (ArrN.lt h)]; exact h
theorem ArrN.drew {t : TypeId} {w : World} {b : Nat} {xs : List Nat} (h : ArrN t w b xs) : ArrN t w.drew b xs := h
theorem ArrN.ext {t : TypeId} {w : World} {b : Nat} {xs : List Nat} (h : ArrN t w b xs) (x : World) : ArrN t (w.ext x) b xs := h.below (w.ext_below x) h.lt
theorem ArrN.new (t : TypeId) (w : World) (xs : List Nat) : ArrN t (w.alloc (.cells (cellsN xs) t)) w.heap.size xs := by
  unfold ArrN
  show (w.heap.push _)[w.heap.size]? = _
  simp
theorem ArrB.all {t : TypeId} {w : World} {b : Nat} {xs : List (BitVec 64)} {n : Nat} (h : ArrB t w b xs) (hn : xs.length = n) : ∀ j, j < n → w.cell? ⟨b, j, none⟩ = some (.int .u64 (iv (nb xs j))) := fun j hj => h.cell j (by omega)
theorem ArrN.all {t : TypeId} {w : World} {b : Nat} {xs : List Nat} {n : Nat} (h : ArrN t w b xs) (hn : xs.length = n) : ∀ j, j < n → w.cell? ⟨b, j, none⟩ = some (.int .i64 ((nn xs j : Nat) : Int)) := fun j hj => h.cell j (by omega)
theorem heap_setRow (w : World) (g : Nat) (cs old : Array Value) (t : TypeId) (h : w.heap[g]? = some (.cells old t (0, 0))) : (w.setRow g cs).heap[g]? = some (.cells cs t (0, 0)) := by
  simp [World.setRow, Array.getElem?_modify, h]
theorem below_setRow {B : Nat} {a w : World} (h : Below B a w) (g : Nat) (hg : B ≤ g) (cs : Array Value) : Below B a (w.setRow g cs) :=
  h.trans ⟨rfl, rfl, rfl, by simp [World.setRow], fun k hk => by
    simp only [World.setRow, Array.getElem?_modify]
    rw [if_neg (by omega)]⟩
end Go.Proofs.Ytejnnghfelpioaa
namespace Go.Proofs.Ytejnnghfelpioaa
open Go.RowKit
theorem u80 : Try.prog.underlying 123 = some (.array 80 23) := by kernel_rfl
theorem u8w : Try.prog.underlying 102 = some (.array 8 23) := by kernel_rfl
theorem i80 : (Try.prog.info? 123).map (·.size) = some 80 := by kernel_rfl
theorem i8w : (Try.prog.info? 102).map (·.size) = some 8 := by kernel_rfl
def zeroB (n : Nat) : List (BitVec 64) := List.replicate n 0
theorem zero80 : (Try.prog.info? 123).bind (·.zero) = some (.agg (cellsB (zeroB 80))) := by kernel_rfl
theorem zero8 : (Try.prog.info? 102).bind (·.zero) = some (.agg (cellsB (zeroB 8))) := by kernel_rfl
theorem squares_any (w : World) : Calls Try.prog 75 #[] w fun e w' => e = .returned (.agg (cellsB shaH)) ∧ Below w.heap.size w w' := by
  have hZ := hid (ArrB.new 102 w (zeroB 8))
  have hb : Below w.heap.size w (w.alloc (.cells (cellsB (zeroB 8)) 102)) := (Below.refl _ _).alloc (Nat.le_refl _) _
  have iR := hid (show (Try.prog.info? 102).map (·.size) = some (cellsB shaH).size from by rw [size_cellsB]; exact i8w)
  have oR := hid (show (cellsB (zeroB 8)).size = (cellsB shaH).size by rw [size_cellsB, size_cellsB]; rfl)
  go_enter Try.func75, Try.ntmps75
  go_wp2_with (first | (refine wpList_alloc_new rfl 102 rfl (cellsB (zeroB 8)) zero8 ?_; simp only [Act.put, pvA, pv0, pv1]) | (refine wpList_buildStore 102 _ (.tmp 0) 1 (cellsB shaH) w.heap.size rfl rfl rfl rfl rfl rfl (by simp) (by kernel_rfl) rfl 102 _ hZ.out iR.out oR.out (one_cellsB _) ?_; simp only [Act.put, pvA, pv0, pv1]))
  refine bodyPost_ret (results_cell_row rfl _ _ w.heap.size 102 (cellsB shaH) (0, 0) _ rfl (heap_setRow _ _ _ _ _ hZ.out) u8w rfl iR.out) rfl ⟨rfl, below_setRow hb _ (Nat.le_refl _) _⟩
theorem roots_any (w : World) : Calls Try.prog 87 #[] w fun e w' => e = .returned (.agg (cellsB shaK)) ∧ Below w.heap.size w w' := by
  have hZ := hid (ArrB.new 123 w (zeroB 80))
  have hb : Below w.heap.size w (w.alloc (.cells (cellsB (zeroB 80)) 123)) := (Below.refl _ _).alloc (Nat.le_refl _) _
  have iR := hid (show (Try.prog.info? 123).map (·.size) = some (cellsB shaK).size from by rw [size_cellsB]; exact i80)
  have oR := hid (show (cellsB (zeroB 80)).size = (cellsB shaK).size by rw [size_cellsB, size_cellsB]; rfl)
  go_enter Try.func87, Try.ntmps87
  go_wp2_with (first | (refine wpList_alloc_new rfl 123 rfl (cellsB (zeroB 80)) zero80 ?_; simp only [Act.put, pvA, pv0, pv1]) | (refine wpList_buildStore 123 _ (.tmp 0) 1 (cellsB shaK) w.heap.size rfl rfl rfl rfl rfl rfl (by simp) (by kernel_rfl) rfl 123 _ hZ.out iR.out oR.out (one_cellsB _) ?_; simp only [Act.put, pvA, pv0, pv1]))
  refine bodyPost_ret (results_cell_row rfl _ _ w.heap.size 123 (cellsB shaK) (0, 0) _ rfl (heap_setRow _ _ _ _ _ hZ.out) u80 rfl iR.out) rfl ⟨rfl, below_setRow hb _ (Nat.le_refl _) _⟩
theorem rotR_any (x : BitVec 64) (n : Nat) (h1 : 1 ≤ n) (h2 : n ≤ 63) (w : World) :
    Calls Try.prog 88 #[.int .u64 (iv x), .int .i64 (-(n : Int))] w fun e w' => e = .returned (.int .u64 (iv (rr x n))) ∧ Below w.heap.size w w' := by
  have := rot_any x (-(n : Int)) w
  rw [show ((-(n : Int)) % 64).toNat = 64 - n from by omega] at this
  exact this
theorem turned_any (x : BitVec 64) (a b c : Nat) (ha : 1 ≤ a) (ha' : a ≤ 63) (hb : 1 ≤ b) (hb' : b ≤ 63) (hc : 1 ≤ c) (hc' : c ≤ 63) (w : World) :
    Calls Try.prog 89 #[.int .u64 (iv x), .int .i64 a, .int .i64 b, .int .i64 c] w fun e w' => e = .returned (.int .u64 (iv (rr x a ^^^ rr x b ^^^ rr x c))) ∧ Below w.heap.size w w' := by
  go_enter Try.func89, Try.ntmps89
  go_wp2_with (go_at_call 88; (with_reducible refine (Calls.asExt (rotR_any _ _ (by assumption) (by assumption) _)).mono ?_); rintro _ _ ⟨rfl, _, rfl⟩)
  go_ret
  refine ⟨ret_int ?_, (by repeat (first | (with_reducible first | exact Below.refl _ _ | assumption | refine World.ext_below_of ?_ ?_ _ | refine Below.setCell ?_ ?_ _ | refine Below.alloc ?_ ?_ _ | refine Below.drew ?_ | refine World.size_le_ext _ _ _ ?_) | (solve | simp [go_sem] | (simp [go_sem]; omega) | omega)))⟩
  rw [iv_xor, iv_xor]
end Go.Proofs.Ytejnnghfelpioaa
namespace Go
open Go.RowKit
theorem wpList_copy_row {P : Program} {ops : Array Oper} {rest : List Oper} {o : Oper} {a : Act} {w : World} {Q : Exit → Act → World → Prop} (hgd : o.guard = none) (d x : Operand) (dT sT : TypeId)
    (ho : o.op = .call { callee := .builtin .copy, args := #[d, x], argTypes := #[dT, sT] }) (elem : TypeId) (g off dLen dCap : Nat) (hd : a.eval d = .slice (some ⟨g, off, none⟩) dLen dCap) (ad : Addr) (sLen sCap : Nat) (hx : a.eval x = .slice (some ad) sLen sCap) (cur : Array Value) (t : TypeId) (cs : List Value)
    (hu : P.underlying dT = some (.slice elem)) (hs : (P.info? elem).map (·.size) = some 1)
    (hg : w.heap[g]? = some (.cells cur t (0, 0))) (hn : cs.length = Nat.min sLen dLen)
    (hsrc : ∀ j v, cs[j]? = some v → w.cell? (ad.add j) = some v) (hfit : off + cs.length ≤ cur.size) (h1 : ∀ v ∈ cs, v.oneCell' = true)
    (h : wpList P ops Q rest (a.put o.dst (goInt cs.length)) (w.setRow g (setPart cur off cs.toArray))) : wpList P ops Q (o :: rest) a w :=
  wpList_plain hgd fun _ hK => by
    have hrun := run_copy_row (P := P) w dT sT o.type elem g off dLen dCap ad sLen sCap cur t cs hu hs hg hn hsrc hfit h1
    unfold Oper.wp execOp
    simp only [ho, resolve, invoke, builtin, Sem.run_bind, Sem.run_pure, Result.andThen_ok, List.map_toArray, List.map_cons, List.map_nil, hd, hx, hrun]
    refine hK _ _ ?_
    simpa [setPart] using h
end Go
namespace Go.Proofs.Ytejnnghfelpioaa
open Go.RowKit
theorem ArrB.grown {t : TypeId} {w w' : World} {b : Nat} {row : Option Nat} {xs : List (BitVec 64)} (h : ArrB t w b xs) (hg : w.grownBy w' row) (hne : some b ≠ row) : ArrB t w' b xs := by
  have hl := h.lt
  unfold ArrB at *
  rw [hg.block b hl hne]; exact h
theorem grownBy_refl (w : World) (row : Option Nat) : w.grownBy w row := ⟨rfl, rfl, rfl, Nat.le_refl _, fun _ _ _ => rfl⟩
theorem grownBy_trans {a b c : World} {row : Option Nat} (h : a.grownBy b row) (k : b.grownBy c row) : a.grownBy c row :=
  ⟨k.os.trans h.os, k.tape.trans h.tape, k.output.trans h.output, Nat.le_trans h.size k.size, fun i hi hn => (k.block i (Nat.lt_of_lt_of_le hi h.size) hn).trans (h.block i hi hn)⟩
theorem grownBy_below {a b c : World} {row : Option Nat} (h : a.grownBy b row) (k : Below b.heap.size b c) : a.grownBy c row :=
  ⟨k.os.trans h.os, k.tape.trans h.tape, k.output.trans h.output, Nat.le_trans h.size k.size, fun i hi hn => (k.block i (Nat.lt_of_lt_of_le hi h.size)).trans (h.block i hi hn)⟩
theorem grownBy_setCell {a b : World} {row : Option Nat} (h : a.grownBy b row) {p : Addr} (hp : some p.block = row ∨ a.heap.size ≤ p.block) (v : Value) : a.grownBy (b.setCell p v) row :=
  ⟨h.os, h.tape, h.output, by simpa [World.setCell] using h.size, fun i hi hn => by
    rw [Below.heap_setCell _ _ _ _ (by
      rcases hp with hp | hp
      · intro e; subst e; exact hn hp
      · omega)]; exact h.block i hi hn⟩
theorem grownBy_alloc {a b : World} {row : Option Nat} (h : a.grownBy b row) (o : Obj) : a.grownBy (b.alloc o) row := grownBy_below h ((Below.refl _ _).alloc (Nat.le_refl _) o)
theorem grownBy_ext {a b : World} {row : Option Nat} (h : a.grownBy b row) (x : World) : a.grownBy (b.ext x) row := grownBy_below h (b.ext_below x)
end Go.Proofs.Ytejnnghfelpioaa
namespace Go.Proofs.Ytejnnghfelpioaa
open Go.RowKit
def shaC (s : List (BitVec 64)) (y : List (BitVec 8)) (n : Nat) (a : BitVec 64) : Array Value := cellsB s ++ cellsY y ++ #[.int .i64 n, .int .u64 (iv a)]
theorem shaC_s (s : List (BitVec 64)) (y : List (BitVec 8)) (n : Nat) (a : BitVec 64) (hs : s.length = 8) : ∀ j v, (cellsB s)[j]? = some v → (shaC s y n a)[0 + j]? = some v := by
  intro j v h
  have hj : j < (cellsB s).size := (Array.getElem?_eq_some_iff.1 h).1
  rw [Nat.zero_add]
  unfold shaC
  rw [Array.append_assoc, Array.getElem?_append_left hj]; exact h
theorem shaC_y (s : List (BitVec 64)) (y : List (BitVec 8)) (n : Nat) (a : BitVec 64) (hs : s.length = 8) : ∀ j v, (cellsY y)[j]? = some v → (shaC s y n a)[8 + j]? = some v := by
  intro j v h
  have hj : j < (cellsY y).size := (Array.getElem?_eq_some_iff.1 h).1
  have h8 : (cellsB s).size = 8 := by rw [size_cellsB]; exact hs
  unfold shaC
  rw [Array.append_assoc, Array.getElem?_append_right (by omega), h8, show 8 + j - 8 = j by omega, Array.getElem?_append_left hj]; exact h
theorem shaC_n (s : List (BitVec 64)) (y : List (BitVec 8)) (n : Nat) (a : BitVec 64) (hs : s.length = 8) (hy : y.length = 128) : (shaC s y n a)[136]? = some (.int .i64 n) := by
  unfold shaC
  rw [Array.getElem?_append_right (by simp [size_cellsB, size_cellsY, hs, hy])]
  simp [size_cellsB, size_cellsY, hs, hy]
theorem shaC_a (s : List (BitVec 64)) (y : List (BitVec 8)) (n : Nat) (a : BitVec 64) (hs : s.length = 8) (hy : y.length = 128) : (shaC s y n a)[137]? = some (.int .u64 (iv a)) := by
  unfold shaC
  rw [Array.getElem?_append_right (by simp [size_cellsB, size_cellsY, hs, hy])]
  simp [size_cellsB, size_cellsY, hs, hy]
theorem shaC_size (s : List (BitVec 64)) (y : List (BitVec 8)) (n : Nat) (a : BitVec 64) (hs : s.length = 8) (hy : y.length = 128) : (shaC s y n a).size = 138 := by
  simp [shaC, size_cellsB, size_cellsY, hs, hy]
theorem shaC_setS (s : List (BitVec 64)) (y : List (BitVec 8)) (n : Nat) (a x : BitVec 64) (i : Nat) (hi : i < s.length) : (shaC s y n a).setIfInBounds i (.int .u64 (iv x)) = shaC (s.set i x) y n a := by
  have h : i < (cellsB s).size := by rw [size_cellsB]; exact hi
  unfold shaC
  rw [Array.append_assoc, Array.setIfInBounds_append_left h, ← Array.append_assoc]
  congr 2
  simp [cellsB, List.map_set]
theorem shaC_setN (s : List (BitVec 64)) (y : List (BitVec 8)) (n m : Nat) (a : BitVec 64) (hs : s.length = 8) (hy : y.length = 128) : (shaC s y n a).setIfInBounds 136 (.int .i64 m) = shaC s y m a := by
  unfold shaC
  rw [Array.setIfInBounds_append_right (by simp [size_cellsB, size_cellsY, hs, hy])]
  simp [size_cellsB, size_cellsY, hs, hy]
theorem shaC_setA (s : List (BitVec 64)) (y : List (BitVec 8)) (n : Nat) (a b : BitVec 64) (hs : s.length = 8) (hy : y.length = 128) : (shaC s y n a).setIfInBounds 137 (.int .u64 (iv b)) = shaC s y n b := by
  unfold shaC
  rw [Array.setIfInBounds_append_right (by simp [size_cellsB, size_cellsY, hs, hy])]
  simp [size_cellsB, size_cellsY, hs, hy]
def HasS (w : World) (hb : Nat) (s : List (BitVec 64)) (y : List (BitVec 8)) (n : Nat) (a : BitVec 64) : Prop := w.heap[hb]? = some (.cells (shaC s y n a) 112 (0, 0))
theorem HasS.lt {w : World} {hb : Nat} {s : List (BitVec 64)} {y : List (BitVec 8)} {n : Nat} {a : BitVec 64} (h : HasS w hb s y n a) : hb < w.heap.size := (Array.getElem?_eq_some_iff.1 h).1
theorem HasS.grown {w w' : World} {hb : Nat} {s : List (BitVec 64)} {y : List (BitVec 8)} {n : Nat} {a : BitVec 64} {row : Option Nat} (h : HasS w hb s y n a) (hg : w.grownBy w' row) (hr : some hb ≠ row) : HasS w' hb s y n a := (hg.block hb h.lt hr).trans h
theorem HasS.below {w w' : World} {hb : Nat} {s : List (BitVec 64)} {y : List (BitVec 8)} {n : Nat} {a : BitVec 64} {B : Nat} (h : HasS w hb s y n a) (hg : Below B w w') (hr : hb < B) : HasS w' hb s y n a := (hg.block hb hr).trans h
theorem HasS.other {w : World} {hb : Nat} {s : List (BitVec 64)} {y : List (BitVec 8)} {n : Nat} {a : BitVec 64} (h : HasS w hb s y n a) {p : Addr} (hp : hb ≠ p.block) (v : Value) : HasS (w.setCell p v) hb s y n a := by
  unfold HasS at *; rw [Below.heap_setCell _ _ _ _ hp]; exact h
theorem HasS.cellS {w : World} {hb : Nat} {s : List (BitVec 64)} {y : List (BitVec 8)} {n : Nat} {a : BitVec 64} (h : HasS w hb s y n a) (hs : s.length = 8) : ∀ j, j < 8 → w.cell? ⟨hb, j, none⟩ = some (.int .u64 (iv (nb s j))) := fun j hj => by
  have := shaC_s s y n a hs j (.int .u64 (iv (nb s j))) (by simp [cellsB, nb, show j < s.length by omega])
  rw [Nat.zero_add] at this
  rw [cell_of_row w hb j _ _ _ h]; exact this
theorem HasS.cellN {w : World} {hb : Nat} {s : List (BitVec 64)} {y : List (BitVec 8)} {n : Nat} {a : BitVec 64} (h : HasS w hb s y n a) (hs : s.length = 8) (hy : y.length = 128) : w.cell? ⟨hb, 136, none⟩ = some (.int .i64 n) := by
  rw [cell_of_row w hb 136 _ _ _ h]; exact shaC_n s y n a hs hy
theorem HasS.cellA {w : World} {hb : Nat} {s : List (BitVec 64)} {y : List (BitVec 8)} {n : Nat} {a : BitVec 64} (h : HasS w hb s y n a) (hs : s.length = 8) (hy : y.length = 128) : w.cell? ⟨hb, 137, none⟩ = some (.int .u64 (iv a)) := by
  rw [cell_of_row w hb 137 _ _ _ h]; exact shaC_a s y n a hs hy
theorem HasS.free {w : World} {hb : Nat} {s : List (BitVec 64)} {y : List (BitVec 8)} {n : Nat} {a : BitVec 64} (h : HasS w hb s y n a) (j : Nat) : w.frozen? ⟨hb, j, none⟩ = false := by
  unfold HasS at h; simp [World.frozen?, h]
theorem HasS.put {w : World} {hb : Nat} {s s' : List (BitVec 64)} {y y' : List (BitVec 8)} {n n' : Nat} {a a' : BitVec 64} (h : HasS w hb s y n a) (j : Nat) (v : Value) (he : (shaC s y n a).setIfInBounds j v = shaC s' y' n' a') : HasS (w.setCell ⟨hb, j, none⟩ v) hb s' y' n' a' := by
  unfold HasS at *
  simp [World.setCell, Array.getElem?_modify, h, he]
theorem uY8 : Try.prog.underlying 5 = some (.int .u8) := by kernel_rfl
theorem y_idx (l : List (BitVec 8)) (t : TypeId) (n : Nat) (hu : Try.prog.underlying t = some (.array n 5)) (hl : l.length = n) (i : Nat) (hi : i < n) (w : World) :
    (Instr.index t (.agg (cellsY l)) (.int .i64 (i : Int))).run Try.prog w = .ok (.int .u8 (yv (ny l i))) w := by
  have := run_index_ints (k' := .i64) (P := Try.prog) hu (by kernel_rfl) (by kernel_rfl) uY8 (l.map yv) (by simpa using hl) (i : Int) (by omega) (by omega) w
  rw [show (cellsY l) = ((l.map yv).map (Value.int .u8)).toArray from by simp [cellsY]]
  rw [this, Int.toNat_natCast]
  simp [ny, List.getD_eq_getElem?_getD, show i < l.length from by omega]
theorem u128 : Try.prog.underlying 110 = some (.array 128 5) := by kernel_rfl
theorem i128 : (Try.prog.info? 110).map (·.size) = some 128 := by kernel_rfl
theorem shaW_raw (x0 x9 x1 x2 : BitVec 64) : IntKind.u64.wrap (iv x0 + IntKind.u64.wrap (IntKind.u64.wrap (iv x9 + bits .xor .u64 (bits .xor .u64 (iv (rr x1 1)) (iv (rr x1 8))) (iv x1 / 128)) + bits .xor .u64 (bits .xor .u64 (iv (rr x2 19)) (iv (rr x2 61))) (iv x2 / 64))) = iv (x0 + (x9 + sg0 x1 + sg1 x2)) := by
  rw [show iv x1 / 128 = iv x1 / 2 ^ 7 from rfl, show iv x2 / 64 = iv x2 / 2 ^ 6 from rfl, iv_shr, iv_shr]
  simp only [iv_xor, iv_add]
  rfl
def oneV (v : List (BitVec 64)) (k x : BitVec 64) : BitVec 64 := nb v 7 + bs1 (nb v 4) + chs (nb v 4) (nb v 5) (nb v 6) + k + x
def twoV (v : List (BitVec 64)) : BitVec 64 := bs0 (nb v 0) + mjs (nb v 0) (nb v 1) (nb v 2)
theorem one_raw (v : List (BitVec 64)) (k x : BitVec 64) : IntKind.u64.wrap (IntKind.u64.wrap (IntKind.u64.wrap (IntKind.u64.wrap (iv (nb v 7) + iv (rr (nb v 4) 14 ^^^ rr (nb v 4) 18 ^^^ rr (nb v 4) 41)) +
    bits .xor .u64 (iv (nb v 6)) (bits .and .u64 (iv (nb v 4)) (bits .xor .u64 (iv (nb v 5)) (iv (nb v 6))))) + iv k) + iv x) = iv (oneV v k x) := by
  simp only [iv_xor, iv_and, iv_add]
  rfl
theorem two_raw (v : List (BitVec 64)) : IntKind.u64.wrap (iv (rr (nb v 0) 28 ^^^ rr (nb v 0) 34 ^^^ rr (nb v 0) 39) +
    bits .or .u64 (bits .and .u64 (iv (nb v 0)) (iv (nb v 1))) (bits .and .u64 (iv (nb v 2)) (bits .or .u64 (iv (nb v 0)) (iv (nb v 1))))) = iv (twoV v) := by
  simp only [iv_or, iv_and, iv_add]
  rfl
def shv (v : List (BitVec 64)) : List (BitVec 64) := [nb v 0, nb v 0, nb v 1, nb v 2, nb v 3, nb v 4, nb v 5, nb v 6]
theorem len8 {α : Type} {l : List α} (h : l.length = 8) : ∃ a b c d e f g i, l = [a, b, c, d, e, f, g, i] := by
  match l, h with
  | [a, b, c, d, e, f, g, i], _ => exact ⟨a, b, c, d, e, f, g, i, rfl⟩
theorem shv_part (v : List (BitVec 64)) (h : v.length = 8) : setPart (cellsB v) 1 ((v.take 7).map fun x => Value.int .u64 (iv x)).toArray = cellsB (shv v) := by
  obtain ⟨a, b, c, d, e, f, g, i, rfl⟩ := len8 h
  rfl
theorem shv_step (v : List (BitVec 64)) (k x : BitVec 64) : ((shv v).set 4 (nb (shv v) 4 + oneV v k x)).set 0 (oneV v k x + twoV v) = stepV v k x := rfl
theorem setRow_other (w : World) (g k : Nat) (cs : Array Value) (h : k ≠ g) : (w.setRow g cs).heap[k]? = w.heap[k]? := by
  simp only [World.setRow, Array.getElem?_modify]
  rw [if_neg (by omega)]
theorem grownBy_setRow {a b : World} {row : Option Nat} (h : a.grownBy b row) {g : Nat} (hp : some g = row ∨ a.heap.size ≤ g) (cs : Array Value) : a.grownBy (b.setRow g cs) row :=
  ⟨h.os, h.tape, h.output, by simpa [World.setRow] using h.size, fun i hi hn => by
    rw [setRow_other _ _ _ _ (by
      rcases hp with hp | hp
      · intro e; subst e; exact hn hp
      · omega)]; exact h.block i hi hn⟩
theorem sU1 : (Try.prog.info? 23).map (·.size) = some 1 := by kernel_rfl
theorem uSU : Try.prog.underlying 99 = some (.slice 23) := by kernel_rfl
set_option maxRecDepth 20000 in
set_option maxHeartbeats 2000000 in
theorem block_any (s : List (BitVec 64)) (y : List (BitVec 8)) (n : Nat) (a : BitVec 64) (hb : Nat) (w : World) (hs : s.length = 8) (hy : y.length = 128) (hH : HasS w hb s y n a) :
    Calls Try.prog 76 #[.pointer (some ⟨hb, 0, none⟩)] w fun e w' => e = .returned (.tuple #[]) ∧ HasS w' hb (blockL s y) y 0 a ∧ w.grownBy w' (some hb) := by
  have hbl := hH.lt
  have HH := hid hH
  have HS := hid hs
  have HY := hid hy
  have iY := hid (show (Try.prog.info? 110).map (·.size) = some (cellsY y).size by rw [size_cellsY, hy]; exact i128)
  have iS := hid (show (Try.prog.info? 102).map (·.size) = some (cellsB s).size by rw [size_cellsB, hs]; exact i8w)
  have zS := hid (show (cellsB (zeroB 8)).size = (cellsB s).size by rw [size_cellsB, size_cellsB, hs]; rfl)
  have pY := hid (shaC_y s y n a hs)
  have pS := hid (shaC_s s y n a hs)
  have hix := fun i (hi : i < 128) w => y_idx y 110 128 u128 hy i hi w
  have HIX := hid hix
  clear hix hH hs hy
  go_enter Try.func76, Try.ntmps76
  go_wp2_with (refine wpList_load_part rfl 110 (.tmp 16) rfl hb 8 rfl 112 _ (cellsY y) (0, 0) _ ((Below.heap_alloc _ _ _ hbl).trans HH.out) pY.out u128 rfl iY.out ?_; simp only [Act.put, pvA, pv0, pv1])
  go_loopw [18] (fun i wr => ∃ k : Nat, k ≤ 128 ∧ i = .int .i64 k ∧ Hid (ArrB 122 wr w.heap.size (w16 16 y k)) ∧ Hid (HasS wr hb s y n a) ∧ w.grownBy wr none)
    (fun i _ => 128 - (intOf i).toNat)
  case atStart => exact ⟨0, by omega, rfl, hid (ArrB.new _ _ (w16 16 y 0)), hid (HH.out.below ((Below.refl _ w).alloc (Nat.le_refl _) _) hbl), grownBy_alloc (grownBy_refl _ _) _⟩
  case round =>
    obtain ⟨k, hk, rfl, hW, hH, hg⟩ := hrel
    by_cases hlt : k < 128
    · have hi := HIX.out k hlt
      have h8 : k / 8 < 16 := by omega
      have c1 := hW.out.cell (k / 8) (by rw [w16_len]; exact h8)
      have f1 := hW.out.free (k / 8)
      have l1 := hW.out.lt
      go_wp2
      go_roundw
      case rel =>
        refine ⟨k + 1, by omega, by go_num, ?_, hid (hH.out.other (by show hb ≠ w.heap.size; omega) _), grownBy_setCell hg (.inr (Nat.le_refl _)) _⟩
        rw [show (iv (nb (w16 16 y k) (k / 8)) * 256) = iv (nb (w16 16 y k) (k / 8)) * 2 ^ 8 from rfl, iv_shl, yv_wrap, iv_or]
        exact hid (hW.out.set _ _)
      case measure => simp [intOf]; omega
    · obtain rfl : k = 128 := by omega
      clear hlt hk
      have iK := hid (show (Try.prog.info? 123).map (·.size) = some (cellsB shaK).size from by rw [size_cellsB]; exact i80)
      have zK := hid (show (cellsB (zeroB 80)).size = (cellsB shaK).size by rw [size_cellsB, size_cellsB]; rfl)
      have HR := hid (fun w => roots_any w)
      have HK : Hid (∃ l, l = shaK) := hid ⟨_, rfl⟩
      have nK := hid (one_cellsB shaK)
      obtain ⟨kk, hkk⟩ := HK.out
      rw [← hkk] at iK zK HR nK
      have HKK := hid hkk
      clear hkk
      go_wp2_with fail
      refine (HR.out _).mono ?_
      rintro e w1 ⟨rfl, hb1⟩
      have hW1 := hid (hW.out.below hb1 hW.out.lt)
      have hH1 := hid (hH.out.below hb1 hH.out.lt)
      have hg1 := grownBy_below hg hb1
      obtain ⟨B, hB⟩ : ∃ B, B = w1.heap.size := ⟨_, rfl⟩
      have lW := hW1.out.lt
      have lH := hH1.out.lt
      clear hW hH hg hb1
      go_wp2_with (first | (refine wpList_allocStore 123 34 5 (cellsB kk) (cellsB (zeroB 80)) rfl rfl rfl rfl rfl rfl (by decide) (by simp) rfl (by kernel_rfl) zK.out iK.out nK.out ?_; simp only [Act.put, pvA, pv0, pv1]) | (refine wpList_load_part rfl 102 (.tmp 37) rfl hb 0 rfl 112 _ (cellsB s) (0, 0) _ ((Below.heap_alloc _ _ _ lH).trans hH1.out) pS.out u8w rfl iS.out ?_; simp only [Act.put, pvA, pv0, pv1]) | (refine wpList_allocStore 102 38 6 (cellsB s) (cellsB (zeroB 8)) rfl rfl rfl rfl rfl rfl (by decide) (by simp) rfl (by kernel_rfl) zS.out iS.out (one_cellsB s) ?_; simp only [Act.put, pvA, pv0, pv1]))
      have hK2 : ArrB 123 ((w1.alloc (.cells (cellsB kk) 123)).alloc (.cells (cellsB s) 102)) B kk := by rw [hB]; exact (ArrB.new _ _ _).alloc _
      have hV2 : ArrB 102 ((w1.alloc (.cells (cellsB kk) 123)).alloc (.cells (cellsB s) 102)) (B + 1) s := by
        have := ArrB.new 102 (w1.alloc (.cells (cellsB kk) 123)) s
        rw [World.size_alloc, ← hB] at this; exact this
      have hW2 := (hW1.out.alloc (.cells (cellsB kk) 123)).alloc (.cells (cellsB s) 102)
      have hH2 : HasS ((w1.alloc (.cells (cellsB kk) 123)).alloc (.cells (cellsB s) 102)) hb s y n a := (hH1.out.below ((Below.refl _ w1).alloc (Nat.le_refl _) _) lH).below (B := w1.heap.size) ((Below.refl _ _).alloc (by simp) _) lH
      have hg2 := grownBy_alloc (grownBy_alloc hg1 (.cells (cellsB kk) 123)) (.cells (cellsB s) 102)
      simp only [World.size_alloc, ← hB]
      generalize (w1.alloc (.cells (cellsB kk) 123)).alloc (.cells (cellsB s) 102) = w2 at hK2 hV2 hW2 hH2 hg2 ⊢
      have hWB : w.heap.size < B := by omega
      have hHB : hb < B := by omega
      obtain ⟨bl, hbl2⟩ : ∃ bl, bl = w16 16 y 128 := ⟨_, rfl⟩
      have hbll : bl.length = 16 := by rw [hbl2, w16_len]
      rw [← hbl2] at hW2
      have HBL := hid hbl2
      have HBLL := hid hbll
      have HK2 := hid hK2
      have HV2 := hid hV2
      have HW2 := hid hW2
      have HH2 := hid hH2
      clear hbl2 hbll hK2 hV2 hW2 hH2 hW1 hH1 hg1 lW lH iK zK nK HR HIX pY iY hB HK
      clear w1
      go_loopw [39] (fun i wr => ∃ t : Nat, t ≤ 80 ∧ i = .int .i64 t ∧ Hid (ArrB 123 wr B kk) ∧ Hid (ArrB 102 wr (B + 1) (vGo bl s t)) ∧ Hid (ArrB 122 wr w.heap.size (cw bl t)) ∧ Hid (HasS wr hb s y n a) ∧ w.grownBy wr none)
        (fun i _ => 80 - (intOf i).toNat)
      case atStart => exact ⟨0, by omega, rfl, HK2, HV2, HW2, HH2, hg2⟩
      case round =>
        clear HK2 HV2 HW2 HH2 hg2
        obtain ⟨t, ht, rfl, hK, hV, hW, hH, hg⟩ := hrel
        by_cases hlt : t < 80
        · have hlv := hid (vGo_len bl s HS.out t)
          have hlw := hid ((cw_len bl t).trans HBLL.out)
          obtain ⟨v, hv⟩ : ∃ v, v = vGo bl s t := ⟨_, rfl⟩
          obtain ⟨cc, hcc⟩ : ∃ cc, cc = cw bl t := ⟨_, rfl⟩
          rw [← hv] at hV hlv
          rw [← hcc] at hW hlw
          have HV := hid hv
          have HC := hid hcc
          clear hv hcc
          have h0 : t % 16 < 16 := Nat.mod_lt _ (by omega)
          have c0 := hW.out.cell (t % 16) (by rw [hlw.out]; omega)
          have f0 := hW.out.free (t % 16)
          have l0 := hW.out.lt
          have l1 := hV.out.lt
          have l2 := hK.out.lt
          by_cases h16 : 16 ≤ t
          focus
            have h1 : (t + 1) % 16 < 16 := Nat.mod_lt _ (by omega)
            have h2 : (t + 14) % 16 < 16 := Nat.mod_lt _ (by omega)
            have h3 : (t + 9) % 16 < 16 := Nat.mod_lt _ (by omega)
            have c1 := hW.out.cell ((t + 1) % 16) (by rw [hlw.out]; omega)
            have c2 := hW.out.cell ((t + 14) % 16) (by rw [hlw.out]; omega)
            have c3 := hW.out.cell ((t + 9) % 16) (by rw [hlw.out]; omega)
            have n1 := iv_nonneg (nb cc ((t + 1) % 16))
            have n2 := iv_nonneg (nb cc ((t + 14) % 16))
            go_wp2_with fail
            (refine wp_region_ext (by kernel_rfl) (by kernel_rfl) ?_; (repeat (go_big_quiet_step (first | fail))); refine wpQuiet_nil ?_; rintro _ ⟨xw, rfl⟩)
            have hK1 := hK.out.ext xw
            have hV1 := hV.out.ext xw
            have hW1 := hW.out.ext xw
            have hH1 := hH.out.below (wr.ext_below xw) hH.out.lt
            have hg1 := grownBy_ext hg xw
            go_wp2_with fail
            clear c0 c1 c2 c3 f0
            generalize wr.ext xw = w1 at hK1 hV1 hW1 hH1 hg1 ⊢
            clear hK hV hW hH hg xw
            have c0 := hW1.cell (t % 16) (by rw [hlw.out]; omega)
            have f0 := hW1.free (t % 16)
            have c3 := hW1.cell ((t + 9) % 16) (by rw [hlw.out]; omega)
            have l0 := hW1.lt
            have HW1 := hid hW1
            clear hW1
            go_wp2_with fail
            (refine wp_region_ext_tail 28 (by kernel_rfl) (by kernel_rfl) ?_; simp only [List.take_succ_cons, List.take_zero, List.drop_succ_cons, List.drop_zero]; (repeat (go_big_quiet_step (first | (go_at_call 88; with_reducible refine Calls.ext_of (rotR_any _ _ (by decide) (by decide) _))))); refine wpQuiet_nil ?_; rintro _ ⟨xw, rfl⟩)
            go_wp2_with fail
            rw [shaW_raw]
            have hcc2 : cw bl (t + 1) = cc.set (t % 16) (nb cc (t % 16) + (nb cc ((t + 9) % 16) + sg0 (nb cc ((t + 1) % 16)) + sg1 (nb cc ((t + 14) % 16)))) := by
              rw [HC.out]; conv => lhs; unfold cw
              rw [if_pos h16]
            have hW2 := (HW1.out.ext xw).set (t % 16) (nb cc (t % 16) + (nb cc ((t + 9) % 16) + sg0 (nb cc ((t + 1) % 16)) + sg1 (nb cc ((t + 14) % 16))))
            rw [← hcc2] at hW2
            have hK2 := (hK1.ext xw).other (a := ⟨w.heap.size, t % 16, none⟩) (by show B ≠ w.heap.size; omega) (.int .u64 (iv (nb cc (t % 16) + (nb cc ((t + 9) % 16) + sg0 (nb cc ((t + 1) % 16)) + sg1 (nb cc ((t + 14) % 16))))))
            have hV2 := (hV1.ext xw).other (a := ⟨w.heap.size, t % 16, none⟩) (by show B + 1 ≠ w.heap.size; omega) (.int .u64 (iv (nb cc (t % 16) + (nb cc ((t + 9) % 16) + sg0 (nb cc ((t + 1) % 16)) + sg1 (nb cc ((t + 14) % 16))))))
            have hH2 := (hH1.below (w1.ext_below xw) hH1.lt).other (p := ⟨w.heap.size, t % 16, none⟩) (by show hb ≠ w.heap.size; omega) (.int .u64 (iv (nb cc (t % 16) + (nb cc ((t + 9) % 16) + sg0 (nb cc ((t + 1) % 16)) + sg1 (nb cc ((t + 14) % 16))))))
            have hg2 := grownBy_setCell (grownBy_ext hg1 xw) (p := ⟨w.heap.size, t % 16, none⟩) (.inr (Nat.le_refl _)) (.int .u64 (iv (nb cc (t % 16) + (nb cc ((t + 9) % 16) + sg0 (nb cc ((t + 1) % 16)) + sg1 (nb cc ((t + 14) % 16))))))
            generalize (w1.ext xw).setCell ⟨w.heap.size, t % 16, none⟩ (.int .u64 (iv (nb cc (t % 16) + (nb cc ((t + 9) % 16) + sg0 (nb cc ((t + 1) % 16)) + sg1 (nb cc ((t + 14) % 16)))))) = w2 at hW2 hK2 hV2 hH2 hg2 ⊢
            clear hK1 hV1 HW1 hH1 hg1 xw c0 f0 c3 l0 hcc2 w1 h1 h2 h3 n1 n2
          rotate_left
          focus
            have hcc2 : cw bl (t + 1) = cc := by
              rw [HC.out]; conv => lhs; unfold cw
              rw [if_neg h16]
            have hW2 := hW.out
            rw [← hcc2] at hW2
            have hK2 := hK.out
            have hV2 := hV.out
            have hH2 := hH.out
            have hg2 := hg
            go_wp2_with fail
            generalize wr = w2 at hW2 hK2 hV2 hH2 hg2 ⊢
            clear hcc2
          all_goals
            clear l0 l1 l2
            have cV := hV2.all hlv.out
            have fV := fun j => hV2.free j
            have cK := hK2.cell t (by rw [HKK.out]; exact hlt)
            have cX := hW2.cell (t % 16) (by rw [cw_len, HBLL.out]; exact h0)
            rw [cw_word bl HBLL.out] at cX
            have l0 := hW2.lt
            have l1 := hV2.lt
            have l2 := hK2.lt
            have HW2 := hid hW2
            have HV2 := hid hV2
            have HK2 := hid hK2
            have HH2 := hid hH2
            clear hW2 hV2 hK2 hH2
            go_wp2_with fail
            (refine wp_region_ext (by kernel_rfl) (by kernel_rfl) ?_; (repeat (go_big_quiet_step (first | (go_at_call 89; with_reducible refine Calls.ext_of (turned_any _ _ _ _ (by decide) (by decide) (by decide) (by decide) (by decide) (by decide) _))))); refine wpQuiet_nil ?_; rintro _ ⟨xw, rfl⟩)
            go_wp2_with fail
            rw [one_raw]
            have hW3 := hid (HW2.out.ext xw)
            have hV3 := hid (HV2.out.ext xw)
            have hK3 := hid (HK2.out.ext xw)
            have hH3 := hid (HH2.out.below (w2.ext_below xw) HH2.out.lt)
            have hg3 := grownBy_ext hg2 xw
            have ho : Hid (∃ o, o = oneV v (nb kk t) (wf bl t)) := hid ⟨_, rfl⟩
            obtain ⟨one, hone⟩ := ho.out
            rw [← hone]
            have HONE := hid hone
            generalize w2.ext xw = w3 at hW3 hV3 hK3 hH3 hg3 ⊢
            clear HW2 HV2 HK2 HH2 hg2 cV fV cK cX hone ho l0 l1 l2 xw w2
            have cV := hV3.out.all hlv.out
            have l1 := hV3.out.lt
            go_wp2_with fail
            (refine wp_region_ext (by kernel_rfl) (by kernel_rfl) ?_; (repeat (go_big_quiet_step (first | (go_at_call 89; with_reducible refine Calls.ext_of (turned_any _ _ _ _ (by decide) (by decide) (by decide) (by decide) (by decide) (by decide) _))))); refine wpQuiet_nil ?_; rintro _ ⟨xw, rfl⟩)
            go_wp2_with fail
            rw [two_raw]
            have hW4 := hid (hW3.out.ext xw)
            have hV4 := hid (hV3.out.ext xw)
            have hK4 := hid (hK3.out.ext xw)
            have hH4 := hid (hH3.out.below (w3.ext_below xw) hH3.out.lt)
            have hg4 := grownBy_ext hg3 xw
            generalize w3.ext xw = w4 at hW4 hV4 hK4 hH4 hg4 ⊢
            clear hW3 hV3 hK3 hH3 hg3 cV l1 xw w3
            have ht : Hid (∃ o, o = twoV v) := hid ⟨_, rfl⟩
            obtain ⟨two, htwo⟩ := ht.out
            rw [← htwo]
            have HTWO := hid htwo
            clear htwo ht
            (refine wp_region_ext_tail 2 (by kernel_rfl) (by kernel_rfl) ?_; simp only [List.take_succ_cons, List.take_zero, List.drop_succ_cons, List.drop_zero]; (repeat (go_big_quiet_step (first | fail))); refine wpQuiet_nil ?_; rintro _ ⟨xw, rfl⟩)
            have hV5 := hV4.out.ext xw
            refine wpList_copy_row rfl (.tmp 129) (.tmp 130) 99 99 rfl 23 (B + 1) 1 7 7 rfl ⟨B + 1, 0, none⟩ 7 8 rfl _ _ ((v.take 7).map fun x => Value.int .u64 (iv x)) uSU sU1 hV5 (by simp [hlv.out]) ?_ (by simp [hlv.out, size_cellsB]) ?_ ?_
            · intro j u hu
              have hj : j < 7 := by
                rcases Nat.lt_or_ge j 7 with h | h
                · exact h
                · rw [List.getElem?_eq_none (by simp [hlv.out]; omega)] at hu; cases hu
              have := hV5.cell j (by rw [hlv.out]; omega)
              rw [show (⟨B + 1, 0, none⟩ : Addr).add j = ⟨B + 1, j, none⟩ from by unfold Addr.add; split <;> simp_all, this, ← hu]
              have hl := hlv.out
              simp [nb, hj, List.getElem?_take, show j < v.length by omega]
            · intro u hu
              obtain ⟨x, _, rfl⟩ := List.mem_map.1 hu
              rfl
            rw [shv_part v hlv.out]
            have hW6 : ArrB 122 ((w4.ext xw).setRow (B + 1) (cellsB (shv v))) w.heap.size (cw bl (t + 1)) := (setRow_other _ _ _ _ (by omega)).trans (hW4.out.ext xw)
            have hV6 : ArrB 102 ((w4.ext xw).setRow (B + 1) (cellsB (shv v))) (B + 1) (shv v) := heap_setRow _ _ _ _ _ hV5
            have hK6 : ArrB 123 ((w4.ext xw).setRow (B + 1) (cellsB (shv v))) B kk := (setRow_other _ _ _ _ (by omega)).trans (hK4.out.ext xw)
            have hH6 : HasS ((w4.ext xw).setRow (B + 1) (cellsB (shv v))) hb s y n a := (setRow_other _ _ _ _ (by omega)).trans (hH4.out.below (w4.ext_below xw) hH4.out.lt)
            have hg6 : w.grownBy ((w4.ext xw).setRow (B + 1) (cellsB (shv v))) none := grownBy_setRow (grownBy_ext hg4 xw) (.inr (by omega)) _
            generalize (w4.ext xw).setRow (B + 1) (cellsB (shv v)) = w6 at hW6 hV6 hK6 hH6 hg6 ⊢
            clear hW4 hV4 hK4 hH4 hg4 hV5 xw w4
            have c4 := hV6.cell 4 (by simp [shv])
            have c00 := hV6.cell 0 (by simp [shv])
            have f4 := hV6.free
            have l1 := hV6.lt
            have HV6 := hid hV6
            have HW6 := hid hW6
            have HK6 := hid hK6
            have HH6 := hid hH6
            clear hV6 hW6 hK6 hH6
            go_wp2
            go_roundw
            case rel =>
              rw [iv_add, iv_add]
              refine ⟨t + 1, by omega, by go_num, hid (((HK6.out.other (by show B ≠ B + 1; omega) _).other (by show B ≠ B + 1; omega) _)), ?_, hid (((HW6.out.other (by show w.heap.size ≠ B + 1; omega) _).other (by show w.heap.size ≠ B + 1; omega) _)), hid (((HH6.out.other (by show hb ≠ B + 1; omega) _).other (by show hb ≠ B + 1; omega) _)), grownBy_setCell (grownBy_setCell hg6 (.inr (by show w.heap.size ≤ B + 1; omega)) _) (.inr (by show w.heap.size ≤ B + 1; omega)) _⟩
              have h7 := (HV6.out.set 4 (nb (shv v) 4 + one)).set 0 (one + two)
              rw [HONE.out, HTWO.out] at h7
              rw [HONE.out, HTWO.out]
              have h8 : vGo bl s (t + 1) = stepV v (nb kk t) (wf bl t) := by rw [HV.out, HKK.out]; rfl
              rw [h8, ← shv_step]
              exact hid h7
            case measure => simp [intOf]; omega
        · obtain rfl : t = 80 := by omega
          clear hlt ht HBLL
          have hlv := hid (vGo_len bl s HS.out 80)
          obtain ⟨v, hv⟩ : ∃ v, v = vGo bl s 80 := ⟨_, rfl⟩
          rw [← hv] at hV hlv
          have HV := hid hv
          clear hv hW hK
          go_wp2_with fail
          obtain ⟨wq, hwq⟩ : ∃ wq : World, wq = wr := ⟨_, rfl⟩
          subst hwq
          have hg0 : w.grownBy wq (some hb) := ⟨hg.os, hg.tape, hg.output, hg.size, fun k hk _ => hg.block k hk (by simp)⟩
          go_loopw [142] (fun i wr => ∃ k : Nat, k ≤ 8 ∧ i = .int .i64 k ∧ Hid (ArrB 102 wr (B + 1) v) ∧ Hid (HasS wr hb (addGo v s k) y n a) ∧ w.grownBy wr (some hb))
            (fun i _ => 8 - (intOf i).toNat)
          case atStart => exact ⟨0, by omega, rfl, hV, hH, hg0⟩
          case round =>
            clear hV hH hg0 hg
            obtain ⟨k, hk, rfl, hV, hH, hg⟩ := hrel
            by_cases hlt : k < 8
            · have hl8 := hid ((addGo_len v s k).trans HS.out)
              have c1 := hV.out.cell k (by rw [hlv.out]; exact hlt)
              have c2 := hH.out.cellS hl8.out k hlt
              have f2 := hH.out.free k
              have l1 := hV.out.lt
              have l2 := hH.out.lt
              go_wp2_with fail
              (refine wp_region_ext_tail 13 (by kernel_rfl) (by kernel_rfl) ?_; simp only [List.take_succ_cons, List.take_zero, List.drop_succ_cons, List.drop_zero]; (repeat (go_big_quiet_step (first | fail))); refine wpQuiet_nil ?_; rintro _ ⟨xw, rfl⟩)
              go_wp2
              go_roundw
              case rel =>
                rw [iv_add]
                refine ⟨k + 1, by omega, by go_num, hid ((hV.out.ext _).other (by show B + 1 ≠ hb; omega) _), hid ?_, grownBy_setCell (grownBy_ext hg _) (.inl rfl) _⟩
                exact HasS.put (hH.out.below (wr.ext_below xw) hH.out.lt) k _ (shaC_setS _ _ _ _ _ _ (by rw [hl8.out]; exact hlt))
              case measure => simp [intOf]; omega
            · obtain rfl : k = 8 := by omega
              have f1 := hH.out.free 136
              have l2 := hH.out.lt
              have c1 := hH.out.cellN ((addGo_len v s 8).trans HS.out) HY.out
              go_wp2
              go_end0
              refine ⟨rfl, ?_, grownBy_setCell hg (.inl rfl) _⟩
              have h7 := HasS.put hH.out 136 (.int .i64 0) (shaC_setN _ _ n 0 a ((addGo_len v s 8).trans HS.out) HY.out)
              rw [HV.out, HBL.out] at h7
              exact h7
end Go.Proofs.Ytejnnghfelpioaa
namespace Go.Proofs.Ytejnnghfelpioaa
open Go.RowKit
def RdX (hb : Nat) (w : World) (v : Value) (ys : List (BitVec 8)) : Prop :=
  ∃ a cap, v = .slice a ys.length cap ∧ ys.length ≤ cap ∧ (ys ≠ [] → ∃ b off, a = some ⟨b, off, none⟩ ∧ b ≠ hb ∧ b < w.heap.size ∧ ∀ j, j < ys.length → w.cell? ⟨b, off + j, none⟩ = some (.int .u8 (yv (ny ys j))))
theorem RdX.of {hb : Nat} {w : World} {v : Value} {ys : List (BitVec 8)} (h : RdY w v ys) (hd : ∀ b off n c, v = .slice (some ⟨b, off, none⟩) n c → 0 < n → b ≠ hb) : RdX hb w v ys := by
  obtain ⟨a, cap, rfl, hc, h⟩ := h
  refine ⟨a, cap, rfl, hc, fun hx => ?_⟩
  obtain ⟨b, off, rfl, h2, h3⟩ := h hx
  exact ⟨b, off, rfl, hd _ _ _ _ rfl (by cases ys <;> simp_all), h2, h3⟩
theorem RdX.below {hb : Nat} {w w' : World} {v : Value} {ys : List (BitVec 8)} (h : RdX hb w v ys) (hg : Below w.heap.size w w') : RdX hb w' v ys := by
  obtain ⟨a, cap, rfl, hc, h⟩ := h
  refine ⟨a, cap, rfl, hc, fun hx => ?_⟩
  obtain ⟨b, off, rfl, h1, h2, h3⟩ := h hx
  exact ⟨b, off, rfl, h1, Nat.lt_of_lt_of_le h2 hg.size, fun j hj => by rw [hg.cell (p := ⟨b, off + j, none⟩) h2]; exact h3 j hj⟩
theorem RdX.kept {hb : Nat} {w w' : World} {v : Value} {ys : List (BitVec 8)} (h : RdX hb w v ys) (hg : w.grownBy w' (some hb)) : RdX hb w' v ys := by
  obtain ⟨a, cap, rfl, hc, h⟩ := h
  refine ⟨a, cap, rfl, hc, fun hx => ?_⟩
  obtain ⟨b, off, rfl, h1, h2, h3⟩ := h hx
  refine ⟨b, off, rfl, h1, Nat.lt_of_lt_of_le h2 hg.size, fun j hj => ?_⟩
  rw [← h3 j hj]
  unfold World.cell?
  rw [hg.block b h2 (by simpa using h1)]
theorem RdX.drop {hb : Nat} {w : World} {a : Option Addr} {g off L cap m : Nat} {ys : List (BitVec 8)} (h : RdX hb w (.slice (some ⟨g, off, none⟩) L cap) ys) (hm : m ≤ L) (ha : m < L → a = some ⟨g, off + m, none⟩) : RdX hb w (.slice a (L - m) (cap - m)) (ys.drop m) := by
  obtain ⟨a', cap', e, hc, h⟩ := h
  simp at e
  obtain ⟨rfl, rfl, rfl⟩ := e
  refine ⟨a, cap - m, by simp, by simp; omega, fun hx => ?_⟩
  have hlt : m < ys.length := by
    rcases Nat.lt_or_ge m ys.length with h' | h'
    · exact h'
    · exact absurd (List.drop_eq_nil_of_le h') hx
  obtain ⟨b, off', e2, h1, h2, h3⟩ := h (by intro e; subst e; simp at hlt)
  simp at e2
  obtain ⟨rfl, rfl⟩ := e2
  refine ⟨g, off + m, ha hlt, h1, h2, fun j hj => ?_⟩
  simp at hj
  rw [Nat.add_assoc, h3 (m + j) (by omega)]
  simp [ny, List.getD_eq_getElem?_getD]
theorem shaC_part (s : List (BitVec 64)) (y z : List (BitVec 8)) (n : Nat) (a : BitVec 64) (r : Nat) (hs : s.length = 8) (hy : y.length = 128) (hr : r + z.length ≤ 128) :
    setPart (shaC s y n a) (8 + r) (z.map fun x => Value.int .u8 (yv x)).toArray = shaC s (y.take r ++ z ++ y.drop (r + z.length)) n a := by
  unfold setPart shaC cellsB cellsY
  apply Array.ext'
  simp only [Array.toList_append, List.map_append, List.map_take, List.map_drop, List.size_toArray, List.length_map]
  generalize hA : s.map (fun x => Value.int .u64 (iv x)) = A
  generalize hB : y.map (fun x => Value.int .u8 (yv x)) = B
  generalize hZ : z.map (fun x => Value.int .u8 (yv x)) = Z
  have lA : A.length = 8 := by rw [← hA]; simpa using hs
  have lB : B.length = 128 := by rw [← hB]; simpa using hy
  have lZ : Z.length = z.length := by rw [← hZ]; simp
  rw [← lZ] at hr ⊢
  rw [List.take_append_of_le_length (by simp; omega), show List.take (8 + r) (A ++ B) = A ++ List.take r B from by rw [← lA, List.take_length_add_append],
    List.drop_append_of_le_length (by simp; omega), show List.drop (8 + r + Z.length) (A ++ B) = List.drop (r + Z.length) B from by rw [Nat.add_assoc, ← lA, List.drop_length_add_append]]
  simp
def stS (s : List (BitVec 64)) (T : List (BitVec 8)) (p : Nat) : List (BitVec 64) := absS s T (p / 128)
def AtS (w : World) (hb : Nat) (s : List (BitVec 64)) (T : List (BitVec 8)) (p : Nat) (a : BitVec 64) : Prop :=
  ∃ y, y.length = 128 ∧ HasS w hb (stS s T p) y (p % 128) a ∧ y.take (p % 128) = (T.drop (128 * (p / 128))).take (p % 128)
theorem stS_len (s : List (BitVec 64)) (T : List (BitVec 8)) (p : Nat) : (stS s T p).length = s.length := absS_len _ _ _
theorem buf_more (y T : List (BitVec 8)) (p m : Nat) (hy : y.length = 128) (hm : p % 128 + m ≤ 128) (hT : p + m ≤ T.length) (h : y.take (p % 128) = (T.drop (128 * (p / 128))).take (p % 128)) :
    (y.take (p % 128) ++ (T.drop p).take m ++ y.drop (p % 128 + m)).take (p % 128 + m) = (T.drop (128 * (p / 128))).take (p % 128 + m) := by
  have hp : 128 * (p / 128) + p % 128 = p := Nat.div_add_mod p 128
  have e1 : (y.take (p % 128) ++ (T.drop p).take m).length = p % 128 + m := by simp; omega
  rw [List.take_left' e1, h, List.take_add, List.drop_drop, hp]
theorem sY1 : (Try.prog.info? 5).map (·.size) = some 1 := by kernel_rfl
theorem uSY2 : Try.prog.underlying 22 = some (.slice 5) := by kernel_rfl
theorem slRest (hb r : Nat) (hr : r < 128) (w : World) : (Instr.sliceAt 110 (.pointer (some ⟨hb, 8, none⟩)) (some (.int .i64 (r : Int))) none none).run Try.prog w = .ok (.slice (some ⟨hb, 8 + r, none⟩) (128 - r) (128 - r)) w := by
  have hl : Try.prog.arrayLen 110 = 128 := by kernel_rfl
  have he : Try.prog.elem 110 = 5 := by kernel_rfl
  have hu : Try.prog.underlying 110 = some (.array (Try.prog.arrayLen 110) (Try.prog.elem 110)) := by kernel_rfl
  obtain ⟨i, hi⟩ : ∃ i, Try.prog.info? 5 = some i := ⟨_, rfl⟩
  have hs : Try.prog.cellsOf 5 = 1 := by kernel_rfl
  rw [run_sliceAt_array_l w _ _ hu .i64 (r : Int) (by omega) (by rw [hl]; omega), hl, he, run_sizeOf w hi, hs]
  have : ¬ 128 = r := by omega
  simp [slicedAt, this, Addr.add]
set_option maxRecDepth 20000 in
set_option maxHeartbeats 1000000 in
theorem swrite_any (hb : Nat) (s : List (BitVec 64)) (T : List (BitVec 8)) (p : Nat) (a : BitVec 64) (v : Value) (w : World) (hs : s.length = 8) (hp : p ≤ T.length) (hH : AtS w hb s T p a) (hr : RdX hb w v (T.drop p)) (hl : T.length ≤ 140737488355328) :
    Calls Try.prog 50 #[.pointer (some ⟨hb, 0, none⟩), v] w fun e w' => e = .returned (.tuple #[]) ∧ AtS w' hb s T T.length (a + BitVec.ofNat 64 (T.length - p)) ∧ w.grownBy w' (some hb) := by
  obtain ⟨y, hy, hH, hyt⟩ := hH
  have HS := hid hs
  have HY := hid hy
  have HYT := hid hyt
  have HH := hid hH
  have HR := hid hr
  have hbl := hH.lt
  have ls : (stS s T p).length = 8 := (stS_len s T p).trans hs
  have c1 := hH.cellA ls hy
  have f1 := hH.free 137
  have HLS := hid ls
  obtain ⟨va, vc, rfl, hvc, -⟩ := hr
  have hdl : (T.drop p).length = T.length - p := by simp
  rw [hdl] at hvc HR ⊢
  clear hH hy hyt hs ls hdl
  go_enter Try.func50, Try.ntmps50
  go_wp2_with fail
  have hA : Hid (a + BitVec.ofNat 64 (T.length - p) = a + BitVec.ofNat 64 (T.length - p)) := hid rfl
  have hea : IntKind.u64.wrap (iv a + ((T.length - p : Nat) : Int)) = iv (a + BitVec.ofNat 64 (T.length - p)) := by
    rw [← iv_add, iv_ofNat _ (by omega)]
  rw [hea]
  obtain ⟨a2, ha2⟩ : ∃ x, x = a + BitVec.ofNat 64 (T.length - p) := ⟨_, rfl⟩
  rw [← ha2]
  have HA2 := hid ha2
  clear hA hea
  have hat : AtS (w.setCell ⟨hb, 137, none⟩ (.int .u64 (iv a2))) hb s T p a2 := ⟨y, HY.out, HasS.put HH.out 137 _ (shaC_setA _ _ _ _ _ HLS.out HY.out), HYT.out⟩
  have hg : w.grownBy (w.setCell ⟨hb, 137, none⟩ (.int .u64 (iv a2))) (some hb) := grownBy_setCell (grownBy_refl _ _) (.inl rfl) _
  have hrd := HR.out.kept hg
  have HAT := hid hat
  have HRD := hid hrd
  generalize w.setCell ⟨hb, 137, none⟩ (.int .u64 (iv a2)) = w1 at HAT HRD hg ⊢
  clear hat hrd HR HYT HH HLS HY c1 f1 ha2 y
  go_loopw [1] (fun vv wr => ∃ q : Nat, p ≤ q ∧ q ≤ T.length ∧ Hid (AtS wr hb s T q a2) ∧ Hid (RdX hb wr vv (T.drop q)) ∧ w.grownBy wr (some hb))
    (fun vv _ => match vv with | .slice _ n _ => n | _ => 0)
  case atStart => exact ⟨p, Nat.le_refl _, hp, HAT, HRD, hg⟩
  case round =>
    clear HAT HRD hg hvc
    obtain ⟨q, hpq, hq, hAt, hRd, hg⟩ := hrel
    have HR2 := hid hRd.out
    obtain ⟨ra, rc, rfl, hrc, hrx⟩ := hRd.out
    have hdl : (T.drop q).length = T.length - q := by simp
    rw [hdl] at hrc HR2 hrx ⊢
    have HX := hid hrx
    clear hdl hrx hRd
    by_cases hlt : q < T.length
    · obtain ⟨g, off, rfl, hgb, hgl, hcell⟩ := HX.out (by intro e; have := congrArg List.length e; simp at this; omega)
      have HCELL := hid hcell
      obtain ⟨y, hy, hH, hyt⟩ := hAt.out
      have ls := hid ((stS_len s T q).trans HS.out)
      have HH := hid hH
      have HY := hid hy
      have HYT := hid hyt
      have hbl2 := hH.lt
      have c1 := hH.cellN ls.out hy
      have f1 := hH.free
      have hr0 : q % 128 < 128 := Nat.mod_lt _ (by omega)
      obtain ⟨r, hr⟩ : ∃ r, r = q % 128 := ⟨_, rfl⟩
      rw [← hr] at c1 hr0 HH HYT
      have HRR := hid hr
      clear hcell hAt hy hH hyt hr HX
      go_wp2_with fail
      have hsl := slRest hb r hr0
      (refine wp_region_ext_tail 9 (by kernel_rfl) (by kernel_rfl) ?_; simp only [List.take_succ_cons, List.take_zero, List.drop_succ_cons, List.drop_zero]; (repeat (go_big_quiet_step (first | fail))); refine wpQuiet_nil ?_; rintro _ ⟨xw, rfl⟩)
      have hX : HasS (wr.ext xw) hb (stS s T q) y r a2 := HH.out.below (wr.ext_below xw) hbl2
      obtain ⟨m, hm⟩ : ∃ m, m = Nat.min (T.length - q) (128 - r) := ⟨_, rfl⟩
      have hm1 : m ≤ T.length - q := by rw [hm]; exact Nat.min_le_left _ _
      have hm2 : m ≤ 128 - r := by rw [hm]; exact Nat.min_le_right _ _
      have hm3 : m = T.length - q ∨ m = 128 - r := by
        rw [hm]; rcases Nat.le_total (T.length - q) (128 - r) with h | h
        · exact .inl (Nat.min_eq_left h)
        · exact .inr (Nat.min_eq_right h)
      have hzl : ((T.drop q).take m).length = m := by simp; omega
      have hcl : (((T.drop q).take m).map fun x => Value.int .u8 (yv x)).length = m := by rw [List.length_map, hzl]
      refine wpList_copy_row rfl (.tmp 27) (.tmp 28) 22 22 rfl 5 hb (8 + r) (128 - r) (128 - r) rfl ⟨g, off, none⟩ (T.length - q) rc rfl _ _ (((T.drop q).take m).map fun x => Value.int .u8 (yv x)) uSY2 sY1 hX (by rw [hcl, hm]) ?_ (by rw [hcl, shaC_size _ _ _ _ ls.out HY.out]; omega) ?_ ?_
      · intro j u hu
        have hj : j < m := by
          rcases Nat.lt_or_ge j m with h | h
          · exact h
          · rw [List.getElem?_eq_none (by rw [hcl]; exact h)] at hu; cases hu
        have h1 := HCELL.out j (by omega)
        have h2 : (wr.ext xw).cell? ⟨g, off + j, none⟩ = wr.cell? ⟨g, off + j, none⟩ := wr.cell?_ext xw g _ hgl
        rw [show (⟨g, off, none⟩ : Addr).add j = ⟨g, off + j, none⟩ from by unfold Addr.add; split <;> simp_all, h2, h1, ← hu]
        simp [ny, hj, List.getElem?_take, List.getD_eq_getElem?_getD, show q + j < T.length by omega]
      · intro u hu
        obtain ⟨x, _, rfl⟩ := List.mem_map.1 hu
        rfl
      rw [hcl, shaC_part _ _ _ _ _ _ ls.out HY.out (by rw [hzl]; omega), hzl]
      have hY2 : (y.take r ++ (T.drop q).take m ++ y.drop (r + m)).length = 128 := by
        have := HY.out
        simp; omega
      have hT2 : (y.take r ++ (T.drop q).take m ++ y.drop (r + m)).take (r + m) = (T.drop (128 * (q / 128))).take (r + m) := by
        have h7 := HYT.out
        rw [HRR.out] at h7 hm2 ⊢
        exact buf_more y T q m HY.out (by omega) (by omega) h7
      have hX2 : HasS ((wr.ext xw).setRow hb (shaC (stS s T q) (y.take r ++ (T.drop q).take m ++ y.drop (r + m)) r a2)) hb (stS s T q) (y.take r ++ (T.drop q).take m ++ y.drop (r + m)) r a2 := heap_setRow _ _ _ _ _ hX
      have hg2 : w.grownBy ((wr.ext xw).setRow hb (shaC (stS s T q) (y.take r ++ (T.drop q).take m ++ y.drop (r + m)) r a2)) (some hb) := grownBy_setRow (grownBy_ext hg xw) (.inl rfl) _
      have hgR : wr.grownBy ((wr.ext xw).setRow hb (shaC (stS s T q) (y.take r ++ (T.drop q).take m ++ y.drop (r + m)) r a2)) (some hb) := grownBy_setRow (grownBy_ext (grownBy_refl _ _) xw) (.inl rfl) _
      have hR3 := HR2.out.kept hgR
      generalize (wr.ext xw).setRow hb (shaC (stS s T q) (y.take r ++ (T.drop q).take m ++ y.drop (r + m)) r a2) = w3 at hX2 hg2 hR3 ⊢
      obtain ⟨y2, hy2⟩ : ∃ y2, y2 = y.take r ++ (T.drop q).take m ++ y.drop (r + m) := ⟨_, rfl⟩
      rw [← hy2] at hX2 hY2 hT2
      clear hy2 hX hgR hcl hzl hg HR2 HCELL hsl c1 f1
      have HX2 := hid hX2
      have HY2 := hid hY2
      have HT2 := hid hT2
      have HR3 := hid hR3
      have c1 := hX2.cellN ls.out hY2
      have f1 := hX2.free
      have l1 := hX2.lt
      clear hX2 hY2 hT2 hR3 hm hgb hgl
      simp only [goInt]
      have hqm : (T.drop q).drop m = T.drop (q + m) := List.drop_drop ..
      have HQM := hid hqm
      clear hqm
      by_cases hcm : rc = m
      all_goals
        have hdr : ∀ W, RdX hb W (.slice (some ⟨g, off, none⟩) (T.length - q) rc) (T.drop q) → RdX hb W (.slice (some ⟨g, if rc = m then off else off + m, none⟩) (T.length - q - m) (if rc = m then 0 else rc - m)) (T.drop (q + m)) := fun W h => by
          rw [← HQM.out, show (if rc = m then 0 else rc - m) = rc - m from by split <;> omega]; exact h.drop hm1 (fun h => by rw [if_neg (by omega)])
        first | simp only [if_pos hcm] at hdr | simp only [if_neg hcm] at hdr
        have HDR := hid hdr
        clear hdr
        by_cases hfull : r + m = 128
        · have hv : ((r : Int) + (m : Int)) = ((128 : Nat) : Int) := by omega
          have hB : HasS (w3.setCell ⟨hb, 136, none⟩ (.int .i64 ((r : Int) + (m : Int)))) hb (stS s T q) y2 128 a2 := HasS.put HX2.out 136 _ (by rw [hv]; exact shaC_setN _ _ _ _ _ ls.out HY2.out)
          have hgB := hid (grownBy_setCell (grownBy_refl w3 (some hb)) (p := ⟨hb, 136, none⟩) (.inl rfl) (.int .i64 ((r : Int) + (m : Int))))
          have HB := hid hB
          have HV := hid hv
          clear hv hB
          go_wp2_with (go_at_call 76; (with_reducible refine (block_any _ _ _ _ _ _ ls.out HY2.out HB.out).mono ?_); rintro e w4 ⟨rfl, hH4, hg4⟩)
          have hgw := grownBy_trans hgB.out hg4
          have hq1 : (q + m) / 128 = q / 128 + 1 := by have := HRR.out; omega
          have hq2 : (q + m) % 128 = 0 := by have := HRR.out; omega
          have hch : y2 = chunkS T (q / 128) := by
            have h8 := HT2.out
            rw [hfull, List.take_of_length_le (by rw [HY2.out]; exact Nat.le_refl _)] at h8
            exact h8
          have hst : stS s T (q + m) = blockL (stS s T q) y2 := by unfold stS; rw [hq1, hch]; rfl
          go_roundw
          case rel =>
            refine ⟨q + m, by omega, by omega, hid ⟨y2, HY2.out, ?_, ?_⟩, hid (HDR.out _ (HR3.out.kept hgw)), grownBy_trans hg2 hgw⟩
            · rw [hst, hq2]; exact hH4
            · rw [hq2]; simp
          case measure => simp; omega
        · have hv : ((r : Int) + (m : Int)) = ((r + m : Nat) : Int) := by omega
          have hB : HasS (w3.setCell ⟨hb, 136, none⟩ (.int .i64 ((r : Int) + (m : Int)))) hb (stS s T q) y2 (r + m) a2 := HasS.put HX2.out 136 _ (by rw [hv]; exact shaC_setN _ _ _ _ _ ls.out HY2.out)
          have hgB := grownBy_setCell (grownBy_refl w3 (some hb)) (p := ⟨hb, 136, none⟩) (.inl rfl) (.int .i64 ((r : Int) + (m : Int)))
          have HB := hid hB
          have HGB := hid hgB
          have hne : ¬ ((r : Int) + (m : Int) = 128) := by omega
          clear hB hv hgB
          go_wp2
          have hq1 : (q + m) / 128 = q / 128 := by have := HRR.out; omega
          have hq2 : (q + m) % 128 = r + m := by have := HRR.out; omega
          have hst : stS s T (q + m) = stS s T q := by unfold stS; rw [hq1]
          go_roundw
          case rel =>
            refine ⟨q + m, by omega, by omega, hid ⟨y2, HY2.out, ?_, ?_⟩, hid (HDR.out _ (HR3.out.kept HGB.out)), grownBy_trans hg2 HGB.out⟩
            · rw [hst, hq2]; exact HB.out
            · rw [hq2, hq1]; exact HT2.out
          case measure => simp; omega
    · obtain rfl : q = T.length := by omega
      have e0 : T.length - T.length = 0 := by omega
      rw [e0] at *
      go_wp2
      go_end0
      exact ⟨rfl, by rw [← HA2.out]; exact hAt.out, hg⟩
end Go.Proofs.Ytejnnghfelpioaa
namespace Go
open Go.RowKit
theorem wpList_built {P : Program} {ops : Array Oper} {rest : List Oper} {o : Oper} {a : Act} {w : World} {Q : Exit → Act → World → Prop} (hg : o.guard = none) (t : TypeId) (parts : Array (Nat × Operand)) (ho : o.op = .build t parts) (cs : Array Value)
    (hb : P.built t (parts.map fun (i, x) => (i, a.eval x)).toList = some cs) (h : wpList P ops Q rest (a.put o.dst (.agg cs)) w) : wpList P ops Q (o :: rest) a w :=
  wpList_build hg t parts ho (by rw [hb]; rfl) (by rw [hb]; exact h)
end Go
namespace Go.Proofs.Ytejnnghfelpioaa
open Go.RowKit
theorem ny_set (xs : List (BitVec 8)) (i j : Nat) (x : BitVec 8) (h : i < xs.length) : ny (xs.set i x) j = if i = j then x else ny xs j := by
  unfold ny
  simp only [List.getD_eq_getElem?_getD, List.getElem?_set]
  split <;> simp_all
theorem ny_ext {xs ys : List (BitVec 8)} (hl : xs.length = ys.length) (h : ∀ j, j < xs.length → ny xs j = ny ys j) : xs = ys := by
  apply List.ext_getElem hl
  intro j h1 h2
  have := h j h1
  simpa [ny, List.getD_eq_getElem?_getD, h1, h2] using this
def zY (n : Nat) : List (BitVec 8) := List.replicate n 0
theorem zY_len (n : Nat) : (zY n).length = n := by simp [zY]
theorem ny_zY (n j : Nat) : ny (zY n) j = 0 := by
  unfold ny zY
  rw [List.getD_eq_getElem?_getD, List.getElem?_replicate]
  split <;> rfl
def tlGo (n pad : Nat) : Nat → List (BitVec 8)
  | 0 => (zY 256).set 0 128
  | i + 1 => (tlGo n pad i).set (pad - 1 - i) (((BitVec.ofNat 64 n <<< 3) >>> (8 * i)).setWidth 8)
theorem tlGo_len (n pad i : Nat) : (tlGo n pad i).length = 256 := by
  induction i with
  | zero => unfold tlGo; rw [List.length_set, zY_len]
  | succ i ih => unfold tlGo; rw [List.length_set, ih]
theorem ny_rep (n j : Nat) : ny (List.replicate n 0) j = 0 := by
  unfold ny
  rw [List.getD_eq_getElem?_getD, List.getElem?_replicate]
  split <;> rfl
theorem tlGo_at (n pad : Nat) (h1 : 9 ≤ pad) (h2 : pad ≤ 256) (i : Nat) (hi : i ≤ 8) (j : Nat) :
    ny (tlGo n pad i) j = if j = 0 then (128 : BitVec 8) else if pad - i ≤ j ∧ j < pad then ((BitVec.ofNat 64 n <<< 3) >>> (8 * (pad - 1 - j))).setWidth 8 else 0 := by
  induction i with
  | zero =>
    unfold tlGo
    rw [ny_set _ _ _ _ (by rw [zY_len]; omega), ny_zY]
    by_cases h0 : j = 0
    · subst h0; simp
    · rw [if_neg (fun e => h0 e.symm), if_neg h0, if_neg (by omega)]
  | succ i ih =>
    unfold tlGo
    rw [ny_set _ _ _ _ (by rw [tlGo_len]; omega), ih (by omega)]
    by_cases h0 : pad - 1 - i = j
    · subst h0
      rw [if_pos rfl, if_neg (by omega), if_pos (by omega)]
      congr 2
      omega
    · rw [if_neg h0]
      by_cases hj : j = 0
      · rw [if_pos hj, if_pos hj]
      · rw [if_neg hj, if_neg hj]
        by_cases h3 : pad - i ≤ j ∧ j < pad
        · rw [if_pos h3, if_pos (by omega)]
        · rw [if_neg h3, if_neg (by omega)]
theorem ny_cons (x : BitVec 8) (xs : List (BitVec 8)) (j : Nat) : ny (x :: xs) j = if j = 0 then x else ny xs (j - 1) := by
  cases j <;> simp [ny]
theorem ny_app (xs ys : List (BitVec 8)) (j : Nat) : ny (xs ++ ys) j = if j < xs.length then ny xs j else ny ys (j - xs.length) := by
  unfold ny
  simp only [List.getD_eq_getElem?_getD, List.getElem?_append]
  split <;> rfl
theorem lenY_at (n j : Nat) (h : j < 16) : ny (lenY n) j = BitVec.ofNat 8 (8 * n / 2 ^ (8 * (15 - j))) := by
  unfold ny lenY
  simp [List.getD_eq_getElem?_getD, h]
theorem byte_at (n k : Nat) (hn : 8 * n < 18446744073709551616) : ((BitVec.ofNat 64 n <<< 3) >>> (8 * k)).setWidth 8 = BitVec.ofNat 8 (8 * n / 2 ^ (8 * k)) := by
  apply BitVec.eq_of_toNat_eq
  simp only [BitVec.toNat_setWidth, BitVec.toNat_ushiftRight, BitVec.toNat_shiftLeft, BitVec.toNat_ofNat, Nat.shiftRight_eq_div_pow, Nat.shiftLeft_eq]
  rw [Nat.mod_eq_of_lt (by omega : n < 2 ^ 64), Nat.mod_eq_of_lt (by omega : n * 2 ^ 3 < 2 ^ 64), show n * 2 ^ 3 = 8 * n by omega]
def padW (n : Nat) : Nat := 17 + padZ n
theorem tail_eq (n : Nat) (hn : 8 * n < 18446744073709551616) : (tlGo n (padW n) 8).take (padW n) = tailS n := by
  have hp : padW n ≤ 256 := by unfold padW padZ; omega
  have hp2 : 17 ≤ padW n := by unfold padW; omega
  apply ny_ext
  · simp [tlGo_len, tailS, lenY, padW] at hp ⊢; omega
  · intro j hj
    have hj2 : j < padW n := by simp at hj; omega
    rw [show ny ((tlGo n (padW n) 8).take (padW n)) j = ny (tlGo n (padW n) 8) j from by simp [ny, List.getD_eq_getElem?_getD, List.getElem?_take, hj2],
      tlGo_at n _ (by omega) hp 8 (by omega)]
    unfold tailS
    rw [ny_cons]
    by_cases h0 : j = 0
    · rw [if_pos h0, if_pos h0]; rfl
    · rw [if_neg h0, if_neg h0, ny_app, ny_rep, List.length_replicate]
      have hpz : padW n = 17 + padZ n := rfl
      by_cases h1 : j - 1 < padZ n
      · rw [if_pos h1, if_neg (by omega)]
      · rw [if_neg h1, lenY_at _ _ (by omega)]
        by_cases h2 : padW n - 8 ≤ j
        · rw [if_pos ⟨h2, hj2⟩, byte_at n _ hn]
          congr 4
          omega
        · rw [if_neg (by omega)]
          have : 8 * n / 2 ^ (8 * (15 - (j - 1 - padZ n))) = 0 := by
            apply Nat.div_eq_of_lt
            refine Nat.lt_of_lt_of_le hn ?_
            rw [show 18446744073709551616 = 2 ^ 64 from rfl]
            exact Nat.pow_le_pow_right (by omega) (by omega)
          rw [this]; rfl
theorem AtS.more {w : World} {hb : Nat} {s : List (BitVec 64)} {T : List (BitVec 8)} {a : BitVec 64} (h : AtS w hb s T T.length a) (U : List (BitVec 8)) : AtS w hb s (T ++ U) T.length a := by
  obtain ⟨y, h1, h2, h3⟩ := h
  have hch : ∀ k, k ≤ T.length / 128 → absS s (T ++ U) k = absS s T k := by
    intro k
    induction k with
    | zero => intro _; rfl
    | succ k ih =>
      intro hk
      unfold absS
      rw [ih (by omega)]
      congr 1
      unfold chunkS
      rw [List.drop_append_of_le_length (by omega), List.take_append_of_le_length (by simp; omega)]
  refine ⟨y, h1, ?_, ?_⟩
  · unfold stS at *
    rw [hch _ (Nat.le_refl _)]; exact h2
  · rw [List.drop_append_of_le_length (by omega), List.take_append_of_le_length (by simp; omega)]; exact h3
theorem heap_new (w : World) (o : Obj) : (w.alloc o).heap[w.heap.size]? = some o := by
  show (w.heap.push _)[w.heap.size]? = _
  simp
def zero128 : List (BitVec 8) := List.replicate 128 0
theorem built80 : Try.prog.built 112 [(0, .agg (cellsB shaH))] = some (shaC shaH zero128 0 0) := by kernel_rfl
theorem snew_any (w : World) : Calls Try.prog 49 #[] w fun e w' => ∃ b, e = .returned (.pointer (some ⟨b, 0, none⟩)) ∧ w.heap.size ≤ b ∧ HasS w' b shaH zero128 0 0 ∧ Below w.heap.size w w' := by
  have hbu := hid built80
  have hsq := hid (fun w => squares_any w)
  have hH : Hid (∃ c, c = cellsB shaH) := hid ⟨_, rfl⟩
  have hS : Hid (∃ c, c = shaC shaH zero128 0 0) := hid ⟨_, rfl⟩
  obtain ⟨ch, hch⟩ := hH.out
  obtain ⟨cs, hcs⟩ := hS.out
  rw [← hch] at hsq hbu
  rw [← hcs] at hbu
  have HCS := hid hcs
  clear hch hcs hH hS
  go_enter Try.func49, Try.ntmps49
  go_wp2_with fail
  refine (hsq.out _).mono ?_
  rintro e w1 ⟨rfl, hb1⟩
  go_wp2_with (refine wpList_built rfl 112 _ rfl cs (by simp only [List.map_toArray, List.map_cons, List.map_nil]; exact hbu.out) ?_; simp only [Act.put, pvA, pv0, pv1])
  go_ret
  refine ⟨_, rfl, hb1.size, ?_, hb1.alloc hb1.size _⟩
  rw [HCS.out]
  show (w1.heap.push _)[w1.heap.size]? = _
  simp
theorem u64h : Try.prog.underlying 32 = some (.array 64 5) := by kernel_rfl
theorem i64h : (Try.prog.info? 32).map (·.size) = some 64 := by kernel_rfl
theorem zi64 : (Try.prog.info? 32).bind (·.zero) = some (.agg (cellsY (zY 64))) := by kernel_rfl
theorem zi256 : (Try.prog.info? 113).bind (·.zero) = some (.agg (cellsY (zY 256))) := by kernel_rfl
theorem zi80 : (Try.prog.info? 112).bind (·.zero) = some (.agg (shaC (zeroB 8) zero128 0 0)) := by kernel_rfl
theorem iHs : (Try.prog.info? 112).map (·.size) = some 138 := by kernel_rfl
theorem uHs : ∃ l, Try.prog.underlying 112 = some (.struct l) := ⟨_, rfl⟩
theorem one_shaC (s : List (BitVec 64)) (y : List (BitVec 8)) (n : Nat) (a : BitVec 64) : (shaC s y n a).all (·.oneCell') = true := by
  unfold shaC
  rw [Array.all_append, Array.all_append, one_cellsB, one_cellsY]
  simp [Value.oneCell']
theorem slTo256 (b p : Nat) (hp : p ≤ 256) (w : World) : (Instr.sliceAt 113 (.pointer (some ⟨b, 0, none⟩)) none (some (.int .i64 (p : Int))) none).run Try.prog w = .ok (.slice (some ⟨b, 0, none⟩) p 256) w := by
  have hl : Try.prog.arrayLen 113 = 256 := by kernel_rfl
  have he : Try.prog.elem 113 = 5 := by kernel_rfl
  have hu : Try.prog.underlying 113 = some (.array (Try.prog.arrayLen 113) (Try.prog.elem 113)) := by kernel_rfl
  obtain ⟨i, hi⟩ : ∃ i, Try.prog.info? 5 = some i := ⟨_, rfl⟩
  have hs : Try.prog.cellsOf 5 = 1 := by kernel_rfl
  rw [run_sliceAt_array_h w _ _ hu .i64 (p : Int) (by omega) (by rw [hl]; omega), hl, he, run_sizeOf w hi, hs]
  simp [slicedAt, Addr.add]
theorem yv_or' (x y : BitVec 8) : bits .or .u8 (yv x) (yv y) = yv (x ||| y) := by
  unfold yv; rw [u8_or_nat _ _ x.isLt y.isLt, BitVec.toNat_or]
theorem iv_byte2 (x : BitVec 64) : iv x % 256 = yv (x.setWidth 8) := by
  unfold yv iv; rw [BitVec.toNat_setWidth]; omega
set_option maxRecDepth 20000 in
set_option maxHeartbeats 2000000 in
theorem shsum_any (hb : Nat) (s : List (BitVec 64)) (T : List (BitVec 8)) (w : World) (hs : s.length = 8) (hH : AtS w hb s T T.length (BitVec.ofNat 64 T.length)) (hl : T.length ≤ 140737488351360) :
    Calls Try.prog 51 #[.pointer (some ⟨hb, 0, none⟩)] w fun e w' => e = .returned (.agg (cellsY (outS (absS s (padS T) ((padS T).length / 128)) 64))) ∧ Below w.heap.size w w' := by
  obtain ⟨y, hy, hH, hyt⟩ := hH
  have hbl := hH.lt
  have ls : (stS s T T.length).length = 8 := (stS_len s T _).trans hs
  have HS := hid hs
  have HY := hid hy
  have HYT := hid hyt
  have HH := hid hH
  have HLS := hid ls
  have cA := hH.cellA ls hy
  have cN := hH.cellN ls hy
  obtain ⟨n, hn⟩ : ∃ n, n = T.length % 128 := ⟨_, rfl⟩
  obtain ⟨a, ha⟩ : ∃ a, a = BitVec.ofNat 64 T.length := ⟨_, rfl⟩
  obtain ⟨s1, hs1⟩ : ∃ s1, s1 = stS s T T.length := ⟨_, rfl⟩
  rw [← hn, ← ha, ← hs1] at HH
  rw [← hn] at cN HYT
  rw [← ha] at cA
  rw [← hs1] at HLS
  have iH := hid (show (Try.prog.info? 112).map (·.size) = some (shaC s1 y n a).size by rw [shaC_size _ _ _ _ HLS.out hy]; exact iHs)
  have zH := hid (show (shaC (zeroB 8) zero128 0 0).size = (shaC s1 y n a).size by rw [shaC_size _ _ _ _ HLS.out hy]; rfl)
  have oH := hid (one_shaC s1 y n a)
  obtain ⟨fl, hfl⟩ := uHs
  have HFL := hid hfl
  have HN := hid hn
  have HA := hid ha
  have HS1 := hid hs1
  have hn128 : n < 128 := by omega
  clear hfl hs hy hH hyt ls hn ha hs1
  obtain ⟨pad, hpad⟩ : ∃ pad, pad = padW T.length := ⟨_, rfl⟩
  have hpc : (n ≤ 111 ∧ 128 - (n : Int) = (pad : Int)) ∨ (112 ≤ n ∧ 128 - (n : Int) + 128 = (pad : Int)) := by
    have := HN.out
    unfold padW padZ at hpad
    omega
  have hp1 : 17 ≤ pad := by rw [hpad]; unfold padW; omega
  have hp2 : pad ≤ 256 := by rw [hpad]; unfold padW padZ; omega
  have HPAD := hid hpad
  clear hpad
  have l1 : hb < w.heap.size + 1 := by omega
  have l2 : hb < w.heap.size + 2 := by omega
  have z0 : (cellsY (zY 256))[0]? = some (.int .u8 0) := by
    unfold cellsY zY
    rw [List.map_replicate, List.getElem?_toArray, List.getElem?_replicate]
    rfl
  go_enter Try.func51, Try.ntmps51
  rcases hpc with ⟨hn1, hpe⟩ | ⟨hn1, hpe⟩
  all_goals
    go_wp2_with (first | (refine wpList_alloc_new rfl 32 rfl (cellsY (zY 64)) zi64 ?_; simp only [Act.put, pvA, pv0, pv1]) | (refine wpList_load_row rfl 112 (.tmp 13) rfl hb rfl 112 _ (0, 0) _ ((Below.heap_alloc _ _ _ hbl).trans HH.out) HFL.out rfl iH.out ?_; simp only [Act.put, pvA, pv0, pv1]) | (refine wpList_allocStore 112 14 3 (shaC s1 y n a) _ rfl rfl rfl rfl rfl rfl (by decide) (by simp) rfl zi80 zH.out iH.out oH.out ?_; simp only [Act.put, pvA, pv0, pv1]) | (refine wpList_alloc_new rfl 113 rfl (cellsY (zY 256)) zi256 ?_; simp only [Act.put, pvA, pv0, pv1]))
    clear hpe hn1 z0 cN cA zH iH oH
    obtain ⟨wA, hwA⟩ : ∃ wA, wA = ((w.alloc (.cells (cellsY (zY 64)) 32)).alloc (.cells (shaC s1 y n a) 112)).alloc (.cells ((cellsY (zY 256)).setIfInBounds 0 (.int .u8 128)) 113) := ⟨_, rfl⟩
    have hO : Hid (ArrY 32 wA w.heap.size (zY 64)) := hid (by rw [hwA]; exact ((ArrY.new _ w _).alloc _).alloc _)
    have hE : Hid (HasS wA (w.heap.size + 1) s1 y n a) := hid (by
      rw [hwA]
      refine (Below.heap_alloc _ _ _ (by simp)).trans ?_
      have := heap_new (w.alloc (.cells (cellsY (zY 64)) 32)) (.cells (shaC s1 y n a) 112)
      rw [World.size_alloc] at this; exact this)
    have hT : Hid (ArrY 113 wA (w.heap.size + 2) (tlGo T.length pad 0)) := hid (by
      rw [hwA, show (cellsY (zY 256)).setIfInBounds 0 (.int .u8 128) = cellsY (tlGo T.length pad 0) from by
        unfold tlGo
        generalize zY 256 = z
        simp [cellsY, List.map_set]; rfl]
      have := ArrY.new 113 ((w.alloc (.cells (cellsY (zY 64)) 32)).alloc (.cells (shaC s1 y n a) 112)) (tlGo T.length pad 0)
      rw [World.size_alloc, World.size_alloc] at this; exact this)
    have hB : Below w.heap.size w wA := by rw [hwA]; exact (((Below.refl _ _).alloc (Nat.le_refl _) _).alloc (by simp) _).alloc (by simp; omega) _
    rw [← hwA]
    clear hwA
    go_loopw [29] (fun i wr => ∃ k : Nat, k ≤ 8 ∧ i = .int .i64 k ∧ Hid (ArrY 32 wr w.heap.size (zY 64)) ∧ Hid (HasS wr (w.heap.size + 1) s1 y n a) ∧ Hid (ArrY 113 wr (w.heap.size + 2) (tlGo T.length pad k)) ∧ Below w.heap.size w wr)
      (fun i _ => 8 - (intOf i).toNat)
    case atStart => exact ⟨0, by omega, rfl, hO, hE, hT, hB⟩
    case round =>
      clear hO hE hT hB
      clear wA
      obtain ⟨k, hk, rfl, hO, hE, hT, hB⟩ := hrel
      by_cases hlt : k < 8
      · have e1 : ((pad : Int) - 1 - (k : Int)) = ((pad - 1 - k : Nat) : Int) := by omega
        have e2 : ((pad : Int) - 1 - (k : Int)).toNat = pad - 1 - k := by omega
        have e3 : (0 : Int) ≤ (pad : Int) - 1 - (k : Int) := by omega
        have e4 : (pad : Int) - 1 - (k : Int) < 256 := by omega
        have c1 := hT.out.cell (pad - 1 - k) (by rw [tlGo_len]; omega)
        have f1 := hT.out.free (pad - 1 - k)
        have l3 := hT.out.lt
        have n1 := iv_nonneg a
        clear e1
        go_wp2
        go_roundw
        case rel =>
          refine ⟨k + 1, by omega, by go_num, hid (hO.out.other (by show w.heap.size ≠ w.heap.size + 2; omega) _), hid (hE.out.other (by show w.heap.size + 1 ≠ w.heap.size + 2; omega) _), hid ?_, hB.setCell (p := ⟨w.heap.size + 2, pad - 1 - k, none⟩) (by show w.heap.size ≤ w.heap.size + 2; omega) _⟩
          rw [show iv a * 8 = iv a * 2 ^ 3 from rfl, iv_shl, iv_shr, iv_byte2, HA.out]
          exact hT.out.set _ _
        case measure => simp [intOf]; omega
      · obtain rfl : k = 8 := by omega
        clear hlt hk
        have hv : (nb [a] 0 >>> 61).setWidth 8 = (0 : BitVec 8) := by
          show (a >>> 61).setWidth 8 = 0
          rw [HA.out]
          apply BitVec.eq_of_toNat_eq
          simp only [BitVec.toNat_setWidth, BitVec.toNat_ushiftRight, BitVec.toNat_ofNat, Nat.shiftRight_eq_div_pow]
          rw [Nat.mod_eq_of_lt (by omega : T.length < 2 ^ 64), Nat.div_eq_of_lt (by omega)]
          rfl
        have HV := hid (show (a >>> 61).setWidth 8 = (0 : BitVec 8) from hv)
        have e2 : ((pad : Int) - 9).toNat = pad - 9 := by omega
        have e3 : (0 : Int) ≤ (pad : Int) - 9 := by omega
        have e4 : (pad : Int) - 9 < 256 := by omega
        have c1 := hT.out.cell (pad - 9) (by rw [tlGo_len]; omega)
        have f1 := hT.out.free (pad - 9)
        have l3 := hT.out.lt
        have n1 := iv_nonneg a
        have hsl := slTo256 (w.heap.size + 2) pad hp2
        have hZ : Hid ((tlGo T.length pad 8).set (pad - 9) (ny (tlGo T.length pad 8) (pad - 9) ||| (a >>> 61).setWidth 8) = tlGo T.length pad 8) := hid (by
          rw [HV.out]
          apply ny_ext
          · simp
          · intro j hj
            rw [ny_set _ _ _ _ (by rw [tlGo_len]; omega)]
            by_cases h : pad - 9 = j
            · rw [if_pos h, h]; simp
            · rw [if_neg h])
        clear hv
        go_wp2_with fail
        rw [show iv a / 2305843009213693952 = iv a / 2 ^ 61 from rfl, iv_shr, iv_byte2, yv_or']
        have hT2 := hT.out.set (pad - 9) (ny (tlGo T.length pad 8) (pad - 9) ||| (a >>> 61).setWidth 8)
        rw [hZ.out] at hT2
        have hE2 := hE.out.other (p := ⟨w.heap.size + 2, pad - 9, none⟩) (by show w.heap.size + 1 ≠ w.heap.size + 2; omega) (.int .u8 (yv (ny (tlGo T.length pad 8) (pad - 9) ||| (a >>> 61).setWidth 8)))
        have hO2 := hO.out.other (a := ⟨w.heap.size + 2, pad - 9, none⟩) (by show w.heap.size ≠ w.heap.size + 2; omega) (.int .u8 (yv (ny (tlGo T.length pad 8) (pad - 9) ||| (a >>> 61).setWidth 8)))
        have hB2 := hB.setCell (p := ⟨w.heap.size + 2, pad - 9, none⟩) (by show w.heap.size ≤ w.heap.size + 2; omega) (.int .u8 (yv (ny (tlGo T.length pad 8) (pad - 9) ||| (a >>> 61).setWidth 8)))
        generalize wr.setCell ⟨w.heap.size + 2, pad - 9, none⟩ (.int .u8 (yv (ny (tlGo T.length pad 8) (pad - 9) ||| (a >>> 61).setWidth 8))) = w2 at hT2 hE2 hO2 hB2 ⊢
        clear hT hE hO hB c1 f1 l3 hZ HV wr
        have hTl : padS T = T ++ tailS T.length := rfl
        have htt : (tlGo T.length pad 8).take pad = tailS T.length := by rw [HPAD.out]; exact tail_eq T.length (by omega)
        have htl : (tailS T.length).length = pad := by rw [← htt, List.length_take, tlGo_len]; omega
        have hpl : (padS T).length = T.length + pad := by rw [hTl, List.length_append, htl]
        have hAt : AtS w2 (w.heap.size + 1) s (padS T) T.length a := by
          rw [hTl]
          refine AtS.more ⟨y, HY.out, ?_, ?_⟩ _
          · rw [← HS1.out, ← HN.out]; exact hE2
          · rw [← HN.out]; exact HYT.out
        have hRd : RdX (w.heap.size + 1) w2 (.slice (some ⟨w.heap.size + 2, 0, none⟩) pad 256) ((padS T).drop T.length) := by
          rw [hTl, List.drop_left]
          refine ⟨_, 256, by rw [htl], by rw [htl]; exact hp2, fun _ => ⟨w.heap.size + 2, 0, rfl, by omega, hT2.lt, fun j hj => ?_⟩⟩
          rw [htl] at hj
          have := hT2.cell j (by rw [tlGo_len]; omega)
          rw [Nat.zero_add, this, ← htt]
          simp [ny, List.getD_eq_getElem?_getD, hj]
        refine (swrite_any (w.heap.size + 1) s (padS T) T.length a _ w2 HS.out (by omega) hAt hRd (by omega)).mono ?_
        rintro e w3 ⟨rfl, hA3, hg3⟩
        have hO3 := hid (show ArrY 32 w3 w.heap.size (zY 64) from (hg3.block _ hO2.lt (by simp)).trans hO2)
        have hB3 := hB2.grown hg3 hB2.size (fun k e => by simp at e; omega)
        obtain ⟨y3, hy3, hH3, -⟩ := hA3
        have hS3 : stS s (padS T) (padS T).length = absS s (padS T) ((padS T).length / 128) := rfl
        rw [hS3] at hH3
        obtain ⟨s3, hs3⟩ : ∃ s3, s3 = absS s (padS T) ((padS T).length / 128) := ⟨_, rfl⟩
        have hl3 : s3.length = 8 := by rw [hs3, absS_len]; exact HS.out
        rw [← hs3] at hH3
        have HS3 := hid hs3
        have HH3 := hid hH3
        have HL3 := hid hl3
        clear hs3 hS3 hH3 hl3 hTl htt htl hpl hAt hRd hT2 hE2 hO2 hB2 hg3 w2 hy3 hsl e2 e3 e4 HS1 HA HN
        go_wp2_with fail
        go_loopw [56] (fun i wr => ∃ k : Nat, k ≤ 64 ∧ i = .int .i64 k ∧ Hid (ArrY 32 wr w.heap.size (outS s3 k)) ∧ Hid (∀ j, j < 8 → wr.cell? ⟨w.heap.size + 1, j, none⟩ = some (.int .u64 (iv (nb s3 j)))) ∧ Below w.heap.size w wr ∧ w.heap.size + 1 < wr.heap.size)
          (fun i _ => 64 - (intOf i).toNat)
        case atStart => exact ⟨0, by omega, rfl, hO3, hid (HH3.out.cellS HL3.out), hB3, HH3.out.lt⟩
        case round =>
          clear hO3 HH3 hB3
          obtain ⟨k, hk, rfl, hO, hE, hB, hlE⟩ := hrel
          by_cases hlt : k < 64
          · have h8 : k / 8 < 8 := by omega
            have c1 := hE.out (k / 8) h8
            have c2 := hO.out.cell k (by rw [outS_len]; omega)
            have f2 := hO.out.free k
            have l1 := hO.out.lt
            have e1 : (56 - 8 * ((k : Int) % 8)).toNat = 56 - 8 * (k % 8) := by omega
            have e2 : (0 : Int) ≤ 56 - 8 * ((k : Int) % 8) := by omega
            have n1 := iv_nonneg (nb s3 (k / 8))
            go_wp2
            go_roundw
            case rel =>
              refine ⟨k + 1, by omega, by go_num, ?_, hid fun j hj => ?_, hB.setCell (p := ⟨w.heap.size, k, none⟩) (Nat.le_refl _) _, by simpa using hlE⟩
              · rw [iv_shr, iv_byte2]
                exact hid (hO.out.set k _)
              · rw [World.cell?_setCell_far _ _ _ _ (by show w.heap.size ≠ w.heap.size + 1; omega)]; exact hE.out j hj
            case measure => simp [intOf]; omega
          · obtain rfl : k = 64 := by omega
            have hlO : (outS s3 64).length = 64 := outS_len s3 64
            have iO := hid (show (Try.prog.info? 32).map (·.size) = some (cellsY (outS s3 64)).size by rw [size_cellsY, hlO]; exact i64h)
            have nO := hid (one_cellsY (outS s3 64))
            obtain ⟨y2, hy2⟩ : ∃ y2, y2 = outS s3 64 := ⟨_, rfl⟩
            rw [← hy2] at iO nO hO
            have HY2 := hid hy2
            clear hy2 hlO hlt hk
            go_wp2_with (first | (refine wpList_load_row rfl 32 (.tmp 2) rfl w.heap.size rfl 32 _ (0, 0) _ hO.out u64h rfl iO.out ?_; simp only [Act.put, pvA, pv0, pv1]) | (refine wpList_store_row rfl 32 (.tmp 2) (.tmp 73) rfl w.heap.size _ rfl rfl 32 _ hO.out iO.out rfl nO.out ?_; simp only [Act.put]))
            refine bodyPost_ret (results_cell_row rfl _ _ w.heap.size 32 (cellsY y2) (0, 0) _ rfl (heap_setRow _ _ _ _ _ hO.out) u64h rfl iO.out) rfl ⟨by rw [HY2.out, HS3.out], below_setRow hB _ (Nat.le_refl _) _⟩
end Go.Proofs.Ytejnnghfelpioaa
namespace Go.Proofs.Ytejnnghfelpioaa
open Go.RowKit
theorem AtS.zero {w : World} {b : Nat} (h : HasS w b shaH zero128 0 0) (T : List (BitVec 8)) : AtS w b shaH T 0 0 :=
  ⟨zero128, by simp [zero128], h, by simp⟩
theorem shaL_def (m : List (BitVec 8)) : outS (absS shaH (padS m) ((padS m).length / 128)) 64 = shaL m := rfl
set_option maxHeartbeats 1000000 in
theorem ssum_any (m : List (BitVec 8)) (v : Value) (w : World) (hr : RdY w v m) (hl : m.length ≤ 140737488351360) :
    Calls Try.prog 47 #[v] w fun e w' => e = .returned (.agg (cellsY (shaL m))) ∧ Below w.heap.size w w' := by
  have hlo := shaL_len m
  have iO := hid (show (Try.prog.info? 32).map (·.size) = some (cellsY (shaL m)).size by rw [size_cellsY, hlo]; exact i64h)
  have zO := hid (show (cellsY (zY 64)).size = (cellsY (shaL m)).size by rw [size_cellsY, size_cellsY, hlo, zY_len])
  have nO := hid (one_cellsY (shaL m))
  have HR := hid hr
  obtain ⟨y2, hy2⟩ : ∃ y2, y2 = shaL m := ⟨_, rfl⟩
  rw [← hy2] at iO zO nO
  have HY2 := hid hy2
  clear hlo hy2
  have hb0 : Below w.heap.size w (w.alloc (.cells (cellsY (zY 64)) 32)) := (Below.refl _ _).alloc (Nat.le_refl _) _
  have HRB : Hid (∀ b off n c, v = .slice (some ⟨b, off, none⟩) n c → 0 < n → b < w.heap.size) := hid (by
    obtain ⟨a, cap, rfl, hc, h⟩ := hr
    intro b off n c e h0
    simp at e
    obtain ⟨rfl, rfl, rfl⟩ := e
    obtain ⟨b', off', e2, h3, _⟩ := h (by intro e; subst e; simp at h0)
    simp at e2
    rw [e2.1]; exact h3)
  clear hr
  go_enter Try.func47, Try.ntmps47
  go_wp2_with (first | (refine wpList_alloc_new rfl 32 rfl (cellsY (zY 64)) zi64 ?_; simp only [Act.put, pvA, pv0, pv1]))
  refine (snew_any _).mono ?_
  rintro e w1 ⟨hb, rfl, hbs, hH1', hb1⟩
  rw [World.size_alloc] at hbs
  have hH1 := hid hH1'
  clear hH1'
  go_wp2_with fail
  refine (swrite_any hb shaH m 0 0 v w1 rfl (Nat.zero_le _) (AtS.zero hH1.out m) (by rw [List.drop_zero]; exact RdX.of ((HR.out.below hb0).below hb1) (fun b off n c e h0 => by have := HRB.out b off n c e h0; omega)) (by omega)).mono ?_
  rintro e w2 ⟨rfl, hH2, hg2⟩
  rw [Nat.sub_zero, show (0 : BitVec 64) + BitVec.ofNat 64 m.length = BitVec.ofNat 64 m.length from by simp] at hH2
  have hH3 := hid hH2
  clear hH2
  go_wp2_with fail
  refine (shsum_any hb shaH m _ rfl hH3.out hl).mono ?_
  rintro e w3 ⟨rfl, hb3⟩
  have hZ1 : ArrY 32 w1 w.heap.size (zY 64) := (ArrY.new 32 w (zY 64)).below hb1 (by simp)
  have hZ2 : ArrY 32 w2 w.heap.size (zY 64) := (hg2.block _ hZ1.lt (by simp; omega)).trans hZ1
  have hZ3 : Hid (ArrY 32 w3 w.heap.size (zY 64)) := hid (hZ2.below hb3 hZ2.lt)
  have hb4 : Below w.heap.size w w3 := ((hb0.trans (hb1.mono (by simp))).grown hg2 (by have := hb1.size; simp at this; omega) (fun k e => by simp at e; omega)).trans (hb3.mono (by have := hg2.size; have := hb1.size; simp at this; omega))
  rw [shaL_def, ← HY2.out]
  go_wp2_with (refine wpList_store_row rfl 32 (.tmp 2) (.tmp 9) rfl w.heap.size _ rfl rfl 32 _ hZ3.out iO.out zO.out nO.out ?_; simp only [Act.put])
  refine bodyPost_ret (results_cell_row rfl _ _ w.heap.size 32 (cellsY y2) (0, 0) _ rfl (heap_setRow _ _ _ _ _ hZ3.out) u64h rfl iO.out) rfl ⟨by rw [HY2.out], below_setRow hb4 _ (Nat.le_refl _) _⟩
end Go.Proofs.Ytejnnghfelpioaa
namespace Go
open Go.RowKit
variable {P : Program}
theorem run_loadVar_cells (w : World) (g o : Nat) (ty : TypeId) (cs : Array Value) (d : TypeDesc) (hcs : ∀ j v, cs[j]? = some v → w.cell? ⟨g, o + j, none⟩ = some v)
    (hu : P.underlying ty = some d) (hd : (match d with | .struct _ | .array _ _ => true | _ => false) = true) (hi : (P.info? ty).map (·.size) = some cs.size) :
    (loadVar ty ⟨g, o, none⟩).run P w = .ok (.agg cs) w := by
  have hl : (loadCells ⟨g, o, none⟩ cs.toList.length).run P w = .ok cs.toList.toArray w :=
    run_loadCells_list (P := P) w ⟨g, o, none⟩ cs.toList (fun j v hv => by
      have hadd : (⟨g, o, none⟩ : Addr).add j = ⟨g, o + j, none⟩ := by unfold Addr.add; split <;> simp_all
      rw [hadd]
      exact hcs j v (by simpa using hv))
  cases hq : P.info? ty with
  | none => simp [hq] at hi
  | some i =>
    have hs : i.size = cs.size := by simpa [hq] using hi
    have hagg : (isAgg ty).run P w = .ok true w := by
      unfold isAgg
      rw [Sem.run_bind, run_underlying hu w]
      cases d <;> simp_all
    simp only [Array.length_toList, Array.toArray_toList] at hl
    simp [loadVar, Sem.run_bind, hagg, sizeOf, typeInfo, hq, hs, hl]
theorem wpList_load_cells {ops : Array Oper} {rest : List Oper} {o : Oper} {a : Act} {w : World} {Q : Exit → Act → World → Prop} (hgd : o.guard = none) (ty : TypeId) (x : Operand) (ho : o.op = .load ty x)
    (g off : Nat) (hx : a.eval x = .pointer (some ⟨g, off, none⟩)) (cs : Array Value) (hcs : ∀ j v, cs[j]? = some v → w.cell? ⟨g, off + j, none⟩ = some v)
    (hu : aggT P ty = true) (hi : (P.info? ty).map (·.size) = some cs.size)
    (h : wpList P ops Q rest (a.put o.dst (.agg cs)) w) : wpList P ops Q (o :: rest) a w :=
  wpList_plain hgd fun _ hK => by
    obtain ⟨d, h1, h2⟩ := aggT_spec hu
    unfold Oper.wp execOp
    simp only [ho, hx, Instr.loadAt, Instr.sureAddr, Sem.run_bind, Sem.run_pure, Result.andThen_ok, run_loadVar_cells w g off ty cs d hcs h1 (by cases d <;> first | rfl | cases h2) hi]
    exact hK _ _ h
theorem wpList_getp {ops : Array Oper} {rest : List Oper} {o : Oper} {a : Act} {w : World} {Q : Exit → Act → World → Prop} (T : TypeId) (x : Operand) (ho : o.op = .load T x) (hg : o.guard = none) (g off : Nat) (hx : a.eval x = .pointer (some ⟨g, off, none⟩)) (t : TypeId) (cur cs : Array Value) (hb : Blk t w g cur) (hcs : ∀ j v, cs[j]? = some v → cur[off + j]? = some v)
    (hu : aggT P T = true) (hi : (P.info? T).map (·.size) = some cs.size) (h : wpList P ops Q rest (a.put o.dst (.agg cs)) w) : wpList P ops Q (o :: rest) a w :=
  wpList_plain hg fun K hK => by
    obtain ⟨d, h1, h2⟩ := aggT_spec hu
    unfold Oper.wp
    rw [run_load_part T x ho g off hx t cur cs (0, 0) d hb hcs h1 (by cases d <;> first | rfl | cases h2) hi]
    exact hK _ _ h
section
variable {l0 : List Oper} {es : List Ent} {w0 : World} {n i : Nat} {Fin : Act → World → Prop} {o : Oper} {rest : List Oper} {a : Act}
theorem loose_run (hw : Region.wanted o (yielded l0.toArray a.tmps) = true) (v : Value) (he : es[i]? = some (.kn v)) (h : ∀ w, Below w0.heap.size w0 w → (execOp a.eval o).run P w = .ok (.value v) w) (k : looseL P l0 es w0 n Fin (i + 1) rest (a.put o.dst v)) : looseL P l0 es w0 n Fin i (o :: rest) a :=
  loose_step_on hw (fun w hb _ K hK => by unfold Oper.wp; rw [h w hb]; exact hK _ _ (Below.refl _ _) (by unfold phiOf; rw [he]; rfl)) (fun v' hv => by
    have : v' = v := by unfold mayOf at hv; rw [he] at hv; exact hv
    subst this; exact k)
theorem loose_part (hw : Region.wanted o (yielded l0.toArray a.tmps) = true) (ty : TypeId) (x : Operand) (ho : o.op = .load ty x) (g off : Nat) (hx : a.eval x = .pointer (some ⟨g, off, none⟩))
    (t : TypeId) (cur cs : Array Value) (hg : Blk t w0 g cur) (hcs : ∀ j v, cs[j]? = some v → cur[off + j]? = some v) (hu : aggT P ty = true) (hi : (P.info? ty).map (·.size) = some cs.size) (he : es[i]? = some (.kn (.agg cs)))
    (k : looseL P l0 es w0 n Fin (i + 1) rest (a.put o.dst (.agg cs))) : looseL P l0 es w0 n Fin i (o :: rest) a :=
  let ⟨d, h1, h2⟩ := aggT_spec hu
  loose_run hw _ he (fun w hb => run_load_part ty x ho g off hx t cur cs (0, 0) d (hg.step hb) hcs h1 (by cases d <;> first | rfl | cases h2) hi) k
theorem loose_cell (hw : Region.wanted o (yielded l0.toArray a.tmps) = true) (ty : TypeId) (x : Operand) (ho : o.op = .load ty x) (g off : Nat) (hx : a.eval x = .pointer (some ⟨g, off, none⟩))
    (t : TypeId) (cs : Array Value) (hg : Blk t w0 g cs) (v : Value) (hv : cs[off]? = some v) (hu : oneT P ty = true) (he : es[i]? = some (.kn v))
    (k : looseL P l0 es w0 n Fin (i + 1) rest (a.put o.dst v)) : looseL P l0 es w0 n Fin i (o :: rest) a :=
  let ⟨d, h1, h2⟩ := oneT_spec hu
  loose_run hw v he (fun w hb => run_load_cell ty x ho g off hx v ((hg.step hb).cell off v hv) d h1 (by cases d <;> first | rfl | cases h2)) k
theorem loose_move (hw : Region.wanted o (yielded l0.toArray a.tmps) = true) (x : Operand) (ho : o.op = .move x ∨ o.op = .assign x) (he : es[i]? = some (.kn (a.eval x))) (k : looseL P l0 es w0 n Fin (i + 1) rest (a.put o.dst (a.eval x))) : looseL P l0 es w0 n Fin i (o :: rest) a :=
  loose_run hw _ he (fun w _ => by
    unfold execOp
    rcases ho with ho | ho <;> simp only [ho, Sem.run_pure]) k
end
theorem wpList_on {ops : Array Oper} {rest : List Oper} {o : Oper} {a : Act} {w : World} {Q : Exit → Act → World → Prop} (hw : Region.wanted o (yielded ops a.tmps) = true) (h : ∀ K : Act → World → Prop, (∀ a' w', wpList P ops Q rest a' w' → K a' w') → o.wp P a w K Q) : wpList P ops Q (o :: rest) a w :=
  wpList_step fun K hK => by rw [if_pos hw]; exact h K hK
theorem setCell_row {w : World} {b : Nat} {old : Array Value} {t : TypeId} (hb : Blk t w b old) (off : Nat) (v : Value) : w.setCell ⟨b, off, none⟩ v = w.setRow b (old.setIfInBounds off v) := by
  unfold World.setCell World.setRow
  congr 1
  apply Array.ext_getElem?
  intro k
  rw [Array.getElem?_modify, Array.getElem?_modify]
  by_cases hk : b = k
  · subst hk
    rw [if_pos rfl, if_pos rfl, hb]
    rfl
  · rw [if_neg hk, if_neg hk]
theorem run_storeVar_cell1 (w : World) (g off : Nat) (t ty : TypeId) (old : Array Value) (v : Value) (hg : Blk t w g old) (hlt : off < old.size) (hi : (P.info? ty).map (·.size) = some 1) (h1 : v.oneCell' = true) :
    (storeVar ty ⟨g, off, none⟩ v).run P w = .ok () (w.setRow g (old.setIfInBounds off v)) := by
  have hc : v.cells = #[v] := by cases v <;> first | rfl | cases h1
  have hcell : w.cell? ⟨g, off, none⟩ = some old[off] := hg.cell off _ (by simp [hlt])
  have hfz := hg.free off
  have hadd : (⟨g, off, none⟩ : Addr).add 0 = ⟨g, off, none⟩ := by unfold Addr.add; split <;> simp_all
  cases hq : P.info? ty with
  | none => simp [hq] at hi
  | some i =>
    have hs : i.size = 1 := by simpa [hq] using hi
    simp [storeVar, storeCells, Sem.run_bind, sizeOf, typeInfo, hq, hs, hc, hadd, run_store P w _ v _ h1, hcell, hfz, setCell_row hg]
theorem wpList_setcell {ops : Array Oper} {rest : List Oper} {o : Oper} {a : Act} {w : World} {Q : Exit → Act → World → Prop} (T : TypeId) (x y : Operand) (ho : o.op = .store T x y) (hg : o.guard = none) (hd : o.dst = none) (b off : Nat) (v : Value) (hx : a.eval x = .pointer (some ⟨b, off, none⟩)) (hy : a.eval y = v)
    (t : TypeId) (old : Array Value) (hb : Blk t w b old) (hlt : off < old.size) (hi : (P.info? T).map (·.size) = some 1) (h1 : v.oneCell' = true)
    (h : wpList P ops Q rest a (w.setRow b (old.setIfInBounds off v))) : wpList P ops Q (o :: rest) a w :=
  wpList_plain hg fun _ hK => by
    unfold Oper.wp execOp
    simp only [ho, hx, hy, Instr.storeAt, Instr.sureAddr, Sem.run_bind, Sem.run_pure, Result.andThen_ok, run_storeVar_cell1 w b off t T old v hb hlt hi h1]
    exact hK _ _ (by rw [hd]; exact h)
theorem wpList_setpart {ops : Array Oper} {rest : List Oper} {o : Oper} {a : Act} {w : World} {Q : Exit → Act → World → Prop} (T : TypeId) (x y : Operand) (ho : o.op = .store T x y) (hg : o.guard = none) (hd : o.dst = none) (b off : Nat) (cs : Array Value) (hx : a.eval x = .pointer (some ⟨b, off, none⟩)) (hy : a.eval y = .agg cs)
    (t : TypeId) (old : Array Value) (hb : Blk t w b old) (hi : (P.info? T).map (·.size) = some cs.size) (hfit : off + cs.size ≤ old.size) (h1 : cs.all (·.oneCell') = true)
    (h : wpList P ops Q rest a (w.setRow b (setPart old off cs))) : wpList P ops Q (o :: rest) a w :=
  wpList_store_part hg T x y ho b off cs hx hy t old hb hi hfit h1 (by rw [hd]; exact h)
theorem wpList_getcell {ops : Array Oper} {rest : List Oper} {o : Oper} {a : Act} {w : World} {Q : Exit → Act → World → Prop} (T : TypeId) (x : Operand) (ho : o.op = .load T x) (hg : o.guard = none) (g off : Nat) (hx : a.eval x = .pointer (some ⟨g, off, none⟩)) (v : Value) (hc : w.cell? ⟨g, off, none⟩ = some v)
    (hu : oneT P T = true) (h : wpList P ops Q rest (a.put o.dst v) w) : wpList P ops Q (o :: rest) a w :=
  wpList_plain hg fun K hK => by
    obtain ⟨d, h1, h2⟩ := oneT_spec hu
    unfold Oper.wp
    rw [run_load_cell T x ho g off hx v hc d h1 (by cases d <;> first | rfl | cases h2)]
    exact hK _ _ h
theorem add_off (b off k : Nat) : (⟨b, off, none⟩ : Addr).add k = ⟨b, off + k, none⟩ := by unfold Addr.add; split <;> simp_all
theorem sl_all {T e : TypeId} {n : Nat} (hu : P.underlying T = some (.array n e)) (hs : (P.info? e).map (·.size) = some 1) (b off : Nat) (w : World) : (Instr.sliceAt T (.pointer (some ⟨b, off, none⟩)) none none none).run P w = .ok (.slice (some ⟨b, off, none⟩) n n) w := by
  cases hq : P.info? e with
  | none => rw [hq] at hs; cases hs
  | some i =>
    have h1 : i.size = 1 := by rw [hq] at hs; simpa using hs
    simp [Instr.sliceAt, Instr.sureAddr, slicedAt, run_underlying hu, Instr.sliceBounds, run_sliceBound, sliced, sizeOf, typeInfo, hq, h1, add_off]
theorem sl_from {T e : TypeId} {n : Nat} (hu : P.underlying T = some (.array n e)) (hs : (P.info? e).map (·.size) = some 1) (l : Nat) (hl : l < n) (b off : Nat) (w : World) : (Instr.sliceAt T (.pointer (some ⟨b, off, none⟩)) (some (.int .i64 (l : Int))) none none).run P w = .ok (.slice (some ⟨b, off + l, none⟩) (n - l) (n - l)) w := by
  cases hq : P.info? e with
  | none => rw [hq] at hs; cases hs
  | some i =>
    have h1 : i.size = 1 := by rw [hq] at hs; simpa using hs
    have h2 : ¬ n = l := by omega
    have h3 : l ≤ n := by omega
    simp [Instr.sliceAt, Instr.sureAddr, slicedAt, run_underlying hu, Instr.sliceBounds, run_sliceBound, sliced, sizeOf, typeInfo, hq, h1, add_off, h2, h3]
theorem sl_to {T e : TypeId} {n : Nat} (hu : P.underlying T = some (.array n e)) (hs : (P.info? e).map (·.size) = some 1) (h : Nat) (hh : h ≤ n) (b off : Nat) (w : World) : (Instr.sliceAt T (.pointer (some ⟨b, off, none⟩)) none (some (.int .i64 (h : Int))) none).run P w = .ok (.slice (some ⟨b, off, none⟩) h n) w := by
  cases hq : P.info? e with
  | none => rw [hq] at hs; cases hs
  | some i =>
    have h1 : i.size = 1 := by rw [hq] at hs; simpa using hs
    simp [Instr.sliceAt, Instr.sureAddr, slicedAt, run_underlying hu, Instr.sliceBounds, run_sliceBound, sliced, sizeOf, typeInfo, hq, h1, add_off, hh]
end Go
namespace Go.Proofs.Ytejnnghfelpioaa
open Go.RowKit
def PtY (w : World) (v : Value) (y : BitVec 8) : Prop := ∃ b off, v = .pointer (some ⟨b, off, none⟩) ∧ b < w.heap.size ∧ w.cell? ⟨b, off, none⟩ = some (.int .u8 (yv y))
theorem PtY.below {w w' : World} {v : Value} {y : BitVec 8} (h : PtY w v y) (hb : Below w.heap.size w w') : PtY w' v y := by
  obtain ⟨b, off, e, h1, h2⟩ := h
  exact ⟨b, off, e, Nat.lt_of_lt_of_le h1 hb.size, by rw [hb.cell (p := ⟨b, off, none⟩) h1]; exact h2⟩
theorem RdY.pt {w : World} {v : Value} {ys : List (BitVec 8)} (h : RdY w v ys) (j : Nat) (hj : j < ys.length) : ∃ b off cap, v = .slice (some ⟨b, off, none⟩) ys.length cap ∧ PtY w (.pointer (some ⟨b, off + j, none⟩)) (ny ys j) := by
  obtain ⟨a, c, e, hc, hx⟩ := h
  obtain ⟨b', off', e2, h2, h3⟩ := hx (by intro e; rw [e] at hj; simp at hj)
  subst e2
  exact ⟨b', off', c, e, b', off' + j, rfl, h2, h3 j hj⟩
theorem RdY.cells {w : World} {b off n cap : Nat} {ys : List (BitVec 8)} (h : RdY w (.slice (some ⟨b, off, none⟩) n cap) ys) : ∀ j v, (cellsY ys)[j]? = some v → w.cell? ⟨b, off + j, none⟩ = some v := fun j v hv => by
  obtain ⟨a, c, e, hc, hx⟩ := h
  have hj : j < ys.length := by have := (Array.getElem?_eq_some_iff.1 hv).1; rwa [size_cellsY] at this
  obtain ⟨b', off', e2, h2, h3⟩ := hx (by intro e; rw [e] at hj; simp at hj)
  simp only [Value.slice.injEq] at e
  rw [← e.1] at e2
  simp only [Option.some.injEq, Addr.mk.injEq] at e2
  obtain ⟨rfl, rfl, _⟩ := e2
  rw [h3 j hj, ← hv]
  simp [cellsY, ny, hj]
theorem RdY.open {w : World} {v : Value} {ys : List (BitVec 8)} (h : RdY w v ys) (hp : 0 < ys.length) : ∃ b off cap, v = .slice (some ⟨b, off, none⟩) ys.length cap ∧ ys.length ≤ cap ∧ b < w.heap.size ∧ ∀ j, j < ys.length → w.cell? ⟨b, off + j, none⟩ = some (.int .u8 (yv (ny ys j))) := by
  obtain ⟨a, c, rfl, hc, hx⟩ := h
  obtain ⟨b', off', rfl, h2, h3⟩ := hx (by intro e; rw [e] at hp; simp at hp)
  exact ⟨b', off', c, rfl, hc, h2, h3⟩
def key (ys : List (BitVec 8)) : Value := .agg (cellsY ys)
def zKey : List (BitVec 8) := List.replicate 32 0
theorem o8 : oneT Try.prog 5 = true := by kernel_rfl
theorem iOne8 : (Try.prog.info? 5).map (·.size) = some 1 := by kernel_rfl
theorem gK : aggT Try.prog 28 = true := by kernel_rfl
theorem iK32 : (Try.prog.info? 28).map (·.size) = some 32 := by kernel_rfl
theorem iK (ys : List (BitVec 8)) (h : ys.length = 32) : (Try.prog.info? 28).map (·.size) = some (cellsY ys).size := by rw [size_cellsY, h]; exact iK32
theorem zK : (Try.prog.info? 28).bind (·.zero) = some (.agg (cellsY zKey)) := by kernel_rfl
theorem uK : Try.prog.underlying 28 = some (.array 32 5) := by kernel_rfl
def encL (p : P2) : List (BitVec 8) := (leL (p.y % pN)).set 31 (ny (leL (p.y % pN)) 31 ||| (ny (leL (p.x % pN)) 0 <<< 7))
theorem encL_len (p : P2) : (encL p).length = 32 := by unfold encL; rw [List.length_set, leL_len]
theorem yv_shl (x : BitVec 8) (k : Nat) : IntKind.u8.wrap (yv x * 2 ^ k) = yv (x <<< k) := by
  unfold yv
  rw [BitVec.toNat_shiftLeft, Nat.shiftLeft_eq]
  simp [IntKind.wrap, IntKind.signed, IntKind.bits]
set_option maxRecDepth 100000 in
set_option maxHeartbeats 4000000 in
theorem enc_any (p : P2) (w : World) (hp : LtP p) : Calls Try.prog 14 #[pt p] w fun e w' => e = .returned (key (encL p)) ∧ Below w.heap.size w w' := by
  have hX := hid fun w => fbytes_any p.x w hp.x
  have hY := hid fun w => fbytes_any p.y w hp.y
  have hE := hid (show encL p = (leL (p.y % pN)).set 31 (ny (leL (p.y % pN)) 31 ||| (ny (leL (p.x % pN)) 0 <<< 7)) from rfl)
  have lX := leL_len (p.x % pN)
  have lY := leL_len (p.y % pN)
  rw [hE.out]
  generalize leL (p.x % pN) = X at hX lX ⊢
  generalize leL (p.y % pN) = Y at hY lY ⊢
  clear hp hE
  have hat : ∀ (b off cap : Nat) (w : World), (Instr.arrayAt 28 (.slice (some ⟨b, off, none⟩) 32 cap)).run Try.prog w = .ok (.pointer (some ⟨b, off, none⟩)) w := fun b off cap w => by
    unfold Instr.arrayAt
    rw [Sem.run_bind, run_underlying uK w]
    rfl
  have i0 := hid (iK _ (show zKey.length = 32 from rfl))
  have iY := hid (iK Y lY)
  unfold pt key wd at *
  obtain ⟨w0, hw0, k1, k2, hbl0⟩ := entry2 w 44 (cellsP p) 28 (cellsY zKey)
  go_enter Try.func14, Try.ntmps14
  (repeat ((fail_if_success (with_reducible refine Go.at_region ?_)); go_step))
  refine wp_region_lit ?_
  (refine wpList_box 44 (.tmp 0) rfl rfl (cellsP p) rfl ?_; simp only [Act.put, pvA, pv0, pv1]; (try simp only [World.size_alloc]))
  (refine wpList_alloc_new rfl 28 rfl (cellsY zKey) zK ?_; simp only [Act.put, pvA, pv0, pv1]; (try simp only [World.size_alloc]))
  refine wpList_nil ?_
  rw [← hw0]
  clear hw0
  have hb1 := hid k1
  have hb2 := hid k2
  clear k1 k2
  (repeat ((fail_if_success (with_reducible refine Go.at_region ?_)); go_step))
  refine wp_region_lit ?_
  (refine wpList_plain rfl fun K hK => ?_; go_simp; refine hK _ _ ?_; clear hK K; (try simp only [Act.put, pvA, pv0, pv1]))
  (refine wpList_getp _ _ rfl rfl _ _ rfl _ _ (cellsW p.y) hb1.out (inP_y p) gWd (iW p.y) ?_; simp only [Act.put, pvA, pv0, pv1])
  (refine wpList_plain rfl fun K hK => ?_; go_simp; refine (hY.out _).mono ?_; rintro _ w1 ⟨v1, rfl, hR1, hs1⟩; refine hK _ _ ?_; clear hK K; (try simp only [Act.put, pvA, pv0, pv1]))
  obtain ⟨B1, O1, C1, rfl, hc1, hlt1, hcl1⟩ := hR1.open (by omega)
  have hRc := hid hR1.cells
  rw [lY]
  clear hR1 hcl1
  (refine wpList_plain rfl fun K hK => ?_; go_simp; refine hK _ _ ?_; clear hK K; (try simp only [Act.put, pvA, pv0, pv1]))
  (refine wpList_load_cells rfl 28 (.tmp 7) rfl B1 O1 rfl (cellsY Y) hRc.out gK iY.out ?_; simp only [Act.put, pvA, pv0, pv1])
  (refine wpList_new 28 (cellsY zKey) rfl rfl zK ?_; intro G w2 hle2 hs2 hn2; (try simp only [Act.put, pvA, pv0, pv1]))
  (refine wpList_set _ _ _ rfl rfl rfl _ _ rfl rfl _ _ hn2 iY.out (by rw [size_cellsY, size_cellsY, lY]; rfl) (one_cellsY Y) ?_)
  refine wpList_nil ?_
  have l0 := hb1.out.lt
  have l1 := hb2.out.lt
  have s1 := hs1.size
  have fb1 := ((hb1.out.step hs1).step hs2).other (b := G) (by omega) (cellsY Y)
  have fb2 := ((hb2.out.step hs1).step hs2).other (b := G) (by omega) (cellsY Y)
  have fb3 := hn2.set (cellsY Y)
  have hbl2 := hbl0.trans ((hs1.trans (hs2.mono hs1.size)).mono hbl0.size)
  have hbl := below_set hbl2 G (by have := hbl0.size; omega) (cellsY Y)
  obtain ⟨w3, hw⟩ : ∃ z, z = w2.setRow G (cellsY Y) := ⟨_, rfl⟩
  rw [← hw] at fb1 fb2 fb3 hbl ⊢
  have n1 : w.heap.size ≠ G := by omega
  have n2 : w.heap.size + 1 ≠ G := by omega
  have hG : w.heap.size ≤ G := by have := hbl0.size; omega
  have hc1 := hid fb1
  have hc2 := hid fb2
  have hc3 := hid fb3
  clear hw fb1 fb2 fb3 hbl2 hn2 hs2 hle2 hRc hlt1 hs1 hb1 hb2 hbl0 l0 l1 s1 hat
  (repeat ((fail_if_success (with_reducible refine Go.at_region ?_)); go_step))
  have e31 : (cellsY Y)[31]? = some (.int .u8 (yv (ny Y 31))) := by simp [cellsY, ny, lY]
  have e16 : IntKind.u8.wrap (yv (ny X 0) * 128) = yv (ny X 0 <<< 7) := yv_shl _ 7
  have e17 := yv_or' (ny Y 31) (ny X 0 <<< 7)
  (refine wp_region_loose_tail 10 [.kn (.pointer (some ⟨G, 31, none⟩)), .kn (.int .u8 (yv (ny Y 31))), .kn (.pointer (some ⟨w.heap.size, 0, none⟩)), .kn (.agg (cellsW p.x)), .lo (fun v w => RdY w v X), .lo (fun v w => PtY w v (ny X 0)), .kn (.int .u8 (yv (ny X 0))), .kn (.int .u8 (yv (ny X 0 <<< 7))), .kn (.int .u8 (yv (ny Y 31 ||| (ny X 0 <<< 7)))), .kn (.pointer (some ⟨G, 31, none⟩))] (by kernel_rfl) (by kernel_rfl) (by kernel_rfl) (by first | exact trivial | ((repeat (first | refine keepsAll_kn ?_ | (refine keepsAll_lo (fun v w w' h hb => ?_) ?_; first | exact RdN.below h hb | exact RdL.below h hb | exact RdY.below h hb | exact PtY.below h hb | exact RdZ.below h hb | exact newR_keeps _ _ _ h hb))); exact trivial)) ?_; simp only [List.take_succ_cons, List.take_zero, List.drop_succ_cons, List.drop_zero])
  (refine loose_step_on rfl (fun W' hB' hd K hK => ?_) ?_; (focus (clear hd; go_simp; exact hK _ _ (Below.refl _ _) rfl)); rintro _ rfl; simp only [Act.put, pvA, pv0, pv1])
  (refine loose_cell rfl 5 (.tmp 9) rfl G 31 rfl 28 (cellsY Y) hc3.out (.int .u8 (yv (ny Y 31))) e31 o8 rfl ?_; simp only [Act.put, pvA, pv0, pv1])
  (refine loose_step_on rfl (fun W' hB' hd K hK => ?_) ?_; (focus (clear hd; go_simp; exact hK _ _ (Below.refl _ _) rfl)); rintro _ rfl; simp only [Act.put, pvA, pv0, pv1])
  (refine loose_part rfl 25 (.tmp 11) rfl w.heap.size 0 rfl 44 (cellsP p) (cellsW p.x) hc1.out (inP_x p) gWd (iW p.x) rfl ?_; simp only [Act.put, pvA, pv0, pv1])
  (refine loose_step_on rfl (fun W' hB' hd Kt hK => ?_) ?_; (focus (skip; clear hd; go_simp; refine (hX.out _).mono ?_; rintro _ _ ⟨v, rfl, hr, hb'⟩; exact hK _ _ hb' hr)); intro v13 _; simp only [Act.put, pvA, pv0, pv1])
  (refine loose_step_on rfl (fun W' hB' hd Kt hK => ?_) ?_; (focus (have g13 : RdY W' v13 X := hd ⟨4, Ground.data⟩ (by simp) rfl _ 13 rfl rfl (by simp); clear hd; obtain ⟨b, off, cap, rfl, hp⟩ := g13.pt 0 (by omega); rw [Nat.add_zero] at hp; rw [lX] at hK ⊢; go_simp; exact hK _ _ (Below.refl _ _) hp)); intro v14 _; simp only [Act.put, pvA, pv0, pv1])
  (refine loose_step_on rfl (fun W' hB' hd Kt hK => ?_) ?_; (focus (have g14 : PtY W' v14 (ny X 0) := hd ⟨5, Ground.data⟩ (by simp) rfl _ 14 rfl rfl (by simp); clear hd; obtain ⟨b, off, rfl, hlt, hc⟩ := g14; go_simp; exact hK _ _ (Below.refl _ _) rfl)); rintro _ rfl; simp only [Act.put, pvA, pv0, pv1])
  iterate 3 (refine loose_step_on rfl (fun W' hB' hd K hK => ?_) ?_; (focus (clear hd; go_simp; exact hK _ _ (Below.refl _ _) rfl)); rintro _ rfl; simp only [Act.put, pvA, pv0, pv1])
  intro w4 hs4 _
  have fb2 := hc2.out.step hs4
  have fb3 := hc3.out.step hs4
  have hbl4 := hbl.trans (hs4.mono hbl.size)
  clear hc1 hc2 hc3 hs4 hbl e16 e17 e31
  have hE3 : (cellsY Y).setIfInBounds 31 (.int .u8 (yv (ny Y 31 ||| ny X 0 <<< 7))) = cellsY (Y.set 31 (ny Y 31 ||| ny X 0 <<< 7)) := by simp [cellsY, List.map_set]
  have lE : (Y.set 31 (ny Y 31 ||| ny X 0 <<< 7)).length = 32 := by rw [List.length_set, lY]
  obtain ⟨r, hr⟩ : ∃ r, r = ny Y 31 ||| ny X 0 <<< 7 := ⟨_, rfl⟩
  rw [← hr] at hE3 lE ⊢
  have iE := hid (iK (Y.set 31 r) lE)
  (refine wpList_setcell 5 (.tmp 18) (.tmp 17) rfl rfl rfl G 31 (.int .u8 (yv r)) rfl rfl 28 (cellsY Y) fb3 (by rw [size_cellsY, lY]; decide) iOne8 rfl ?_)
  rw [hE3]
  refine wpList_nil ?_
  have gb2 := hid (fb2.other (b := G) n2 (cellsY (Y.set 31 r)))
  have gb3 := hid (fb3.set (cellsY (Y.set 31 r)))
  have hbl5 := below_set hbl4 G hG (cellsY (Y.set 31 r))
  generalize w4.setRow G (cellsY (Y.set 31 r)) = w5 at gb2 gb3 hbl5 ⊢
  clear fb2 fb3 hbl4 hE3
  (repeat ((fail_if_success (with_reducible refine Go.at_region ?_)); go_step))
  refine wp_region_lit ?_
  (refine wpList_get _ _ rfl rfl _ rfl _ _ gb3.out gK iE.out ?_; simp only [Act.put, pvA, pv0, pv1])
  (refine wpList_set _ _ _ rfl rfl rfl _ _ rfl rfl _ _ gb2.out iE.out (by rw [size_cellsY, size_cellsY, lE]; rfl) (one_cellsY _) ?_)
  refine wpList_nil ?_
  have kb2 := gb2.out.set (cellsY (Y.set 31 r))
  have hbl6 := below_set hbl5 (w.heap.size + 1) (by omega) (cellsY (Y.set 31 r))
  (repeat ((fail_if_success (with_reducible refine Go.at_region ?_)); go_step))
  refine ret_blk (w.heap.size + 1) 28 _ rfl rfl kb2 gK iE.out rfl ?_
  exact ⟨by rw [hr], hbl6⟩
end Go.Proofs.Ytejnnghfelpioaa
namespace Go.Proofs.Ytejnnghfelpioaa
open Go.RowKit
def RdZ (w : World) (v : Value) (yss : List (List (BitVec 8))) : Prop :=
  ∃ a cap, v = .slice a yss.length cap ∧ yss.length ≤ cap ∧ (yss ≠ [] → ∃ b off, a = some ⟨b, off, none⟩ ∧ b < w.heap.size ∧ ∀ i, i < yss.length → ∃ u, w.cell? ⟨b, off + i, none⟩ = some u ∧ RdY w u (yss.getD i []))
theorem RdZ.below {w w' : World} {v : Value} {yss : List (List (BitVec 8))} (h : RdZ w v yss) (hb : Below w.heap.size w w') : RdZ w' v yss := by
  obtain ⟨a, cap, e, hc, h⟩ := h
  refine ⟨a, cap, e, hc, fun hx => ?_⟩
  obtain ⟨b, off, e2, h2, h3⟩ := h hx
  refine ⟨b, off, e2, Nat.lt_of_lt_of_le h2 hb.size, fun j hj => ?_⟩
  obtain ⟨u, h4, h5⟩ := h3 j hj
  exact ⟨u, by rw [hb.cell (p := ⟨b, off + j, none⟩) h2]; exact h4, h5.below hb⟩
def came (yss : List (List (BitVec 8))) (k : Nat) : List (BitVec 8) := (yss.take k).flatten
theorem came_succ (yss : List (List (BitVec 8))) (k : Nat) (h : k < yss.length) : came yss (k + 1) = came yss k ++ yss.getD k [] := by
  unfold came
  rw [List.take_succ_eq_append_getElem h, List.flatten_append]
  congr 1
  simp [List.getD_eq_getElem?_getD, h]
theorem came_le (yss : List (List (BitVec 8))) (k : Nat) : (came yss k).length ≤ yss.flatten.length := by
  unfold came
  conv => rhs; rw [← List.take_append_drop k yss, List.flatten_append, List.length_append]
  omega
theorem AtS.grown {w w' : World} {hb : Nat} {s : List (BitVec 64)} {T : List (BitVec 8)} {p : Nat} {a : BitVec 64} {row : Option Nat} (h : AtS w hb s T p a) (hg : w.grownBy w' row) (hr : some hb ≠ row) : AtS w' hb s T p a := by
  obtain ⟨y, h1, h2, h3⟩ := h
  exact ⟨y, h1, h2.grown hg hr, h3⟩
theorem AtS.below {w w' : World} {hb : Nat} {s : List (BitVec 64)} {T : List (BitVec 8)} {p : Nat} {a : BitVec 64} (h : AtS w hb s T p a) (hg : Below w.heap.size w w') : AtS w' hb s T p a :=
  h.grown (row := none) ⟨hg.os, hg.tape, hg.output, hg.size, fun k hk _ => hg.block k hk⟩ (by simp)
theorem AtS.lt {w : World} {hb : Nat} {s : List (BitVec 64)} {T : List (BitVec 8)} {p : Nat} {a : BitVec 64} (h : AtS w hb s T p a) : hb < w.heap.size := by
  obtain ⟨y, _, h2, _⟩ := h; exact h2.lt
theorem ofNat_more (a b : Nat) : BitVec.ofNat 64 a + BitVec.ofNat 64 (a + b - a) = BitVec.ofNat 64 (a + b) := by
  rw [Nat.add_sub_cancel_left, BitVec.ofNat_add]
theorem RdY.other {w : World} {v : Value} {ys : List (BitVec 8)} (h : RdY w v ys) {g : Nat} (hne : ∀ a n c, v = .slice (some a) n c → a.block ≠ g) (cs : Array Value) : RdY (w.setRow g cs) v ys := by
  obtain ⟨a, cap, e, hc, hx⟩ := h
  refine ⟨a, cap, e, hc, fun hy => ?_⟩
  obtain ⟨b, off, rfl, h2, h3⟩ := hx hy
  have hb : b ≠ g := hne _ _ _ e
  refine ⟨b, off, rfl, by simpa [World.setRow] using h2, fun j hj => ?_⟩
  rw [← h3 j hj]
  unfold World.cell?
  simp only [World.setRow, Array.getElem?_modify]
  rw [if_neg (fun e => hb e.symm)]
set_option maxHeartbeats 1000000 in
theorem clone_any (ys : List (BitVec 8)) (v : Value) (w : World) (hr : RdY w v ys) (hl : ys.length ≤ 140737488355328) : Calls Try.prog 48 #[v] w fun e w' => ∃ v', e = .returned v' ∧ RdY w' v' ys ∧ (∀ a n c, v' = .slice (some a) n c → w.heap.size ≤ a.block) ∧ Below w.heap.size w w' := by
  obtain ⟨i0, hi0, hz0, hz1, hz2⟩ := info_parts infoY8
  have HR := hid hr
  obtain ⟨ra, rc, rfl, hrc, hx⟩ := hr
  cases ra with
  | none =>
    have hn : ys = [] := by
      cases hy : ys with
      | nil => rfl
      | cons y l =>
        obtain ⟨b, off, e, _⟩ := hx (by rw [hy]; simp)
        cases e
    subst hn
    clear hx HR
    simp only [List.length_nil]
    have q : ∀ (w : World), (binOp .eql 22 (.slice none 0 rc) (.slice none 0 0)).run Try.prog w = .ok (.bool true) w := fun w => Lib.run_eql_slice_nil w _ _ none _ _ _ _ uYs
    go_enter Try.func48, Try.ntmps48
    go_wp2
    go_ret
    exact ⟨.slice none 0 0, rfl, RdY.nil _ _ _, (fun a n c e => by cases e), Below.refl _ _⟩
  | some a =>
    clear hx
    have q : ∀ (w : World), (binOp .eql 22 (.slice (some a) ys.length rc) (.slice none 0 0)).run Try.prog w = .ok (.bool false) w := fun w => Lib.run_eql_slice_nil w _ _ (some a) _ _ _ _ uYs
    have hw1 : Below w.heap.size w (w.alloc (.cells #[] 5)) := (Below.refl _ w).alloc (Nat.le_refl _) _
    have ho1 : (w.alloc (.cells #[] 5)).ownsRow w.heap.size 5 1 (.slice (some ⟨w.heap.size, 0, none⟩) 0 0) 0 [] := World.ownsRow_lit (base := w.heap.size) (size := 1) (e := 5) w #[] 0 (by simp) (by simp) (by simp)
    go_enter Try.func48, Try.ntmps48
    go_wp2_with (at_builtin; refine wpList_append_any rfl (.tmp 5) (.tmp 6) 22 rfl w.heap.size 5 i0 _ 1 1 uYs hi0 hz0 hz1 hz2 rfl (by decide) _ _ rfl rfl 0 [] ho1 ys.length (valY ys) (RdY.toV (HR.out.below hw1)) (by unfold maxLen; omega) (by omega) (by simp) ?_)
    intro v2 w2 ho2 hg2 _
    go_wp2
    go_ret
    exact ⟨_, rfl, RdY.owned ho2, ownsRow_from ho2, hw1.grown hg2 (by simp) (fun k e => by simp [Value.ownBlock] at e; omega)⟩
theorem RdZ.at {w : World} {b off n cap : Nat} {yss : List (List (BitVec 8))} (h : RdZ w (.slice (some ⟨b, off, none⟩) n cap) yss) (k : Nat) (hk : k < yss.length) : b < w.heap.size ∧ ∃ u, w.cell? ⟨b, off + k, none⟩ = some u ∧ RdY w u (yss.getD k []) := by
  obtain ⟨a, c, e, hc, hx⟩ := h
  obtain ⟨b', off', e2, h2, h3⟩ := hx (by intro e; rw [e] at hk; simp at hk)
  simp only [Value.slice.injEq] at e
  rw [← e.1] at e2
  simp only [Option.some.injEq, Addr.mk.injEq] at e2
  obtain ⟨rfl, rfl, _⟩ := e2
  exact ⟨h2, h3 k hk⟩
theorem RdY.block {w : World} {v : Value} {ys : List (BitVec 8)} (h : RdY w v ys) : ∀ b off n c, v = .slice (some ⟨b, off, none⟩) n c → 0 < n → b < w.heap.size := by
  obtain ⟨a, cap, rfl, hc, h⟩ := h
  intro b off n c e h0
  simp at e
  obtain ⟨rfl, rfl, rfl⟩ := e
  obtain ⟨b', off', e2, h3, _⟩ := h (by intro e; subst e; simp at h0)
  simp at e2
  rw [e2.1]; exact h3
def hashN (yss : List (List (BitVec 8))) : Nat := leN (shaL yss.flatten) % lN
theorem flE_sha (m : List (BitVec 8)) : flN (shaL m) = leN (shaL m) % lN := by
  unfold flN; rw [if_neg (by rw [shaL_len]; decide)]
set_option maxRecDepth 20000 in
set_option maxHeartbeats 2000000 in
theorem hashed_any (yss : List (List (BitVec 8))) (v : Value) (w : World) (hr : RdZ w v yss) (hn : yss.length ≤ 1000) (hl : yss.flatten.length ≤ 140737488351360) : Calls Try.prog 23 #[v] w fun e w' => e = .returned (wd (hashN yss)) ∧ Below w.heap.size w w' := by
  have HR := hid hr
  obtain ⟨a, cap, rfl, hcap, hel⟩ := hr
  have HA : Hid (0 < yss.length → ∃ b off, a = some ⟨b, off, none⟩) := hid fun hp => by
    obtain ⟨b, off, e, _⟩ := hel (by intro e; rw [e] at hp; simp at hp)
    exact ⟨b, off, e⟩
  clear hel
  have hC0 := Blk.new 25 w (cellsW 0)
  have hb0 : Below w.heap.size w (w.alloc (.cells (cellsW 0) 25)) := (Below.refl _ _).alloc (Nat.le_refl _) _
  unfold wd
  go_enter Try.func23, Try.ntmps23
  go_wp2_with (refine wpList_alloc_new rfl 25 rfl (cellsW 0) zWd ?_; simp only [Act.put, pvA, pv0, pv1, World.size_alloc])
  refine (snew_any _).mono ?_
  rintro e w1 ⟨hb, rfl, hbs, hH1', hb1⟩
  rw [World.size_alloc] at hbs
  have hH1 := hid (AtS.zero hH1' (came yss 0))
  have hC1 := hid (hC0.step hb1)
  have hb1' := hb0.trans (hb1.mono hb0.size)
  have hz1 := hid hH1'.lt
  clear hH1' hC0 hb0 hb1
  go_wp2
  go_loopw [12, 5] (fun iv av wr => ∃ k : Nat, k ≤ yss.length ∧ iv = .int .i64 k ∧ Hid (AtS wr hb shaH (came yss k) (came yss k).length (BitVec.ofNat 64 (came yss k).length)) ∧ Hid (Blk 25 wr w.heap.size (cellsW 0)) ∧ Below w.heap.size w wr)
    (fun iv _ _ => yss.length - (intOf iv).toNat)
  case atStart => exact ⟨0, by omega, rfl, hid (by
    have h := hH1.out
    rw [show (came yss 0) = [] from by simp [came]] at h ⊢
    exact h), hC1, hb1'⟩
  case round =>
    clear hH1 hC1 hb1' hz1
    obtain ⟨k, hk, rfl, hH, hC, hbw⟩ := hrel
    by_cases hlt : k < yss.length
    · obtain ⟨b, off, rfl⟩ := HA.out (by omega)
      obtain ⟨hbl, u, hcu, hru⟩ := HR.out.at k hlt
      have hcs := came_succ yss k hlt
      have hle := came_le yss (k + 1)
      rw [hcs, List.length_append] at hle
      have hrx := hru.block
      have HRX : Hid (∀ b off n c, u = .slice (some ⟨b, off, none⟩) n c → 0 < n → b ≠ hb) := hid fun b off n c e h0 => by have := hrx b off n c e h0; omega
      have hru' := hid (hru.below hbw)
      have c1 : wr.cell? ⟨b, off + k, none⟩ = some u := (hbw.cell (p := ⟨b, off + k, none⟩) hbl).trans hcu
      clear hcu hru hrx
      obtain ⟨ys, hys⟩ : ∃ ys, ys = yss.getD k [] := ⟨_, rfl⟩
      rw [← hys] at hru' hcs hle
      clear hys
      obtain ⟨ua, uc, hue, huc, _⟩ := id hru'.out
      subst hue
      obtain ⟨T, hT⟩ : ∃ T, T = came yss k := ⟨_, rfl⟩
      rw [← hT] at hH hcs hle
      have HCS := hid hcs
      clear hT hcs
      have hz := hid hH.out.lt
      go_wp2_with fail
      refine (swrite_any hb shaH (T ++ ys) T.length _ _ wr rfl (by simp) (hH.out.more ys) (by rw [List.drop_left]; exact RdX.of hru'.out HRX.out) (by simp; omega)).mono ?_
      rintro e w3 ⟨rfl, hH3, hg3⟩
      rw [List.length_append, ofNat_more] at hH3
      have HH3 := hid (show AtS w3 hb shaH (came yss (k + 1)) (came yss (k + 1)).length (BitVec.ofNat 64 (came yss (k + 1)).length) by
        rw [HCS.out, List.length_append]; exact hH3)
      have hC3 := hid (hC.out.grown hg3 (by intro e; simp at e; omega))
      have hb3 : Below w.heap.size w w3 := hbw.grown hg3 hbw.size (fun k e => by simp at e; omega)
      clear hH3 hH hC hbw hru' c1 hg3 hz HCS hle
      go_wp2
      go_roundw
      case rel => exact ⟨k + 1, by omega, by go_num, HH3, hC3, hb3⟩
      case measure => simp [intOf]; omega
    · obtain rfl : k = yss.length := by omega
      have hE : came yss yss.length = yss.flatten := by unfold came; rw [List.take_length]
      rw [hE] at hH
      have hS := hid (shaL_len yss.flatten)
      have hN := hid (show hashN yss = flN (shaL yss.flatten) from (flE_sha _).symm)
      clear hE hlt hk
      go_wp2_with fail
      refine (shsum_any hb shaH _ wr rfl hH.out (by omega)).mono ?_
      rintro e w5 ⟨rfl, hb5⟩
      rw [shaL_def]
      have hC5 := hid (hC.out.step hb5)
      have hb6 := hbw.trans (hb5.mono hbw.size)
      obtain ⟨s, hs⟩ : ∃ s, s = shaL yss.flatten := ⟨_, rfl⟩
      rw [← hs] at hS hN ⊢
      clear hH hC hbw hs hb5
      have iS := hid (show (Try.prog.info? 32).map (·.size) = some (cellsY s).size by rw [size_cellsY, hS.out]; exact i64h)
      have sl6 : ∀ (b : Nat) (w : World), (Instr.sliceAt 32 (.pointer (some ⟨b, 0, none⟩)) none none none).run Try.prog w = .ok (.slice (some ⟨b, 0, none⟩) 64 64) w := fun b w => sl_all u64h sY1 b 0 w
      obtain ⟨G, hG⟩ : ∃ G, G = w5.heap.size := ⟨_, rfl⟩
      have HG := hid hG
      have hC6 := hid (hC5.out.alloc (.cells (cellsY s) 32))
      have hS6 := hid (ArrY.new 32 w5 s)
      have hb7 := hb6.alloc hb6.size (.cells (cellsY s) 32)
      clear hC5 hb6 hG
      go_wp2_with (refine wpList_allocStore 32 21 6 (cellsY s) (cellsY (zY 64)) rfl rfl rfl rfl rfl rfl (by decide) (by simp) rfl (by kernel_rfl) (by rw [size_cellsY, size_cellsY, hS.out, zY_len]) iS.out (one_cellsY s) ?_; simp only [Act.put, pvA, pv0, pv1])
      rw [← HG.out] at hS6 ⊢
      generalize w5.alloc (.cells (cellsY s) 32) = w6 at hC6 hS6 hb7 ⊢
      have hR := hid (hS6.out.rd 64 (by rw [hS.out]; exact Nat.le_refl _))
      rw [hS.out] at hR
      refine (fLfold_any s _ w6 hR.out).mono ?_
      rintro e w7 ⟨rfl, hb8⟩
      have hC7 := hid (hC6.out.step hb8)
      have hb9 := hb7.trans (hb8.mono hb7.size)
      clear hR hC6 hS6 hb7 hb8 HG sl6
      obtain ⟨r, hr⟩ : ∃ r, r = flN s := ⟨_, rfl⟩
      unfold wd
      rw [← hr] at hN ⊢
      obtain ⟨fe, hfe⟩ : ∃ z, z = flE s := ⟨_, rfl⟩
      rw [← hfe]
      clear hr hfe
      obtain ⟨G2, hG2⟩ : ∃ G, G = w7.heap.size := ⟨_, rfl⟩
      have HG2 := hid hG2
      have iR := hid (iW r)
      have hlt7 := hC7.out.lt
      have hC8 := hid (hC7.out.alloc (.cells (cellsW r) 25))
      have hR8 := hid (ArrW.new 25 w7 r)
      have hb10 := hb9.alloc hb9.size (.cells (cellsW r) 25)
      clear hC7 hb9 hG2
      have kb2 := hC8.out.set (cellsW r)
      have hbl6 := below_set hb10 w.heap.size (Nat.le_refl _) (cellsW r)
      have HK := hid kb2
      clear kb2
      go_wp2_with (first | (refine wpList_allocStore 25 25 7 (cellsW r) (cellsW 0) rfl rfl rfl rfl rfl rfl (by decide) (by simp) rfl (by kernel_rfl) (by rw [size_cellsW, size_cellsW]) iR.out (one_cellsW _) ?_; simp only [Act.put, pvA, pv0, pv1]) | (refine wpList_get _ _ rfl rfl _ rfl _ _ hR8.out gWd iR.out ?_; simp only [Act.put, pvA, pv0, pv1]) | (refine wpList_set _ _ _ rfl rfl rfl _ _ rfl rfl _ _ hC8.out iR.out (by rw [size_cellsW, size_cellsW]) (one_cellsW _) ?_))
      refine ret_blk w.heap.size 25 _ rfl rfl HK.out gWd iR.out rfl ?_
      exact ⟨by rw [hN.out], hbl6⟩
end Go.Proofs.Ytejnnghfelpioaa
namespace Go.Proofs.Ytejnnghfelpioaa
open Go.RowKit
def seedL (m : List (BitVec 8)) : List (BitVec 8) := ((shaL m).set 0 (ny (shaL m) 0 &&& 248)).set 31 ((ny (shaL m) 31 &&& 63) ||| 64)
def seedA (m : List (BitVec 8)) : Nat := leN ((seedL m).take 32)
def seedB (m : List (BitVec 8)) : List (BitVec 8) := (seedL m).drop 32
def seedK (m : List (BitVec 8)) : List (BitVec 8) := encL (mulP (seedA m) baseP)
def kvL (k : List (BitVec 8)) : List Value := k.map fun x => Value.int .u8 (yv x)
def secC (a : Nat) (v : Value) (k : List (BitVec 8)) : Array Value := (.int .u64 (lm a 0) :: .int .u64 (lm a 1) :: .int .u64 (lm a 2) :: .int .u64 (lm a 3) :: v :: kvL k).toArray
theorem cellsY_kv (k : List (BitVec 8)) : cellsY k = (kvL k).toArray := rfl
theorem kvL_len (k : List (BitVec 8)) : (kvL k).length = k.length := by simp [kvL]
theorem secC_size (a : Nat) (v : Value) (k : List (BitVec 8)) : (secC a v k).size = 5 + k.length := by simp [secC, kvL_len]; omega
theorem secC_low (a : Nat) (v : Value) (k : List (BitVec 8)) (j : Nat) (hj : j < 4) : (secC a v k)[j]? = some (.int .u64 (lm a j)) := by
  match j, hj with
  | 0, _ => rfl
  | 1, _ => rfl
  | 2, _ => rfl
  | 3, _ => rfl
theorem secC_word (a : Nat) (v : Value) (k : List (BitVec 8)) : ∀ j u, (cellsW a)[j]? = some u → (secC a v k)[0 + j]? = some u := fun j u hu => by
  have hj : j < 4 := (Array.getElem?_eq_some_iff.1 hu).1
  rw [Nat.zero_add, secC_low _ _ _ _ hj, ← hu]
  match j, hj with
  | 0, _ => rfl
  | 1, _ => rfl
  | 2, _ => rfl
  | 3, _ => rfl
theorem secC_key (a : Nat) (v : Value) (k : List (BitVec 8)) : ∀ j u, (cellsY k)[j]? = some u → (secC a v k)[5 + j]? = some u := fun j u hu => by
  rw [cellsY_kv] at hu
  unfold secC
  rw [← hu, Nat.add_comm]
  simp
theorem secC_setW (a a' : Nat) (v : Value) (k : List (BitVec 8)) (j : Nat) (u : Value) (hj : j < 4) (h : (cellsW a).setIfInBounds j u = cellsW a') : (secC a v k).setIfInBounds j u = secC a' v k := by
  have e : ∀ i, i < 4 → (cellsW a')[i]? = if i = j then some u else some (.int .u64 (lm a i)) := fun i hi => by
    rw [← h, Array.getElem?_setIfInBounds]
    by_cases hij : j = i
    · subst hij; rw [if_pos rfl, if_pos rfl, if_pos (by simpa [size_cellsW] using hi)]
    · rw [if_neg hij, if_neg (fun e => hij e.symm)]
      match i, hi with
      | 0, _ => rfl
      | 1, _ => rfl
      | 2, _ => rfl
      | 3, _ => rfl
  have g : ∀ i, i < 4 → (cellsW a')[i]? = some (.int .u64 (lm a' i)) := fun i hi => by
    match i, hi with
    | 0, _ => rfl
    | 1, _ => rfl
    | 2, _ => rfl
    | 3, _ => rfl
  have q : ∀ i, i < 4 → Value.int .u64 (lm a' i) = if i = j then u else .int .u64 (lm a i) := fun i hi => by
    have := e i hi
    rw [g i hi] at this
    split at this <;> rename_i hc
    · rw [if_pos hc]; simpa using this
    · rw [if_neg hc]; exact Option.some.inj this
  unfold secC
  rw [q 0 (by decide), q 1 (by decide), q 2 (by decide), q 3 (by decide)]
  match j, hj with
  | 0, _ => rfl
  | 1, _ => rfl
  | 2, _ => rfl
  | 3, _ => rfl
theorem secC_setV (a : Nat) (v v' : Value) (k : List (BitVec 8)) : (secC a v k).setIfInBounds 4 v' = secC a v' k := rfl
theorem secC_setK (a : Nat) (v : Value) (k k' : List (BitVec 8)) (h : k.length = k'.length) : setPart (secC a v k) 5 (cellsY k') = secC a v k' := by
  unfold setPart
  rw [size_cellsY, cellsY_kv]
  unfold secC
  simp
  rw [kvL_len]
  omega
theorem one_secC (a : Nat) (v : Value) (k : List (BitVec 8)) (hv : v.oneCell' = true) : (secC a v k).all (·.oneCell') = true := by
  have := one_cellsY k
  rw [cellsY_kv] at this
  unfold secC
  simp [Value.oneCell'] at this hv ⊢
  exact ⟨hv, this⟩
theorem iOne64 : (Try.prog.info? 23).map (·.size) = some 1 := by kernel_rfl
theorem blk_rd {t : TypeId} {w : World} {g : Nat} {ys : List (BitVec 8)} (h : Blk t w g (cellsY ys)) (l n cap : Nat) (hn : l + n ≤ ys.length) (hc : n ≤ cap) : RdY w (.slice (some ⟨g, l, none⟩) n cap) ((ys.drop l).take n) := by
  have hl : ((ys.drop l).take n).length = n := by rw [List.length_take, List.length_drop]; omega
  refine ⟨some ⟨g, l, none⟩, cap, by rw [hl], by rw [hl]; exact hc, fun _ => ⟨g, l, rfl, h.lt, fun j hj => ?_⟩⟩
  rw [hl] at hj
  refine h.cell (l + j) _ ?_
  rw [ny_take _ _ _ hj, ny_drop]
  simp [cellsY, ny, show l + j < ys.length by omega]
theorem gSec : aggT Try.prog 58 = true := by kernel_rfl
theorem uSec : ∃ d, Try.prog.underlying 58 = some (.struct d) := ⟨_, rfl⟩
theorem iSec37 : (Try.prog.info? 58).map (·.size) = some 37 := by kernel_rfl
theorem iSec (a : Nat) (v : Value) (k : List (BitVec 8)) (h : k.length = 32) : (Try.prog.info? 58).map (·.size) = some (secC a v k).size := by rw [secC_size, h]; exact iSec37
theorem zSec : (Try.prog.info? 58).bind (·.zero) = some (.agg (secC 0 (.slice none 0 0) zKey)) := by kernel_rfl
theorem bSec0 : Try.prog.built 58 [] = some (secC 0 (.slice none 0 0) zKey) := by kernel_rfl
theorem iSl1 : (Try.prog.info? 22).map (·.size) = some 1 := by kernel_rfl
theorem yv_and (x y : BitVec 8) : bits .and .u8 (yv x) (yv y) = yv (x &&& y) := by
  unfold yv; rw [u8_and_nat _ _ x.isLt y.isLt, BitVec.toNat_and]
theorem little_step (ys : List (BitVec 8)) (i : Nat) (hi : i < 32) (hl : i < ys.length) : ∃ V : Int, bits .or .u64 (lm (leN (ys.take i)) (i / 8)) (IntKind.u64.wrap (yv (ny ys i) * 2 ^ (8 * (i % 8)))) = V ∧ (cellsW (leN (ys.take i))).setIfInBounds (i / 8) (.int .u64 V) = cellsW (leN (ys.take (i + 1))) := by
  obtain ⟨l, hL⟩ : ∃ l, l = ys.map fun y => y.toNat := ⟨_, rfl⟩
  have hD : Dig l := by rw [hL]; exact le_dig ys
  have hnd : ((nd l i : Nat) : Int) = yv (ny ys i) := by rw [hL]; exact le_nd ys i
  have hll : l.length = ys.length := by rw [hL, List.length_map]
  have ht : ∀ j, leN (ys.take j) = num (l.take j) := fun j => by unfold leN; rw [hL, List.map_take]
  rw [ht, ht]
  have gx := nd_dig hD i
  have hxl := num_take_lt l hD i
  have hq := cellsW_add (num (l.take i)) (nd l i) i hxl gx (by omega)
  have hn : num (l.take (i + 1)) = num (l.take i) + 256 ^ i * nd l i := num_take_succ l i
  have hle : nd l i * 2 ^ (8 * (i % 8)) < 18446744073709551616 := by
    have h1 : 2 ^ (8 * (i % 8)) ≤ 2 ^ 56 := Nat.pow_le_pow_right (by omega) (by omega)
    have h2 : nd l i * 2 ^ (8 * (i % 8)) ≤ 255 * 2 ^ 56 := Nat.mul_le_mul (by omega) h1
    omega
  have hv : bits .or .u64 (lm (num (l.take i)) (i / 8)) (IntKind.u64.wrap (((nd l i : Nat) : Int) * 2 ^ (8 * (i % 8)))) = ((lmN (num (l.take i)) (i / 8) ||| nd l i * 2 ^ (8 * (i % 8)) : Nat) : Int) := by
    rw [show ((nd l i : Nat) : Int) * 2 ^ (8 * (i % 8)) = ((nd l i * 2 ^ (8 * (i % 8)) : Nat) : Int) by rw [Int.natCast_mul, Int.natCast_pow]; rfl]
    rw [show IntKind.u64.wrap ((nd l i * 2 ^ (8 * (i % 8)) : Nat) : Int) = ((nd l i * 2 ^ (8 * (i % 8)) : Nat) : Int) by rw [IntKind.wrap_u64]; omega]
    exact u64_or_nat _ _ (lmN_lt _ _) hle
  rw [← hnd]
  exact ⟨_, hv, by rw [hq, hn]⟩
set_option maxRecDepth 100000 in
set_option maxHeartbeats 4000000 in
theorem opened_bad (m : List (BitVec 8)) (v : Value) (w : World) (hr : RdY w v m) (hl : m.length ≠ 32) : Calls Try.prog 22 #[v] w fun e w' => e = .returned (.tuple #[.agg (secC 0 (.slice none 0 0) zKey), .int .i64 1]) ∧ Below w.heap.size w w' := by
  obtain ⟨ra, rc, rfl, hrc, hx⟩ := hr
  clear hx
  have hl2 : ¬ (m.length : Int) = 32 := by omega
  obtain ⟨w0, hw0, k1, hbl0⟩ := entry1 w 58 (secC 0 (.slice none 0 0) zKey)
  have hb1 := hid k1
  have iS := hid (iSec 0 (.slice none 0 0) zKey rfl)
  have nS := hid (one_secC 0 (.slice none 0 0) zKey rfl)
  clear k1
  go_enter Try.func22, Try.ntmps22
  ((repeat ((fail_if_success (with_reducible refine Go.at_region ?_)); go_step)); refine wp_region_lit ?_)
  (refine wpList_alloc_new rfl 58 rfl (secC 0 (.slice none 0 0) zKey) zSec ?_; simp only [Act.put, pvA, pv0, pv1]; (try simp only [World.size_alloc]))
  (refine wpList_plain rfl fun K hK => ?_; go_simp; refine hK _ _ ?_; clear hK K; (try simp only [Act.put, pvA, pv0, pv1]))
  refine wpList_nil ?_
  rw [← hw0]
  clear hw0
  ((repeat ((fail_if_success (with_reducible refine Go.at_region ?_)); go_step)); refine wp_region_lit ?_)
  iterate 3 (refine wpList_plain rfl fun K hK => ?_; go_simp; refine hK _ _ ?_; clear hK K; (try simp only [Act.put, pvA, pv0, pv1]))
  refine wpList_nil ?_
  ((repeat ((fail_if_success (with_reducible refine Go.at_region ?_)); go_step)); refine wp_region_lit ?_)
  (refine wpList_built rfl 58 _ rfl (secC 0 (.slice none 0 0) zKey) (by first | (simp only [List.map_toArray, List.map_cons, List.map_nil]; exact bSec0) | exact bSec0) ?_; simp only [Act.put, pvA, pv0, pv1])
  (refine wpList_set _ _ _ rfl rfl rfl _ _ rfl rfl _ _ hb1.out iS.out rfl nS.out ?_)
  (refine wpList_plain rfl fun K hK => ?_; go_simp; refine hK _ _ ?_; clear hK K; (try simp only [Act.put, pvA, pv0, pv1]))
  refine wpList_nil ?_
  have kb := hb1.out.set (secC 0 (.slice none 0 0) zKey)
  have hbl := below_set hbl0 w.heap.size (Nat.le_refl _) (secC 0 (.slice none 0 0) zKey)
  (repeat ((fail_if_success (with_reducible refine Go.at_region ?_)); go_step))
  obtain ⟨d, hd⟩ := uSec
  refine bodyPost_ret (results_row_tmp rfl _ _ w.heap.size 58 (secC 0 (.slice none 0 0) zKey) (0, 0) _ rfl kb hd rfl iS.out) rfl ⟨rfl, hbl⟩
set_option maxRecDepth 100000 in
set_option maxHeartbeats 4000000 in
theorem opened_good (m : List (BitVec 8)) (v : Value) (w : World) (hr : RdY w v m) (hl : m.length = 32) : Calls Try.prog 22 #[v] w fun e w' => ∃ v', e = .returned (.tuple #[.agg (secC (seedA m) v' (seedK m)), .int .i64 0]) ∧ RdY w' v' (seedB m) ∧ Below w.heap.size w w' := by
  have hS := hid fun w h => ssum_any m v w h (by omega)
  have HR := hid hr
  obtain ⟨ra, rc, rfl, hrc, hx⟩ := hr
  clear hx
  rw [hl] at hS HR ⊢
  obtain ⟨w0, hw0, k1, hbl0⟩ := entry1 w 58 (secC 0 (.slice none 0 0) zKey)
  have hb1 := hid k1
  clear k1
  have HR0 := hid (HR.out.below (by have := hbl0; exact this))
  have hlS := hid (shaL_len m)
  obtain ⟨s, hs⟩ : ∃ s, s = shaL m := ⟨_, rfl⟩
  rw [← hs] at hS hlS
  have HSs := hid hs
  clear hs HR
  have iS64 := hid (show (Try.prog.info? 32).map (·.size) = some (cellsY s).size by rw [size_cellsY, hlS.out]; exact i64h)
  go_enter Try.func22, Try.ntmps22
  ((repeat ((fail_if_success (with_reducible refine Go.at_region ?_)); go_step)); refine wp_region_lit ?_)
  (refine wpList_alloc_new rfl 58 rfl (secC 0 (.slice none 0 0) zKey) zSec ?_; simp only [Act.put, pvA, pv0, pv1]; (try simp only [World.size_alloc]))
  (refine wpList_plain rfl fun K hK => ?_; go_simp; refine hK _ _ ?_; clear hK K; (try simp only [Act.put, pvA, pv0, pv1]))
  refine wpList_nil ?_
  rw [← hw0]
  clear hw0
  ((repeat ((fail_if_success (with_reducible refine Go.at_region ?_)); go_step)); refine wp_region_lit ?_)
  iterate 3 (refine wpList_plain rfl fun K hK => ?_; go_simp; refine hK _ _ ?_; clear hK K; (try simp only [Act.put, pvA, pv0, pv1]))
  refine wpList_nil ?_
  ((repeat ((fail_if_success (with_reducible refine Go.at_region ?_)); go_step)); refine wp_region_lit ?_)
  (refine wpList_plain rfl fun K hK => ?_; go_simp; refine hK _ _ ?_; clear hK K; (try simp only [Act.put, pvA, pv0, pv1]))
  (refine wpList_plain rfl fun K hK => ?_; go_simp; refine (hS.out _ HR0.out).mono ?_; rintro _ w1 ⟨rfl, hs1⟩; refine hK _ _ ?_; clear hK K; (try simp only [Act.put, pvA, pv0, pv1]))
  (refine wpList_new 32 (cellsY (zY 64)) rfl rfl zi64 ?_; intro G4 w2 hle2 hs2 hn2; (try simp only [Act.put, pvA, pv0, pv1]))
  (refine wpList_set _ _ _ rfl rfl rfl _ _ rfl rfl _ _ hn2 iS64.out (by rw [size_cellsY, size_cellsY, hlS.out, zY_len]) (one_cellsY s) ?_)
  refine wpList_nil ?_
  have n41 : w.heap.size ≠ G4 := by have := hb1.out.lt; have := hs1.size; omega
  have hG4 : w.heap.size ≤ G4 := by have := hbl0.size; have := hs1.size; omega
  have fb1 := ((hb1.out.step hs1).step hs2).other n41 (cellsY s)
  have fb4 := hn2.set (cellsY s)
  have hbl3 := below_set (hbl0.trans ((hs1.trans (hs2.mono hs1.size)).mono hbl0.size)) G4 hG4 (cellsY s)
  generalize w2.setRow G4 (cellsY s) = w3 at fb1 fb4 hbl3 ⊢
  clear hs1 hle2 hs2 hn2 hb1 hbl0 HR0 hS
  have hb1 := hid fb1
  have hb4 := hid fb4
  clear fb1 fb4
  have e0 : (cellsY s)[0]? = some (.int .u8 (yv (ny s 0))) := by have := hlS.out; simp [cellsY, ny, show 0 < s.length by omega]
  have e15 : bits .and .u8 (yv (ny s 0)) 248 = yv (ny s 0 &&& 248) := yv_and (ny s 0) 248
  have q0 : (cellsY s).setIfInBounds 0 (.int .u8 (yv (ny s 0 &&& 248))) = cellsY (s.set 0 (ny s 0 &&& 248)) := by simp [cellsY, List.map_set]
  ((repeat ((fail_if_success (with_reducible refine Go.at_region ?_)); go_step)); refine wp_region_lit ?_)
  (refine wpList_plain rfl fun K hK => ?_; go_simp; refine hK _ _ ?_; clear hK K; (try simp only [Act.put, pvA, pv0, pv1]))
  (refine wpList_getcell 5 (.tmp 14) rfl rfl G4 0 rfl (.int .u8 (yv (ny s 0))) (hb4.out.cell 0 _ e0) o8 ?_; simp only [Act.put, pvA, pv0, pv1])
  iterate 2 (refine wpList_plain rfl fun K hK => ?_; go_simp; refine hK _ _ ?_; clear hK K; (try simp only [Act.put, pvA, pv0, pv1]))
  (refine wpList_setcell 5 (.tmp 17) (.tmp 16) rfl rfl rfl G4 0 (.int .u8 (yv (ny s 0 &&& 248))) rfl rfl 32 (cellsY s) hb4.out (by rw [size_cellsY, hlS.out]; decide) iOne8 rfl ?_)
  rw [q0]
  refine wpList_nil ?_
  have hlS1 := hid (show (s.set 0 (ny s 0 &&& 248)).length = 64 by rw [List.length_set, hlS.out])
  have e31s : ny (s.set 0 (ny s 0 &&& 248)) 31 = ny s 31 := by rw [ny_set _ _ _ _ (by rw [hlS.out]; decide), if_neg (by decide)]
  have HS1 := hid (show seedL m = (s.set 0 (ny s 0 &&& 248)).set 31 ((ny s 31 &&& 63) ||| 64) by unfold seedL; rw [← HSs.out])
  rw [← e31s] at HS1
  obtain ⟨s1, hs1⟩ : ∃ s1, s1 = s.set 0 (ny s 0 &&& 248) := ⟨_, rfl⟩
  rw [← hs1] at hlS1 HS1 ⊢
  have fb1 := hid (hb1.out.other n41 (cellsY s1))
  have fb4 := hid (hb4.out.set (cellsY s1))
  have hbl4 := below_set hbl3 G4 hG4 (cellsY s1)
  generalize w3.setRow G4 (cellsY s1) = w4 at fb1 fb4 hbl4 ⊢
  clear hs1 e31s hb1 hb4 hbl3 e0 e15 q0 hlS HSs iS64
  have e0 : (cellsY s1)[31]? = some (.int .u8 (yv (ny s1 31))) := by have := hlS1.out; simp [cellsY, ny, show 31 < s1.length by omega]
  have e20 : bits .and .u8 (yv (ny s1 31)) 63 = yv (ny s1 31 &&& 63#8) := yv_and (ny s1 31) 63
  have e21 : bits .or .u8 (yv (ny s1 31 &&& 63#8)) 64 = yv ((ny s1 31 &&& 63#8) ||| 64#8) := yv_or' (ny s1 31 &&& 63) 64
  have q0 : (cellsY s1).setIfInBounds 31 (.int .u8 (yv ((ny s1 31 &&& 63) ||| 64))) = cellsY (s1.set 31 ((ny s1 31 &&& 63) ||| 64)) := by simp [cellsY, List.map_set]
  ((repeat ((fail_if_success (with_reducible refine Go.at_region ?_)); go_step)); refine wp_region_lit ?_)
  (refine wpList_plain rfl fun K hK => ?_; go_simp; refine hK _ _ ?_; clear hK K; (try simp only [Act.put, pvA, pv0, pv1]))
  (refine wpList_getcell 5 (.tmp 18) rfl rfl G4 31 rfl (.int .u8 (yv (ny s1 31))) (fb4.out.cell 31 _ e0) o8 ?_; simp only [Act.put, pvA, pv0, pv1])
  iterate 3 (refine wpList_plain rfl fun K hK => ?_; go_simp; refine hK _ _ ?_; clear hK K; (try simp only [Act.put, pvA, pv0, pv1]))
  (refine wpList_setcell 5 (.tmp 22) (.tmp 21) rfl rfl rfl G4 31 (.int .u8 (yv ((ny s1 31 &&& 63) ||| 64))) rfl rfl 32 (cellsY s1) fb4.out (by rw [size_cellsY, hlS1.out]; decide) iOne8 rfl ?_)
  rw [q0]
  refine wpList_nil ?_
  have hlS := hid (show (s1.set 31 ((ny s1 31 &&& 63) ||| 64)).length = 64 by rw [List.length_set, hlS1.out])
  rw [← HS1.out] at hlS ⊢
  obtain ⟨h, hh⟩ : ∃ h, h = seedL m := ⟨_, rfl⟩
  rw [← hh] at hlS ⊢
  have HH := hid hh
  have hb1 := hid (fb1.out.other n41 (cellsY h))
  have hb4 := hid (fb4.out.set (cellsY h))
  have hbl5 := below_set hbl4 G4 hG4 (cellsY h)
  generalize w4.setRow G4 (cellsY h) = w5 at hb1 hb4 hbl5 ⊢
  clear hh fb1 fb4 hbl4 e0 e20 e21 q0 HS1 hlS1
  ((repeat ((fail_if_success (with_reducible refine Go.at_region ?_)); go_step)); refine wp_region_lit ?_)
  (refine wpList_new 58 (secC 0 (.slice none 0 0) zKey) rfl rfl zSec ?_; intro G5 w6 hle6 hs6 hn6; (try simp only [Act.put, pvA, pv0, pv1]))
  refine wpList_nil ?_
  have sl23 : ∀ (b : Nat) (w : World), (Instr.sliceAt 32 (.pointer (some ⟨b, 0, none⟩)) none (some (.int .i64 32)) none).run Try.prog w = .ok (.slice (some ⟨b, 0, none⟩) 32 64) w := fun b w => sl_to u64h sY1 32 (by decide) b 0 w
  ((repeat ((fail_if_success (with_reducible refine Go.at_region ?_)); go_step)); refine wp_region_lit ?_)
  iterate 3 (refine wpList_plain rfl fun K hK => ?_; go_simp; refine hK _ _ ?_; clear hK K; (try simp only [Act.put, pvA, pv0, pv1]))
  refine wpList_nil ?_
  have fb1 := hid (hb1.out.step hs6)
  have fb4 := hid (hb4.out.step hs6)
  have fb5 := hid hn6
  have hbl6 := hbl5.trans (hs6.mono hbl5.size)
  have n51 : w.heap.size ≠ G5 := by have := hb1.out.lt; omega
  have n54 : G4 ≠ G5 := by have := hb4.out.lt; omega
  have hG5 : w.heap.size ≤ G5 := by have := hbl5.size; omega
  clear hs6 hn6 hle6 hb1 hb4 hbl5 sl23
  go_wp2
  go_loopw [25] (fun iv wr => ∃ i : Nat, i ≤ 32 ∧ iv = .int .i64 (i : Int) ∧ Hid (Blk 58 wr w.heap.size (secC 0 (.slice none 0 0) zKey)) ∧ Hid (Blk 32 wr G4 (cellsY h)) ∧ Hid (Blk 58 wr G5 (secC (leN (h.take i)) (.slice none 0 0) zKey)) ∧ Below w.heap.size w wr)
    (fun iv _ => 32 - (intOf iv).toNat)
  case atStart => exact ⟨0, by omega, rfl, fb1, fb4, fb5, hbl6⟩
  case round =>
    clear fb1 fb4 fb5 hbl6
    obtain ⟨i, hi, rfl, hb1, hb4, hb5, hb⟩ := hrel
    by_cases hlt : i < 32
    · have cx : wr.cell? ⟨G4, i, none⟩ = some (.int .u8 (yv (ny h i))) := hb4.out.cell i _ (by have := hlS.out; simp [cellsY, ny, show i < h.length by omega])
      have c1 : wr.cell? ⟨G5, i / 8, none⟩ = some (.int .u64 (lm (leN (h.take i)) (i / 8))) := hb5.out.cell (i / 8) _ (secC_low _ _ _ _ (by omega))
      have f1 := hb5.out.free (i / 8)
      have l1 := hb5.out.lt
      have lb := hb4.out.lt
      have hsh : (8 * ((i : Int) % 8)).toNat = 8 * (i % 8) := by omega
      obtain ⟨V, hV, hQ⟩ := little_step h i hlt (by rw [hlS.out]; omega)
      have HV := hid hV
      have HQ := hid (secC_setW _ _ (.slice none 0 0) zKey (i / 8) _ (by omega) hQ)
      have y0 := yv_nonneg (ny h i)
      have y1 := yv_lt (ny h i)
      clear hV hQ
      go_wp2_with fail
      (refine wp_region_ext_tail 14 (by kernel_rfl) (by kernel_rfl) ?_; simp only [List.take_succ_cons, List.take_zero, List.drop_succ_cons, List.drop_zero]; (repeat (go_big_quiet_step (first | fail))); refine wpQuiet_nil ?_; rintro _ ⟨xw, rfl⟩)
      rw [HV.out]
      have hbx := wr.ext_below xw
      have gb1 := (hb1.out.step hbx).other n51 (secC (leN (h.take (i + 1))) (.slice none 0 0) zKey)
      have gb4 := (hb4.out.step hbx).other n54 (secC (leN (h.take (i + 1))) (.slice none 0 0) zKey)
      have gb5 := (hb5.out.step hbx).set (secC (leN (h.take (i + 1))) (.slice none 0 0) zKey)
      have gb := below_set (hb.trans (hbx.mono hb.size)) G5 hG5 (secC (leN (h.take (i + 1))) (.slice none 0 0) zKey)
      have hX5 := hb5.out.step hbx
      generalize wr.ext xw = wz at *
      (refine wpList_setcell 23 (.tmp 43) (.tmp 41) rfl rfl rfl G5 (i / 8) (.int .u64 V) rfl rfl 58 (secC (leN (h.take i)) (.slice none 0 0) zKey) hX5 (by rw [secC_size]; omega) iOne64 rfl ?_)
      rw [HQ.out]
      generalize wz.setRow G5 (secC (leN (h.take (i + 1))) (.slice none 0 0) zKey) = wy at gb1 gb4 gb5 gb ⊢
      have HG1 := hid gb1
      have HG4 := hid gb4
      have HG5 := hid gb5
      clear cx c1 f1 l1 lb hbx hX5 gb1 gb4 gb5 hb1 hb4 hb5 hb HQ HV
      go_wp2
      go_roundw
      case rel => exact ⟨i + 1, by omega, by go_num, HG1, HG4, HG5, gb⟩
      case measure => simp [intOf]; omega
    · obtain rfl : i = 32 := by omega
      have HA := hid (show leN (h.take 32) = seedA m by unfold seedA; rw [← HH.out])
      rw [HA.out] at hb5
      have sl45 : ∀ (b : Nat) (w : World), (Instr.sliceAt 32 (.pointer (some ⟨b, 0, none⟩)) (some (.int .i64 32)) none none).run Try.prog w = .ok (.slice (some ⟨b, 32, none⟩) 32 32) w := fun b w => sl_from u64h sY1 32 (by decide) b 0 w
      go_wp2_with fail
      have hlB : (seedB m).length = 32 := by unfold seedB; rw [← HH.out, List.length_drop, hlS.out]
      have hRB : RdY wr (.slice (some ⟨G4, 32, none⟩) 32 32) (seedB m) := by
        have := blk_rd hb4.out 32 32 32 (by rw [hlS.out]; decide) (Nat.le_refl _)
        rw [List.take_of_length_le (by rw [List.length_drop, hlS.out]; decide)] at this
        unfold seedB; rw [← HH.out]; exact this
      refine (clone_any (seedB m) _ wr hRB (by omega)).mono ?_
      rintro _ w7 ⟨v', rfl, hR7, hfr, hs7⟩
      have h1 : v'.oneCell' = true := by obtain ⟨a, c, rfl, _⟩ := hR7; rfl
      have gb1 := (hb1.out.step hs7).other n51 (secC (seedA m) v' zKey)
      have gb5 := (hb5.out.step hs7).set (secC (seedA m) v' zKey)
      have hbz := hb.trans (hs7.mono hb.size)
      have gb := below_set hbz G5 hG5 (secC (seedA m) v' zKey)
      have hX5 := hid (hb5.out.step hs7)
      have HR7 := hid hR7
      have hq := hid (secC_setV (seedA m) (.slice none 0 0) v' zKey)
      have hR8 := hR7.other (g := G5) (fun a n c e => by have := hfr a n c e; have := hb5.out.lt; omega) (secC (seedA m) v' zKey)
      have HR8 := hid hR8
      have HG1 := hid gb1
      have HG5 := hid gb5
      have hne : ∀ a n c, v' = .slice (some a) n c → a.block ≠ w.heap.size ∧ a.block ≠ G5 := fun a n c e => by have := hfr a n c e; have := hb5.out.lt; have := hb1.out.lt; omega
      clear hR7 HR7 hR8 hfr gb1 gb5 hb1 hb4 hb5 hs7 hbz hb sl45 hRB
      go_wp2_with (refine wpList_setcell 22 (.tmp 47) (.tmp 46) rfl rfl rfl G5 4 v' rfl rfl 58 (secC (seedA m) (.slice none 0 0) zKey) hX5.out (by rw [secC_size]; decide) iSl1 h1 ?_)
      rw [hq.out]
      generalize w7.setRow G5 (secC (seedA m) v' zKey) = w8 at gb HR8 HG1 HG5 ⊢
      have cB := hid fun w => base_any w
      have cM := hid fun w => mul_any (seedA m) baseP w ⟨bsxN_lt, bsyN_lt⟩
      have cE := hid fun w => enc_any (mulP (seedA m) baseP) w (mulP_lt _ _)
      have lK := hid (show (seedK m).length = 32 from encL_len _)
      rw [show encL (mulP (seedA m) baseP) = seedK m from rfl] at cE
      obtain ⟨A, hA⟩ : ∃ A, A = seedA m := ⟨_, rfl⟩
      obtain ⟨K, hK⟩ : ∃ K, K = seedK m := ⟨_, rfl⟩
      have HA' := hid hA
      have HK' := hid hK
      rw [← hA] at cM cE HG5
      rw [← hK] at cE lK
      clear hA hK HA hX5 hq
      generalize mulP A baseP = pk at cM cE
      generalize baseP = pb at cB cM
      unfold pt at cB cM cE
      unfold wd at cM
      unfold key at cE
      have iK' := hid (iK K lK.out)
      refine draw_tail 6 (by kernel_rfl) (by kernel_rfl) (by kernel_rfl) ?_
      simp only [List.take_succ_cons, List.take_zero]
      (apply calm_on rfl; (focus (intro W hB; go_simp; exact ⟨rfl, Below.refl _ _⟩)); simp only [Act.put, pvA, pv0, pv1])
      (refine calm_part rfl _ _ rfl _ _ rfl _ _ (cellsW A) HG5.out (secC_word A v' zKey) gWd (iW A) ?_; simp only [Act.put, pvA, pv0, pv1])
      (apply calm_on rfl; (focus (intro W hB; go_simp; refine (cB.out W).mono ?_; rintro _ _ ⟨rfl, hb'⟩; exact ⟨rfl, hb'⟩)); simp only [Act.put, pvA, pv0, pv1])
      (apply calm_on rfl; (focus (intro W hB; go_simp; refine (cM.out W).mono ?_; rintro _ _ ⟨rfl, hb'⟩; exact ⟨rfl, hb'⟩)); simp only [Act.put, pvA, pv0, pv1])
      (apply calm_on rfl; (focus (intro W hB; go_simp; refine (cE.out W).mono ?_; rintro _ _ ⟨rfl, hb'⟩; exact ⟨rfl, hb'⟩)); simp only [Act.put, pvA, pv0, pv1])
      (apply calm_on rfl; (focus (intro W hB; go_simp; exact ⟨rfl, Below.refl _ _⟩)); simp only [Act.put, pvA, pv0, pv1])
      refine calm_nil ?_
      intro w9 hs9
      simp only [List.drop_succ_cons, List.drop_zero]
      have kb5 := hid (HG5.out.step hs9)
      have kb1 := HG1.out.step hs9
      have HR9 := HR8.out.below hs9
      have hb9 := gb.trans (hs9.mono gb.size)
      (refine wpList_setpart 28 (.tmp 53) (.tmp 52) rfl rfl rfl G5 5 (cellsY K) rfl rfl 58 (secC A v' zKey) kb5.out iK'.out (by rw [size_cellsY, secC_size, lK.out]; decide) (one_cellsY _) ?_)
      rw [secC_setK A v' zKey K (by rw [lK.out]; rfl)]
      refine wpList_nil ?_
      have m5 := hid (kb5.out.set (secC A v' K))
      have m1 := hid (kb1.other n51 (secC A v' K))
      have HR10 := hid (HR9.other (g := G5) (fun a n c e => (hne a n c e).2) (secC A v' K))
      have hb10 := below_set hb9 G5 hG5 (secC A v' K)
      generalize w9.setRow G5 (secC A v' K) = w10 at m5 m1 HR10 hb10 ⊢
      have iS := hid (iSec A v' K lK.out)
      have nS := hid (one_secC A v' K h1)
      clear hb9 HR9 HR8 HG1 HG5 gb cB cM cE iK'
      ((repeat ((fail_if_success (with_reducible refine Go.at_region ?_)); go_step)); refine wp_region_lit ?_)
      (refine wpList_get _ _ rfl rfl _ rfl _ _ m5.out gSec iS.out ?_; simp only [Act.put, pvA, pv0, pv1])
      (refine wpList_set _ _ _ rfl rfl rfl _ _ rfl rfl _ _ m1.out iS.out (by rw [secC_size, secC_size, lK.out]; rfl) nS.out ?_)
      (refine wpList_plain rfl fun K hK => ?_; go_simp; refine hK _ _ ?_; clear hK K; (try simp only [Act.put, pvA, pv0, pv1]))
      refine wpList_nil ?_
      have kb := m1.out.set (secC A v' K)
      have hbl := below_set hb10 w.heap.size (Nat.le_refl _) (secC A v' K)
      have HR11 := HR10.out.other (g := w.heap.size) (fun a n c e => (hne a n c e).1) (secC A v' K)
      have hfin : Value.agg (secC A v' K) = .agg (secC (seedA m) v' (seedK m)) := by rw [HA'.out, HK'.out]
      obtain ⟨d, hd⟩ := uSec
      (repeat ((fail_if_success (with_reducible refine Go.at_region ?_)); go_step))
      refine bodyPost_ret (results_row_tmp rfl _ _ w.heap.size 58 (secC A v' K) (0, 0) _ rfl kb hd rfl iS.out) rfl ⟨v', by rw [hfin]; rfl, HR11, hbl⟩
end Go.Proofs.Ytejnnghfelpioaa
namespace Go.Proofs.Ytejnnghfelpioaa
open Go.RowKit
def opA (m : List (BitVec 8)) : Nat := if m.length = 32 then seedA m else 0
def opB (m : List (BitVec 8)) : List (BitVec 8) := if m.length = 32 then seedB m else []
def opK (m : List (BitVec 8)) : List (BitVec 8) := if m.length = 32 then seedK m else zKey
def opE (m : List (BitVec 8)) : Int := if m.length = 32 then 0 else 1
theorem opK_len (m : List (BitVec 8)) : (opK m).length = 32 := by
  unfold opK; split
  · exact encL_len _
  · rfl
theorem eopened_any (m : List (BitVec 8)) (v : Value) (w : World) (hr : RdY w v m) : Calls Try.prog 22 #[v] w fun e w' => ∃ v', e = .returned (.tuple #[.agg (secC (opA m) v' (opK m)), .int .i64 (opE m)]) ∧ RdY w' v' (opB m) ∧ Below w.heap.size w w' := by
  unfold opA opB opK opE
  by_cases h : m.length = 32
  · rw [if_pos h, if_pos h, if_pos h, if_pos h]; exact opened_good m v w hr h
  · rw [if_neg h, if_neg h, if_neg h, if_neg h]
    refine (opened_bad m v w hr h).mono ?_
    rintro e w' ⟨rfl, hb⟩
    exact ⟨_, rfl, RdY.nil _ _ _, hb⟩
theorem one_v {w : World} {v : Value} {ys : List (BitVec 8)} (h : RdY w v ys) : v.oneCell' = true := by
  obtain ⟨a, c, rfl, _⟩ := h; rfl
set_option maxRecDepth 100000 in
set_option maxHeartbeats 4000000 in
theorem public_any (m : List (BitVec 8)) (v : Value) (w : World) (hr : RdY w v m) : Calls Try.prog 7 #[v] w fun e w' => e = .returned (.tuple #[key (opK m), .int .i64 (opE m)]) ∧ Below w.heap.size w w' := by
  have hO := hid fun w h => eopened_any m v w h
  have HR := hid hr
  have lK := hid (opK_len m)
  have i0 := hid (iK _ (show zKey.length = 32 from rfl))
  obtain ⟨w0, hw0, k1, hbl0⟩ := entry1 w 28 (cellsY zKey)
  have hb1 := hid k1
  have HR0 := hid (HR.out.below hbl0)
  clear k1 HR hr
  generalize opK m = K at hO lK ⊢
  generalize opA m = A at hO
  generalize opE m = E at hO ⊢
  generalize opB m = B at hO
  have iK' := hid (iK K lK.out)
  unfold key
  go_enter Try.func7, Try.ntmps7
  ((repeat ((fail_if_success (with_reducible refine Go.at_region ?_)); go_step)); refine wp_region_lit ?_)
  (refine wpList_alloc_new rfl 28 rfl (cellsY zKey) zK ?_; simp only [Act.put, pvA, pv0, pv1]; (try simp only [World.size_alloc]))
  (refine wpList_plain rfl fun K hK => ?_; go_simp; refine hK _ _ ?_; clear hK K; (try simp only [Act.put, pvA, pv0, pv1]))
  refine wpList_nil ?_
  rw [← hw0]
  clear hw0
  ((repeat ((fail_if_success (with_reducible refine Go.at_region ?_)); go_step)); refine wp_region_lit ?_)
  (refine wpList_plain rfl fun K hK => ?_; go_simp; refine hK _ _ ?_; clear hK K; (try simp only [Act.put, pvA, pv0, pv1]))
  (refine wpList_plain rfl fun K hK => ?_; go_simp; refine (hO.out _ HR0.out).mono ?_; rintro _ w1 ⟨v', rfl, hR1, hs1⟩; refine hK _ _ ?_; clear hK K; (try simp only [Act.put, pvA, pv0, pv1]))
  iterate 3 (refine wpList_plain rfl fun K hK => ?_; go_simp; refine hK _ _ ?_; clear hK K; (try simp only [Act.put, pvA, pv0, pv1]))
  have iS := hid (iSec A v' K lK.out)
  have nS := hid (one_secC A v' K (one_v hR1))
  (refine wpList_new 58 (secC 0 (.slice none 0 0) zKey) rfl rfl zSec ?_; intro G w2 hle2 hs2 hn2; (try simp only [Act.put, pvA, pv0, pv1]))
  (refine wpList_set _ _ _ rfl rfl rfl _ _ rfl rfl _ _ hn2 iS.out (by rw [secC_size, secC_size, lK.out]; rfl) nS.out ?_)
  (refine wpList_plain rfl fun K hK => ?_; go_simp; refine hK _ _ ?_; clear hK K; (try simp only [Act.put, pvA, pv0, pv1]))
  refine wpList_nil ?_
  have n1 : w.heap.size ≠ G := by have := hb1.out.lt; have := hs1.size; omega
  have fb1 := hid (((hb1.out.step hs1).step hs2).other n1 (secC A v' K))
  have fb2 := hid (hn2.set (secC A v' K))
  have hbl := below_set (hbl0.trans ((hs1.trans (hs2.mono hs1.size)).mono hbl0.size)) G (by have := hbl0.size; have := hs1.size; omega) (secC A v' K)
  generalize w2.setRow G (secC A v' K) = w3 at fb1 fb2 hbl ⊢
  clear hs2 hn2 hle2 hs1 hR1 hb1 hbl0 HR0 hO
  ((repeat ((fail_if_success (with_reducible refine Go.at_region ?_)); go_step)); refine wp_region_lit ?_)
  (refine wpList_plain rfl fun K hK => ?_; go_simp; refine hK _ _ ?_; clear hK K; (try simp only [Act.put, pvA, pv0, pv1]))
  (refine wpList_getp _ _ rfl rfl _ _ rfl _ _ (cellsY K) fb2.out (secC_key A v' K) gK iK'.out ?_; simp only [Act.put, pvA, pv0, pv1])
  (refine wpList_plain rfl fun K hK => ?_; go_simp; refine hK _ _ ?_; clear hK K; (try simp only [Act.put, pvA, pv0, pv1]))
  (refine wpList_set _ _ _ rfl rfl rfl _ _ rfl rfl _ _ fb1.out iK'.out (by rw [size_cellsY, size_cellsY, lK.out]; rfl) (one_cellsY _) ?_)
  (refine wpList_plain rfl fun K hK => ?_; go_simp; refine hK _ _ ?_; clear hK K; (try simp only [Act.put, pvA, pv0, pv1]))
  refine wpList_nil ?_
  have kb := fb1.out.set (cellsY K)
  have hbe := below_set hbl w.heap.size (Nat.le_refl _) (cellsY K)
  (repeat ((fail_if_success (with_reducible refine Go.at_region ?_)); go_step))
  refine bodyPost_ret (results_row_tmp rfl _ _ w.heap.size 28 (cellsY K) (0, 0) _ rfl kb uK rfl iK'.out) rfl ⟨rfl, hbe⟩
end Go.Proofs.Ytejnnghfelpioaa
namespace Go
open Go.RowKit
section
variable {P : Program} {l : List Oper} {Φ : Nat → Value → World → Prop} {w0 : World} {a0 : Act}
theorem ext_pure {o : Oper} {a : Act} {w : World} {K : Act → World → Prop} {Q : Exit → Act → World → Prop} {x : Operand} {k : Nat} (ho : o.op = .extract x k) (h : o.wp P a w K Q) : ∃ v, K (a.put o.dst v) w ∧ ∀ w', (execOp a.eval o).run P w' = .ok (.value v) w' := by
  have key : (∃ v, ∀ w', (execOp a.eval o).run P w' = .ok (.value v) w') ∨ ∃ s, ∀ w', (execOp a.eval o).run P w' = .halt (.stuck s) w' := by
    unfold execOp
    simp only [ho, Sem.run_bind, Instr.extract]
    cases a.eval x with
    | tuple vs =>
      cases hv : vs[k]? with
      | some v => exact .inl ⟨v, fun w' => by simp [hv]⟩
      | none => exact .inr ⟨_, fun w' => by simp [hv]; rfl⟩
    | _ => exact .inr ⟨_, fun w' => rfl⟩
  rcases key with ⟨v, hv⟩ | ⟨s, hs⟩
  · refine ⟨v, ?_, hv⟩
    unfold Oper.wp at h
    rw [hv w] at h
    exact h
  · unfold Oper.wp at h
    rw [hs w] at h
    exact h.elim
theorem store_back {o : Oper} {a b : Act} {w : World} {K : Act → World → Prop} {T : TypeId} {x y : Operand} (ho : o.op = .store T x y) (hd : o.dst = none) (he : execOp a.eval o = execOp b.eval o) (h : o.wp P b w K (fun _ _ _ => False)) : o.wp P a w (fun a' w' => a' = a ∧ K b w') (fun _ _ _ => False) := by
  unfold Oper.wp at *
  rw [he]
  unfold execOp at *
  simp only [ho, Sem.run_bind] at *
  generalize (Instr.storeAt T (b.eval x) (b.eval y)).run P w = r at *
  cases r with
  | ok u w' =>
    simp only [Result.andThen_ok, Sem.run_pure, Oper.upon] at h ⊢
    rw [hd] at h ⊢; exact ⟨rfl, h⟩
  | halt z w' => cases z <;> simp only [Result.andThen, Oper.upon] at h ⊢
def specFloatB (l : List Oper) (n fl : Nat) : Bool :=
  specB l && decide (l.length = n + 2) && ((List.range n).all fun i => decide (i = fl) || Region.sinkOneB .any l.toArray n i) && Region.floatB .any l.toArray n fl ((Array.replicate n true ++ Array.replicate 2 false).setIfInBounds fl false) && Region.noSelect l.toArray
theorem form_float {n fl : Nat} {listed : Array Bool} (hs : listed.size = n + 2) (hf : fl < n) (h0 : listed.getD fl true = false) (h1 : ∀ i, i < n → i ≠ fl → listed.getD i true = true) (h2 : ∀ i, n ≤ i → i < n + 2 → listed.getD i true = false) :
    listed = (Array.replicate n true ++ Array.replicate 2 false).setIfInBounds fl false := by
  apply Array.ext (by simp; omega)
  intro i hi hi'
  rw [Array.getElem_setIfInBounds (by simpa using hi')]
  split
  · rename_i h
    subst h
    simpa [Array.getD, hi] using h0
  · rename_i h
    rw [Array.getElem_append]
    split
    · rename_i h3
      have := h1 i (by simpa using h3) (fun e => h e.symm)
      simp [Array.getD, hi] at this ⊢; exact this
    · rename_i h3
      have := h2 i (by simpa using h3) (by omega)
      simp [Array.getD, hi] at this ⊢; exact this
theorem unheaded_none {n : Nat} {listed : Array Bool} (h : ∀ i, i < n → listed.getD i true = true) : unheaded n listed = 0 := by
  unfold unheaded
  rw [List.count_eq_zero]
  intro hm
  obtain ⟨i, hi, he⟩ := List.getElem_of_mem hm
  have hi' := hi
  simp at hi'
  have := h i (by omega)
  simp at he
  simp [Array.getD, show i < listed.size by omega, he] at this
theorem wpAny_of_specF {n fl : Nat} {Q : Exit → Act → World → Prop} {o1 o2 oF : Oper} {T : TypeId} {x y : Operand} {z : Operand} {k dF : Nat} (hB : specFloatB l n fl = true) (h1 : l[n]? = some o1) (h2 : l[n + 1]? = some o2) (hF : l[fl]? = some oF)
    (p1 : o1.op = .store T x y) (d1 : o1.dst = none) (g1 : o1.guard = none) (x1 : x ≠ .tmp dF) (y1 : y ≠ .tmp dF) (pF : oF.op = .extract z k) (qF : oF.dst = some dF) (gF : oF.guard = none) (g2 : o2.guard = none)
    (stable : ∀ i v w w', Φ i v w → Below w.heap.size w w' → Φ i v w')
    (each : ∀ (i : Nat) (o : Oper), i < n → l[i]? = some o → ∀ a w, Leans l Φ w0 a0 o a w →
      if Region.wanted o (yielded l.toArray a.tmps) then o.wp P a w (fun a' w' => ∃ v, a' = a.put o.dst v ∧ Below w.heap.size w w' ∧ Φ i v w') Q else Φ i undef w)
    (fin : ∀ (f : Nat → Value) (w : World), Below w0.heap.size w0 w → (∀ (i : Nat) (o : Oper) (d : Nat), i < n → l[i]? = some o → o.dst = some d → d < a0.tmps.size → Φ i (f i) w) → o1.wp P (putAll (l.take n) f 0 a0) w (fun a' w' => wpList P l.toArray Q [o2] a' w') (fun _ _ _ => False)) :
    ∀ (fuel : Nat) (listed : Array Bool) (a : Act) (w : World), unheaded n listed = fuel → HeadInv .any l.toArray n listed → RInv l Φ w0 a0 listed a w → wpAny P .any l.toArray Q (fuel + 2) listed a w := by
  simp only [specFloatB, Bool.and_eq_true, decide_eq_true_eq] at hB
  obtain ⟨⟨⟨⟨hB, hnl⟩, hsink⟩, hfloat⟩, hsel⟩ := hB
  have hone : ∀ i, i < n → i ≠ fl → Region.sinkOneB .any l.toArray n i = true := fun i hi hne => by
    have := List.all_eq_true.1 hsink i (List.mem_range.2 hi)
    simp only [Bool.or_eq_true, decide_eq_true_eq] at this
    exact this.resolve_left hne
  simp only [Region.floatB, Bool.and_eq_true, decide_eq_true_eq, List.isEmpty_iff] at hfloat
  obtain ⟨⟨⟨⟨⟨⟨⟨b0, b1⟩, b2⟩, b3⟩, b4⟩, b5⟩, b6⟩, b7⟩ := hfloat
  have hnd : (l.filterMap (·.dst)).Nodup := by
    simp only [specB, Bool.and_eq_true] at hB
    exact of_decide_eq_true hB.2
  have k1 : l.toArray[n]? = some o1 := by simpa using h1
  have k2 : l.toArray[n + 1]? = some o2 := by simpa using h2
  have kF : l.toArray[fl]? = some oF := by simpa using hF
  have tailU : ∀ listed : Array Bool, HeadInv .any l.toArray n listed → ∀ i, n ≤ i → i < n + 2 → listed.getD i true = false := fun listed inv i hi1 hi2 => inv.tail i hi1 (by simp; omega)
  have done : ∀ (listed : Array Bool) (a : Act) (w : World), HeadInv .any l.toArray n listed → RInv l Φ w0 a0 listed a w → (∀ i, i < n → listed.getD i true = true) → o1.wp P a w (fun a' w' => wpList P l.toArray Q [o2] a' w') (fun _ _ _ => False) := by
    intro listed a w inv h hall
    have e : putAll (l.take n) (fun i => match (l[i]?).bind (·.dst) with | some d => a.tmps.getD d undef | none => undef) 0 a0 = a := by
      refine putAll_eq a (l.take n) _ 0 a0 h.defers.symm h.tsize.symm (fun d hn => ?_) (fun i o d hi ho => ?_)
      · refine (h.same d (fun i o hi ho => ?_)).symm
        by_cases hin : i < n
        · exact absurd ho (hn o (List.mem_of_getElem? (i := i) (by rw [List.getElem?_take, if_pos hin]; exact hi)))
        · exact inv.tail i (by omega) (by
            rcases Nat.lt_or_ge i l.length with h' | h'
            · simpa using h'
            · rw [List.getElem?_eq_none h'] at hi; cases hi)
      · rw [List.getElem?_take] at hi
        split at hi
        · rw [Nat.zero_add, hi]; simp [ho]
        · cases hi
    rw [← e]
    refine fin _ w h.below (fun i o d hin hi ho hds => ?_)
    have hl := hall i hin
    have := h.made i o d hi (by have hs := h.size; simp [Array.getD, show i < listed.size by omega] at hl ⊢; exact hl) ho hds
    simp only [hi, Option.bind_some, ho]
    exact this
  have formL : ∀ listed : Array Bool, listed.size = l.length → HeadInv .any l.toArray n listed → (∀ i, i < n → listed.getD i true = true) → listed = ((Array.replicate n true ++ Array.replicate 2 false).setIfInBounds fl false).setIfInBounds fl true := fun listed hs inv hall => by
    have := listed_form (m := n + 2) (by omega) (by omega) hall (tailU listed inv)
    rw [this, show n + 2 - n = 2 by omega]
    apply Array.ext (by simp)
    intro i hi hi'
    rw [Array.getElem_setIfInBounds (by simpa using hi'), Array.getElem_setIfInBounds (by simpa using hi')]
    split
    · rename_i h; subst h
      rw [Array.getElem_append_left (by simpa using b0)]; simp
    · rfl
  have close : ∀ (listed : Array Bool) (a : Act) (w : World), HeadInv .any l.toArray n listed → RInv l Φ w0 a0 listed a w → (∀ i, i < n → listed.getD i true = true) → wpAny P .any l.toArray Q 2 listed a w := by
    intro listed a w inv h hall
    have hw := done listed a w inv h hall
    rw [formL listed h.size inv hall]
    have hL : wpList P l.toArray Q [o1, o2] a w := wpList_plain g1 fun K hK => Oper.wp_mono (fun a' w' h' => hK a' w' h') (Oper.wp_false hw)
    have hw1 : wpOp P l.toArray Q n (wpList P l.toArray Q [o2]) a w := by unfold wpOp; simp only [k1]; exact hL
    refine wpAny_one k1 b2 hw1 fun a2 w2 q2 => ?_
    have hw2 : wpOp P l.toArray Q (n + 1) (wpList P l.toArray Q []) a2 w2 := by unfold wpOp; simp only [k2]; exact q2
    exact wpAny_one k2 b4 hw2 fun a3 w3 q3 => ⟨b6, q3⟩
  intro fuel
  induction fuel with
  | zero =>
    intro listed a w hu inv h
    rw [Nat.zero_add]
    refine close listed a w inv h (fun i hi => ?_)
    have hs := h.size
    have hlt : i < listed.size := by omega
    by_cases hb : listed[i] = true
    · simp [Array.getD, hlt, hb]
    · exfalso
      have : 0 < (listed.toList.take n).count false := List.count_pos_iff.2 (by
        have hf : listed[i] = false := by simpa using hb
        have hlt' : i < (listed.toList.take n).length := by simp; omega
        have : (listed.toList.take n)[i] = false := by simpa using hf
        rw [← this]; exact List.getElem_mem _)
      unfold unheaded at hu
      omega
  | succ fuel ih =>
    intro listed a w hu inv h
    rw [show fuel + 1 + 2 = (fuel + 2) + 1 by omega]
    have hsome : ∃ i, i < n ∧ listed.getD i true = false := by
      have : 0 < (listed.toList.take n).count false := by unfold unheaded at hu; omega
      obtain ⟨i, hi, he⟩ := List.getElem_of_mem (List.count_pos_iff.1 this)
      have hi' := hi
      simp at hi'
      exact ⟨i, by omega, by simp at he; simp [Array.getD, show i < listed.size by omega, he]⟩
    obtain ⟨i0, hi0, hun0⟩ := hsome
    have stepG : ∀ (i : Nat) (o : Oper) (v : Value) (w' : World), i < n → l[i]? = some o → listed.getD i true = false → Below w.heap.size w w' → Φ i v w' → RInv l Φ w0 a0 (listed.setIfInBounds i true) (a.put o.dst v) w' := fun i o v w' hin ho' hun hb hv => by
      refine ⟨by rw [Array.size_setIfInBounds]; exact h.size, h.below.trans (hb.mono h.below.size), by rw [Act.putd_defers]; exact h.defers, by rw [Act.putd_size]; exact h.tsize, fun d hd => ?_, fun j oj d hj hlj hdj hds => ?_⟩
      · by_cases hod : o.dst = some d
        · have := hd i o ho' hod
          simp [Array.getD, show i < listed.size by have := h.size; omega] at this
        · rw [Act.putd_get_ne _ _ _ _ hod]
          refine h.same d (fun j oj hj hdj => ?_)
          have h1 := hd j oj hj hdj
          have hne : j ≠ i := fun e => by subst e; rw [ho'] at hj; cases hj; exact hod hdj
          rw [getD_set_ne true (Ne.symm hne)] at h1
          exact h1
      · by_cases hji : j = i
        · subst hji
          rw [ho'] at hj; cases hj
          have hlt : d < a.tmps.size := by have := h.tsize; omega
          have : (a.put o.dst v).tmps.getD d undef = v := by
            rw [hdj]
            have e := Act.putd_get_eq a v d
            rw [if_pos hlt] at e
            rw [Array.getD_eq_getD_getElem?, e]; rfl
          rw [this]; exact hv
        · have hne : o.dst ≠ some d := fun e => hji (filterMap_nodup_inj l hnd j i oj o d hj ho' hdj e)
          have h1 := h.made j oj d hj (by rw [getD_set_ne false (Ne.symm hji)] at hlj; exact hlj) hdj hds
          have e : (a.put o.dst v).tmps.getD d undef = a.tmps.getD d undef := by
            rw [Array.getD_eq_getD_getElem?, Array.getD_eq_getD_getElem?, Act.putd_get_ne _ _ _ _ hne]
          rw [e]
          exact stable _ _ _ _ h1 hb
    have leanG : ∀ (i : Nat) (o : Oper), l.toArray[i]? = some o → (∀ e ∈ o.after, Region.binds .any e = true → listed.getD e.on false = true) → Leans l Φ w0 a0 o a w := fun i o ho hafter =>
      ⟨h.below, fun d hn => h.same d (fun i o hi ho => absurd ho (hn o (List.mem_of_getElem? hi))), fun e he hb o' d hi' hd hds => h.made e.on o' d hi' (hafter e he hb) hd hds, h.tsize⟩
    refine ⟨fun hn => ?_, fun i hi => ?_⟩
    · have := all_listed_of_ready_nil hB h.size hn i0 (by omega)
      rw [this] at hun0; cases hun0
    rcases Nat.lt_or_ge i n with hin | hin
    · have hi' := hi
      rw [mem_ready] at hi
      obtain ⟨hun, o, ho, hafter⟩ := hi
      have ho' : l[i]? = some o := by simpa using ho
      have lean := leanG i o ho hafter
      have step := fun v w' => stepG i o v w' hin ho' hun
      have hu' : unheaded n (listed.setIfInBounds i true) = fuel := by have := unheaded_set hun hin; omega
      have inv' := inv.set hi' hin
      have he := each i o hin ho' a w lean
      unfold wpOp
      simp only [ho]
      split
      · rename_i hw
        rw [if_pos hw] at he
        exact .inl (Oper.wp_mono (fun a' w' ⟨v, ha', hb, hv⟩ => by subst ha'; exact ih _ _ _ hu' inv' (step v w' hb hv)) he)
      · rename_i hw
        rw [if_neg hw] at he
        exact ih _ _ _ hu' inv' (step undef w (Below.refl _ _) he)
    · have hall : ∀ j, j < n → j ≠ fl → listed.getD j true = true := fun j hj hne => by
        cases hv : listed.getD j true with
        | true => rfl
        | false => exact absurd hi (sinkOne_ready (hone j hj hne) hv i hin)
      have hfl : listed.getD fl true = false := by
        by_cases e : i0 = fl
        · rw [← e]; exact hun0
        · rw [hall i0 hi0 e] at hun0; cases hun0
      have hform := form_float (by rw [h.size, hnl]) b0 hfl hall (tailU listed inv)
      have hflr : fl ∈ Region.ready .any l.toArray listed := by rw [hform, b1]; simp
      have hin2 : i = n := by rw [hform, b1] at hi; simp at hi; omega
      subst hin2
      obtain ⟨_, o', ho', hafter⟩ := mem_ready.1 hflr
      have : o' = oF := Option.some.inj (ho'.symm.trans kF)
      subst this
      have heF := each fl o' b0 hF a w (leanG fl o' ho' hafter)
      rw [if_pos (by simp [Region.wanted, gF])] at heF
      obtain ⟨v0, ⟨v1, hv1, hbv, hphi⟩, hrun⟩ := ext_pure pF heF
      have hsz : dF < a.tmps.size ∨ ¬ dF < a.tmps.size := Nat.lt_or_ge _ _ |>.imp id (fun h => Nat.not_lt.2 h)
      have hR := stepG fl o' v1 w b0 hF hfl hbv hphi
      rw [← hv1] at hR
      have inv' := inv.set hflr b0
      have hallS : ∀ j, j < i → (listed.setIfInBounds fl true).getD j true = true := fun j hj => by
        by_cases e : j = fl
        · subst e
          have : j < listed.size := by rw [h.size]; omega
          simp [Array.getD, this]
        · rw [getD_set_ne true (Ne.symm e)]; exact hall j hj e
      have hD := done _ _ w inv' hR hallS
      have hfuel : fuel = 0 := by
        have h3 := unheaded_set hfl b0
        have h4 := unheaded_none (n := i) hallS
        omega
      subst hfuel
      have hex : execOp a.eval o1 = execOp (a.put o'.dst v0).eval o1 := execOp_congr o1 (fun cs b => by rw [p1]; intro h; cases h) fun u hu => by
        cases u with
        | tmp t =>
          have hne : dF ≠ t := fun e => by
            rw [p1] at hu
            simp [Op.operands] at hu
            rcases hu with hu | hu
            · exact x1 (by rw [e, ← hu])
            · exact y1 (by rw [e, ← hu])
          show a.tmps.getD t undef = (a.put o'.dst v0).tmps.getD t undef
          rw [Array.getD_eq_getD_getElem?, Array.getD_eq_getD_getElem?, Act.putd_get_ne _ _ _ _ (by rw [qF]; simpa using hne)]
        | _ => rfl
      have hS := store_back p1 d1 hex hD
      have hL : wpList P l.toArray Q [o1, o', o2] a w := wpList_plain g1 fun K hK => Oper.wp_mono (fun a' w' ⟨ha, h'⟩ => hK a' w' (by
        subst ha
        refine wpList_plain gF fun K' hK' => ?_
        unfold Oper.wp
        rw [hrun w']
        exact hK' _ _ h')) (Oper.wp_false hS)
      have hw1 : wpOp P l.toArray Q i (wpList P l.toArray Q [o', o2]) a w := by unfold wpOp; simp only [k1]; exact hL
      refine wpOp_mono (fun a2 w2 q2 => ?_) hw1
      have hw2 : wpOp P l.toArray Q fl (wpList P l.toArray Q [o2]) a2 w2 := by unfold wpOp; simp only [kF]; exact q2
      rw [hform]
      refine wpAny_one kF b3 hw2 fun a3 w3 q3 => ?_
      have hw3 : wpOp P l.toArray Q (i + 1) (wpList P l.toArray Q []) a3 w3 := by unfold wpOp; simp only [k2]; exact q3
      exact wpAny_one k2 b5 hw3 fun a4 w4 q4 => ⟨b7, q4⟩
theorem wp_region_spec_float {id : Nat} {Q : Exit → Act → World → Prop} {n fl : Nat} {o1 o2 oF : Oper} {T : TypeId} {x y : Operand} {z : Operand} {k dF : Nat} (hm : P.follows .mixedOrders = true) (hB : specFloatB l n fl = true) (h1 : l[n]? = some o1) (h2 : l[n + 1]? = some o2) (hF : l[fl]? = some oF)
    (p1 : o1.op = .store T x y) (d1 : o1.dst = none) (g1 : o1.guard = none) (x1 : x ≠ .tmp dF) (y1 : y ≠ .tmp dF) (pF : oF.op = .extract z k) (qF : oF.dst = some dF) (gF : oF.guard = none) (g2 : o2.guard = none)
    (Φ : Nat → Value → World → Prop) (stable : ∀ i v w w', Φ i v w → Below w.heap.size w w' → Φ i v w')
    (each : ∀ (i : Nat) (o : Oper), i < n → l[i]? = some o → ∀ a w, Leans l Φ w0 a0 o a w →
      if Region.wanted o (yielded l.toArray a.tmps) then o.wp P a w (fun a' w' => ∃ v, a' = a.put o.dst v ∧ Below w.heap.size w w' ∧ Φ i v w') Q else Φ i undef w)
    (fin : ∀ (f : Nat → Value) (w : World), Below w0.heap.size w0 w → (∀ (i : Nat) (o : Oper) (d : Nat), i < n → l[i]? = some o → o.dst = some d → d < a0.tmps.size → Φ i (f i) w) → o1.wp P (putAll (l.take n) f 0 a0) w (fun a' w' => wpList P l.toArray Q [o2] a' w') (fun _ _ _ => False)) :
    (Code.region id l.toArray true).wp P Q a0 w0 := by
  have hnl : l.length = n + 2 := by
    simp only [specFloatB, Bool.and_eq_true, decide_eq_true_eq] at hB
    exact hB.1.1.1.2
  refine wp_region_any hm ?_
  have := wpAny_of_specF (w0 := w0) (a0 := a0) (P := P) (Q := Q) hB h1 h2 hF p1 d1 g1 x1 y1 pF qF gF g2 stable each fin _ (Array.replicate l.toArray.size false) a0 w0.drew rfl
    ⟨by simp, fun j oj _ hl => (by rw [getD_replicate_false] at hl; cases hl), fun t _ ht => getD_in (by simpa using ht) (getD_replicate_false _ _)⟩
    ⟨by simp, (Below.refl _ _).drew, rfl, rfl, fun d _ => rfl, fun i o d hi hl _ _ => (by rw [getD_replicate_false] at hl; cases hl)⟩
  have hu : unheaded n (Array.replicate l.toArray.size false) = n := by
    unfold unheaded
    simp
    omega
  rw [hu, show n + 2 = l.toArray.size by simp; omega] at this
  exact this
theorem wp_region_loose_float {id : Nat} {Q : Exit → Act → World → Prop} {n fl : Nat} {es : List Ent} {o1 o2 oF : Oper} {T : TypeId} {x y : Operand} {z : Operand} {k dF : Nat} (hm : P.follows .mixedOrders = true) (hL : looseB l n = true) (hB : specFloatB l n fl = true) (h1 : l[n]? = some o1) (h2 : l[n + 1]? = some o2) (hF : l[fl]? = some oF)
    (p1 : o1.op = .store T x y) (d1 : o1.dst = none) (g1 : o1.guard = none) (x1 : x ≠ .tmp dF) (y1 : y ≠ .tmp dF) (pF : oF.op = .extract z k) (qF : oF.dst = some dF) (gF : oF.guard = none) (g2 : o2.guard = none) (hk : keepsAll es)
    (h : looseL P l es w0 n (fun a w => o1.wp P a w (fun a' w' => wpList P l.toArray Q [o2] a' w') (fun _ _ _ => False)) 0 (l.take n) a0) : (Code.region id l.toArray true).wp P Q a0 w0 := by
  have hS : specB l = true := by
    simp only [specFloatB, Bool.and_eq_true, decide_eq_true_eq] at hB
    exact hB.1.1.1.1
  have hn : n ≤ l.length := by
    simp only [specFloatB, Bool.and_eq_true, decide_eq_true_eq] at hB
    omega
  exact wp_region_spec_float hm hB h1 h2 hF p1 d1 g1 x1 y1 pF qF gF g2 (phiOf es) (phiOf_keeps es hk) (fun i o hi ho a w hl => loose_each hL hS hn h i o hi ho a w hl) (fun f w hb hf => loose_fin hS hn h f w hb hf)
variable {ops : Array Oper} {Q' : Exit → Act → World → Prop} {a : Act}
theorem draw_float1 {id : Nat} (n fl : Nat) {oA o1 o2 oF : Oper} {T1 : TypeId} {x y : Operand} {z : Operand} {k dF : Nat} (hA : (l.drop n).take 1 = [oA]) (T : TypeId) (zs : Array Value) (d : Nat) (ho : oA.op = .alloc T) (hg : oA.guard = none) (hd : oA.dst = some d) (hds : d < a.tmps.size) (hz : (P.info? T).bind (·.zero) = some (.agg zs))
    (hm : P.follows .mixedOrders = true) (hL : looseB l (n + 1) = true) (hB : specFloatB l (n + 1) fl = true) (h1 : l[n + 1]? = some o1) (h2 : l[n + 1 + 1]? = some o2) (hF : l[fl]? = some oF)
    (p1 : o1.op = .store T1 x y) (d1 : o1.dst = none) (g1 : o1.guard = none) (x1 : x ≠ .tmp dF) (y1 : y ≠ .tmp dF) (pF : oF.op = .extract z k) (qF : oF.dst = some dF) (gF : oF.guard = none) (g2 : o2.guard = none)
    (h : wpCalm P l.toArray w0 (fun a' => ∀ b w, w0.heap.size ≤ b → Below w0.heap.size w0 w → Blk T w b zs → o1.wp P (a'.put (some d) (.pointer (some ⟨b, 0, none⟩))) w (fun a' w' => wpList P l.toArray Q' [o2] a' w') (fun _ _ _ => False)) (l.take n) a) : (Code.region id l.toArray true).wp P Q' a w0 := by
  have hn : n < l.length := by
    rcases Nat.lt_or_ge n l.length with h1 | h1
    · exact h1
    · rw [List.drop_eq_nil_of_le h1] at hA; cases hA
  have hlA : l[n]? = some oA := by
    have : ((l.drop n).take 1)[0]? = some oA := by rw [hA]; rfl
    rw [List.getElem?_take, if_pos (by decide), List.getElem?_drop, Nat.add_zero] at this; exact this
  obtain ⟨es1, e1, e2, a', e3, e4, e5⟩ := calm_ents (l.take n) a 0 h
  have hl1 : es1.length = n := by rw [e1, List.length_take]; omega
  have hL2 := e5 (es1 ++ [.lo (newR w0 T zs)]) (n + 1) (fun a w => o1.wp P a w (fun a' w' => wpList P l.toArray Q' [o2] a' w') (fun _ _ _ => False)) [oA]
    (fun j e hj => by
      rw [Nat.zero_add]
      have hj2 : j < es1.length := (List.getElem?_eq_some_iff.1 hj).1
      rw [List.getElem?_append_left hj2]; exact hj)
    (loose_new (by rw [Nat.zero_add, List.length_take, Nat.min_eq_left (by omega), ← hl1]; simp) ho hg hz fun v w hb hphi => by
      have := hphi n oA d (by omega) hlA hd (by rw [Act.putd_size, e4]; exact hds)
      rw [hd, putd_at (by rw [e4]; exact hds)] at this
      unfold phiOf at this
      rw [show (es1 ++ [Ent.lo (newR w0 T zs)])[n]? = some (.lo (newR w0 T zs)) by rw [← hl1]; simp] at this
      obtain ⟨b, rfl, hblk, hle⟩ := this
      rw [hd]
      exact e3 b w hle hb hblk)
  rw [← hA, show l.take n ++ (l.drop n).take 1 = l.take (n + 1) by rw [List.take_add]] at hL2
  exact wp_region_loose_float hm hL hB h1 h2 hF p1 d1 g1 x1 y1 pF qF gF g2 (keepsAll_append e2 (keepsAll_lo newR_keeps (show keepsAll [] from trivial))) hL2
end
end Go
