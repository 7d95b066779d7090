import Derived.Test.YtmlaenfgfgloeaaRot
import Derived.Test.YtmlaenfgfgloeaaBits
/-! keccak.theta. -/
set_option maxRecDepth 4000
set_option linter.unusedVariables false
set_option linter.unusedSimpArgs false
namespace Go.Proofs.Ytmlaenfgfgloeaa
open Go.RowKit

/-- The sums of the columns, the first i lanes taken in. -/
def csum (s : List (BitVec 64)) : Nat → List (BitVec 64)
  | 0 => [0, 0, 0, 0, 0]
  | i + 1 => (csum s i).set (i % 5) (nb (csum s i) (i % 5) ^^^ nb s i)
theorem csum_len (s : List (BitVec 64)) (i : Nat) : (csum s i).length = 5 := by induction i <;> simp [csum, *]
def thGo (c s : List (BitVec 64)) : Nat → List (BitVec 64)
  | 0 => s
  | i + 1 => (thGo c s i).set i (nb (thGo c s i) i ^^^ (nb c ((i + 4) % 5) ^^^ (nb c ((i + 1) % 5)).rotateLeft 1))
theorem thGo_len (c s : List (BitVec 64)) (i : Nat) : (thGo c s i).length = s.length := by induction i <;> simp [thGo, *]
def thetaL (s : List (BitVec 64)) : List (BitVec 64) := thGo (csum s 25) s 25
theorem thetaL_len (s : List (BitVec 64)) : (thetaL s).length = s.length := thGo_len _ _ _

theorem ArrB.grown {t : TypeId} {w w' : World} {b : Nat} {row : Option Nat} {xs : List (BitVec 64)} (h : ArrB t w b xs) (hg : w.grownBy w' row) (hne : some b ≠ row) : ArrB t w' b xs := by
  have hl := h.lt
  unfold ArrB at *
  rw [hg.block b hl hne]; exact h
theorem grownBy_refl (w : World) (row : Option Nat) : w.grownBy w row := ⟨rfl, rfl, rfl, Nat.le_refl _, fun _ _ _ => rfl⟩
theorem grownBy_trans {a b c : World} {row : Option Nat} (h : a.grownBy b row) (k : b.grownBy c row) : a.grownBy c row :=
  ⟨k.os.trans h.os, k.tape.trans h.tape, k.output.trans h.output, Nat.le_trans h.size k.size, fun i hi hn => (k.block i (Nat.lt_of_lt_of_le hi h.size) hn).trans (h.block i hi hn)⟩
theorem grownBy_below {a b c : World} {row : Option Nat} (h : a.grownBy b row) (k : Below b.heap.size b c) : a.grownBy c row :=
  ⟨k.os.trans h.os, k.tape.trans h.tape, k.output.trans h.output, Nat.le_trans h.size k.size, fun i hi hn => (k.block i (Nat.lt_of_lt_of_le hi h.size)).trans (h.block i hi hn)⟩
theorem grownBy_setCell {a b : World} {row : Option Nat} (h : a.grownBy b row) {p : Addr} (hp : some p.block = row ∨ a.heap.size ≤ p.block) (v : Value) : a.grownBy (b.setCell p v) row :=
  ⟨h.os, h.tape, h.output, by simpa [World.setCell] using h.size, fun i hi hn => by
    rw [Below.heap_setCell _ _ _ _ (by
      rcases hp with hp | hp
      · intro e; subst e; exact hn hp
      · omega)]; exact h.block i hi hn⟩
theorem grownBy_alloc {a b : World} {row : Option Nat} (h : a.grownBy b row) (o : Obj) : a.grownBy (b.alloc o) row := grownBy_below h ((Below.refl _ _).alloc (Nat.le_refl _) o)
theorem grownBy_ext {a b : World} {row : Option Nat} (h : a.grownBy b row) (x : World) : a.grownBy (b.ext x) row := grownBy_below h (b.ext_below x)
theorem grownBy_drew {a b : World} {row : Option Nat} (h : a.grownBy b row) : a.grownBy b.drew row := grownBy_below h (Below.refl _ _).drew

set_option maxHeartbeats 400000 in
theorem theta_any (t : TypeId) (s : List (BitVec 64)) (b : Nat) (w : World) (hs : s.length = 25) (ha : ArrB t w b s) :
    Calls Try.prog 28 #[.pointer (some ⟨b, 0, none⟩)] w fun e w' => e = .returned (.tuple #[]) ∧ ArrB t w' b (thetaL s) ∧ w.grownBy w' (some b) := by
  have HA := hid ha
  have hbl := ha.lt
  clear ha
  go_enter Try.func28, Try.ntmps28
  go_wp2
  go_loopw [7] (fun i wr => ∃ k : Nat, k ≤ 25 ∧ i = .int .i64 k ∧ Hid (ArrB t wr b s) ∧ Hid (ArrB 51 wr w.heap.size (csum s k)) ∧ w.grownBy wr none)
    (fun i _ => 25 - (intOf i).toNat)
  case atStart => exact ⟨0, by omega, rfl, hid (HA.out.alloc _), hid (ArrB.new _ _ [0, 0, 0, 0, 0]), grownBy_alloc (grownBy_refl _ _) _⟩
  case round =>
    obtain ⟨k, hk, rfl, hS, hC, hg⟩ := hrel
    by_cases hlt : k < 25
    · have h5 : k % 5 < 5 := Nat.mod_lt _ (by omega)
      have c1 := hS.out.cell k (by omega)
      have c2 := hC.out.cell (k % 5) (by rw [csum_len]; exact h5)
      have f2 := hC.out.free (k % 5)
      have n1 := iv_nonneg (nb s k)
      have l1 := hS.out.lt
      have l2 := hC.out.lt
      go_wp2_with (refine wp_region_ext (by kernel_rfl) (by kernel_rfl) ?_; (repeat (go_big_quiet_step (first | fail))); refine wpQuiet_nil ?_; rintro _ ⟨xw, rfl⟩)
      go_roundw
      case rel =>
        refine ⟨k + 1, by omega, by go_num, hid ((hS.out.ext _).other (by show b ≠ w.heap.size; omega) _), ?_, grownBy_setCell (grownBy_ext hg _) (.inr (Nat.le_refl _)) _⟩
        rw [iv_xor]
        exact hid ((hC.out.ext _).set (k % 5) _)
      case measure => simp [intOf]; omega
    · obtain rfl : k = 25 := by omega
      clear hlt hk
      go_wp2
      obtain ⟨wo, hwo⟩ : ∃ wo : World, wo = wr := ⟨_, rfl⟩
      subst hwo
      obtain ⟨c, hc⟩ : ∃ c, c = csum s 25 := ⟨_, rfl⟩
      rw [← hc] at hC
      have hcl : c.length = 5 := by rw [hc]; exact csum_len _ _
      have HT : Hid (thetaL s = thGo c s 25) := hid (by rw [hc]; rfl)
      clear hc
      go_loopw [21] (fun i wr => ∃ k : Nat, k ≤ 25 ∧ i = .int .i64 k ∧ Hid (ArrB t wr b (thGo c s k)) ∧ Hid (ArrB 51 wr w.heap.size c) ∧ w.grownBy wr (some b))
        (fun i _ => 25 - (intOf i).toNat)
      case atStart => exact ⟨0, by omega, rfl, hS, hC, ⟨hg.os, hg.tape, hg.output, hg.size, fun i hi _ => hg.block i hi (by simp)⟩⟩
      case round =>
        obtain ⟨k, hk, rfl, hS, hC, hg⟩ := hrel
        by_cases hlt : k < 25
        · have h5 : (k + 4) % 5 < 5 := Nat.mod_lt _ (by omega)
          have h6 : (k + 1) % 5 < 5 := Nat.mod_lt _ (by omega)
          have c1 := hS.out.cell k (by rw [thGo_len]; omega)
          have f1 := hS.out.free k
          have c2 := hC.out.cell ((k + 4) % 5) (by omega)
          have c3 := hC.out.cell ((k + 1) % 5) (by omega)
          have l1 := hS.out.lt
          have l2 := hC.out.lt
          go_wp2_with (refine wp_region_ext_tail 20 (by kernel_rfl) (by kernel_rfl) ?_; simp only [List.take_succ_cons, List.take_zero, List.drop_succ_cons, List.drop_zero]; (repeat (go_big_quiet_step (first | (go_at_call 30; with_reducible refine Calls.ext_of (rot_any _ _ _))))); refine wpQuiet_nil ?_; rintro _ ⟨xw, rfl⟩)
          go_roundw
          case rel =>
            refine ⟨k + 1, by omega, by go_num, ?_, hid ((hC.out.ext _).other (by show w.heap.size ≠ b; omega) _), grownBy_setCell (grownBy_ext hg _) (.inl rfl) _⟩
            rw [iv_xor, iv_xor]
            exact hid ((hS.out.ext _).set k _)
          case measure => simp [intOf]; omega
        · obtain rfl : k = 25 := by omega
          rw [← HT.out] at hS
          go_wp2
          go_end0
          exact ⟨rfl, hS.out, hg⟩
end Go.Proofs.Ytmlaenfgfgloeaa
