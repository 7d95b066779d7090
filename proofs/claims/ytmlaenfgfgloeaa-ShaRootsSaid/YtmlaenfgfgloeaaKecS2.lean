import Derived.Test.YtmlaenfgfgloeaaKecJ
/-! The iterator that keccak.blocks hands back. -/
set_option maxRecDepth 4000
set_option linter.unusedVariables false
set_option linter.unusedSimpArgs false
namespace Go.Proofs.Ytmlaenfgfgloeaa
open Go.RowKit Go.Shelf
attribute [local go_sem] Oper.semAt_some

def chV (g cap k : Nat) : Value := .slice (some ⟨g, 136 * k, none⟩) 136 (cap - 136 * k)
def KpB (B0 B1 : Nat) (W W' : World) : Prop := W'.heap[B0]? = W.heap[B0]? ∧ W'.heap[B1]? = W.heap[B1]?

set_option maxHeartbeats 1000000 in
theorem blocks_stops (n g L cap K B0 B1 : Nat) (sv : Value) (w : World) (hn : 1 ≤ n) (hL : 136 * K ≤ L) (hc : L ≤ cap) (hm : cap ≤ maxLen) (h0 : Boxed w B0 27 sv) (h1 : Boxed w B1 3 (.int .i64 ((136 * K : Nat) : Int))) (hs : K = 0 ∨ sv = .slice (some ⟨g, 0, none⟩) L cap) :
    SeqStopsK Fence.wide n Try.prog 49 #[.pointer (some ⟨B1, 0, none⟩), .pointer (some ⟨B0, 0, none⟩)] (fun k : Fin K => #[chV g cap k.val]) (KpB B0 B1) (fun xs => xs.map Fin.val = List.range K) (fun _ => True) K w := by
  intro l J Jx W hW hJ hJx hY hj0
  have b0 : Boxed W B0 27 sv := (hW.block B0 h0.lt).trans h0
  have b1 : Boxed W B1 3 (.int .i64 ((136 * K : Nat) : Int)) := (hW.block B1 h1.lt).trans h1
  unfold maxLen at hm
  refine callsIn_of_wp Try.func49 rfl trivial ?_ rfl
  simp only [Try.ntmps49, List.size_toArray, List.length_cons, List.length_nil, Nat.reduceAdd, Nat.reduceSub, Array.replicate_succ, Array.replicate_zero, List.push_toArray, List.append_toArray, List.nil_append, List.cons_append]
  gi_wp2
  gi_loopw [4] (fun i wr => ∃ (k : Nat) (pre : List (Fin K)), k ≤ K ∧ i = .int .i64 ((136 * k : Nat) : Int) ∧ pre.map Fin.val = List.range k ∧ J pre wr ∧ Boxed wr B0 27 sv ∧ Boxed wr B1 3 (.int .i64 ((136 * K : Nat) : Int)))
    (fun i wr => 136 * K - (intOf i).toNat)
  case atStart => exact ⟨0, [], by omega, rfl, rfl, hj0, b0, b1⟩
  case round =>
    obtain ⟨k, pre, hk, rfl, hpre, hjk, b0, b1⟩ := hrel
    have c1 := b1.cell
    by_cases hlt : k < K
    · obtain rfl : sv = .slice (some ⟨g, 0, none⟩) L cap := by rcases hs with h | h; omega; exact h
      have c0 := b0.cell
      have hpl : pre.length = k := by have := congrArg List.length hpre; simpa using this
      obtain ⟨fn, tmps, assign, body, hy, hR⟩ := hY pre ⟨k, hlt⟩ wr hjk (by omega)
      dsimp only at hy
      simp only [chV] at hy
      gi_wp2
      refine hR.mono ?_
      rintro e W3 (⟨rfl, hJ3, hk3⟩ | ⟨rfl, hJx3⟩)
      · have b03 : Boxed W3 B0 _ _ := hk3.1.trans b0
        have b13 : Boxed W3 B1 _ _ := hk3.2.trans b1
        gi_wp2
        go_roundw
        case rel => exact ⟨k + 1, pre ++ [⟨k, hlt⟩], by omega, by go_num, by rw [List.map_append, hpre, List.range_succ]; rfl, hJ3, b03, b13⟩
        case measure => simp [intOf]; omega
      · gi_wp2
        refine bodyPost_ret (results_none rfl _ _ _) rfl ?_
        exact ⟨⟨_, rfl⟩, .inr ⟨_, trivial, hJx3⟩⟩
    · obtain rfl : k = K := by omega
      gi_wp2
      go_end0
      exact ⟨⟨_, rfl⟩, .inl ⟨pre, hpre, hjk⟩⟩
end Go.Proofs.Ytmlaenfgfgloeaa
