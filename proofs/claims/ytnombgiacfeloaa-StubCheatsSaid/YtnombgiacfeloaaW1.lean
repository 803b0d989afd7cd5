/- Proved here: contracts of functions of the program, each for every input that its statement names. The walks of the ranges, the bits and the spans ('in', 'grams', 'out', 'span', 'among' and others). -/
import Derived.Test.YtnombgiacfeloaaProg
import Derived.Test.YtnombgiacfeloaaB
import Derived.Deep.QuietTactic
import Derived.BigQuiet
import Derived.Deep.LoopGhost
namespace Go.Proofs.Ytnombgiacfeloaa
set_option linter.unusedVariables false
set_option linter.unusedSimpArgs false
open Go.RowKit

set_option maxHeartbeats 400000 in
theorem in_any (n lo hi : Int) (w : World) :
    Calls Try.prog 61 #[.int .i64 n, .int .i64 lo, .int .i64 hi] w fun e w' => e = .returned (.bool (decide (lo ≤ n) && decide (n ≤ hi))) ∧ w = w' := by
  go_enter Try.func61, Try.ntmps61
  go_wp2
  · have h : decide (lo ≤ n) = true := by simpa
    go_ret
    exact ⟨ret_bool (by simp [h]), rfl⟩
  · have h : decide (lo ≤ n) = false := by simpa
    go_ret
    exact ⟨ret_bool (by simp [h]), rfl⟩

set_option maxHeartbeats 400000 in
theorem outc_any (n lo hi : Int) (p q : Addr) (w : World) (hp : w.cell? p = some (.int .i64 lo)) (hq : w.cell? q = some (.int .i64 hi)) :
    Calls Try.prog 89 #[.int .i64 n, .pointer (some p), .pointer (some q)] w fun e w' => e = .returned (.bool (outB lo hi n)) ∧ w = w' := by
  unfold outB
  go_enter Try.func89, Try.ntmps89
  go_wp2 <;>
    (go_ret
     refine ⟨ret_bool ?_, rfl⟩
     simp)

set_option maxHeartbeats 400000 in
theorem indexInts_any (lo hi : Int) (p q : Addr) (v : Value) (zs : List Int) (w : World) (h : Rd w 1 v (ints zs)) (hp : w.cell? p = some (.int .i64 lo)) (hq : w.cell? q = some (.int .i64 hi)) :
    Calls Try.prog 101 #[v, .func (.func 89) #[] #[.pointer (some p), .pointer (some q)]] w fun e w' => e = .returned (.int .i64 (idx (outB lo hi) zs 0)) ∧ w = w' := by
  obtain ⟨a, c, rfl, -, hm, hr⟩ := h.ints
  have H := Lib.hid hr
  clear hr h
  go_enter Try.func101, Try.ntmps101
  go_wp2
  go_loop [5, 8] (fun _ i => ∃ k : Nat, k ≤ zs.length ∧ i = .int .i64 k ∧ Hid (∀ j (hj : j < k) (hz : j < zs.length), outB lo hi zs[j] = false)) (fun _ i => zs.length - (intOf i).toNat)
  case atStart => exact ⟨0, Nat.zero_le _, rfl, fun j hj => absurd hj (Nat.not_lt_zero _)⟩
  case round =>
    obtain ⟨k, hk, rfl, A⟩ := hrel
    by_cases hlt : k < zs.length
    · obtain ⟨b, off, rfl, hb, hc⟩ := H.out (by omega)
      have hcell := hc k hlt
      clear hc
      generalize hz : zs[k] = z at hcell
      have HZ := Lib.hid hz
      clear hz
      cases hq' : outB lo hi z with
      | true =>
        have HQ := Lib.hid hq'
        clear hq'
        go_wp2_with (go_at_call 89; refine (outc_any _ _ _ _ _ _ hp hq).mono ?_; rw [HQ.out]; rintro e w' ⟨rfl, rfl⟩)
        go_ret
        refine ⟨ret_int ?_, rfl⟩
        rw [idx_hit _ zs 0 k hlt (by rw [HZ.out]; exact HQ.out) (fun j hj => A.out j hj _)]
        simp
      | false =>
        have HQ := Lib.hid hq'
        clear hq'
        go_wp2_with (go_at_call 89; refine (outc_any _ _ _ _ _ _ hp hq).mono ?_; rw [HQ.out]; rintro e w' ⟨rfl, rfl⟩)
        go_round
        case rel =>
          refine ⟨k + 1, by omega, by go_num, fun j hj hz => ?_⟩
          by_cases e : j = k
          · subst e; rw [HZ.out]; exact HQ.out
          · exact A.out j (by omega) hz
        case measure => simp [intOf]; omega
    · go_wp2
      go_ret
      refine ⟨ret_int ?_, rfl⟩
      rw [idx_miss _ zs 0 (fun j hj => A.out j (by omega) hj)]

set_option maxHeartbeats 400000 in
theorem containsInts_any (lo hi : Int) (p q : Addr) (v : Value) (zs : List Int) (w : World) (h : Rd w 1 v (ints zs)) (hp : w.cell? p = some (.int .i64 lo)) (hq : w.cell? q = some (.int .i64 hi)) :
    Calls Try.prog 88 #[v, .func (.func 89) #[] #[.pointer (some p), .pointer (some q)]] w fun e w' => e = .returned (.bool (zs.any (outB lo hi))) ∧ w = w' := by
  go_enter Try.func88, Try.ntmps88
  go_wp2_with (go_at_call 101; refine (indexInts_any lo hi p q v zs _ h hp hq).mono ?_; rintro e w' ⟨rfl, rfl⟩)
  go_ret
  exact ⟨ret_bool (idx_any _ _ _), rfl⟩

set_option maxHeartbeats 400000 in
theorem out_any (lo hi : Int) (v : Value) (zs : List Int) (w : World) (h : Rd w 1 v (ints zs)) :
    Calls Try.prog 54 #[.int .i64 lo, .int .i64 hi, v] w fun e w' => e = .returned (.bool (anyOut lo hi zs)) ∧ Below w.heap.size w w' := by
  have hb : Below w.heap.size w ((w.alloc (Obj.cells #[Value.int IntKind.i64 lo] 3)).alloc (Obj.cells #[Value.int IntKind.i64 hi] 3)) :=
    ((Below.refl _ _).alloc (Nat.le_refl _) _).alloc (by simp) _
  go_enter Try.func54, Try.ntmps54
  go_wp2_with (go_at_call 88; refine (containsInts_any lo hi _ _ v zs _ (h.below hb) (by simp) (by simp)).mono ?_; rintro e w' ⟨rfl, rfl⟩)
  go_ret
  exact ⟨rfl, hb⟩

set_option maxHeartbeats 400000 in
theorem in1_any (n lo hi : Int) (w : World) :
    Calls Try.prog 91 #[.int .i64 n, .int .i64 lo, .int .i64 hi] w fun e w' => e = .returned (.bool (decide (lo ≤ n) && decide (n ≤ hi))) ∧ w = w' := by
  go_enter Try.func91, Try.ntmps91
  go_wp2
  · have h : decide (lo ≤ n) = true := by simpa
    go_ret
    exact ⟨ret_bool (by simp [h]), rfl⟩
  · have h : decide (lo ≤ n) = false := by simpa
    go_ret
    exact ⟨ret_bool (by simp [h]), rfl⟩

set_option maxHeartbeats 400000 in
theorem grams_any (n : Int) (w : World) :
    Calls Try.prog 60 #[.int .i64 n] w fun e w' => e = .returned (.bool (decide (0 ≤ n) && decide (n ≤ 1000000))) ∧ w = w' := by
  go_enter Try.func60, Try.ntmps60
  go_wp2_with (go_at_call 61; refine (in_any _ _ _ _).mono ?_; rintro e w' ⟨rfl, rfl⟩)
  go_ret
  exact ⟨rfl, rfl⟩

set_option maxHeartbeats 400000 in
theorem lo_any (lo hi : Int) (w : World) :
    Calls Try.prog 76 #[.agg #[.int .i64 lo, .int .i64 hi]] w fun e w' => e = .returned (.int .i64 lo) ∧ Below w.heap.size w w' := by
  go_enter Try.func76, Try.ntmps76
  go_wp2
  go_ret
  exact ⟨rfl, below_alloc1 _ _⟩

set_option maxHeartbeats 400000 in
theorem hi_any (lo hi : Int) (w : World) :
    Calls Try.prog 77 #[.agg #[.int .i64 lo, .int .i64 hi]] w fun e w' => e = .returned (.int .i64 hi) ∧ Below w.heap.size w w' := by
  go_enter Try.func77, Try.ntmps77
  go_wp2
  go_ret
  exact ⟨rfl, below_alloc1 _ _⟩

set_option maxHeartbeats 400000 in
theorem span_any (lo hi : Int) (w : World) :
    Calls Try.prog 38 #[.int .i64 lo, .int .i64 hi] w fun e w' => e = .returned (.agg #[.int .i64 lo, .int .i64 hi]) ∧ Below w.heap.size w w' := by
  go_enter Try.func38, Try.ntmps38
  go_wp2
  exact bodyPost_ret (v := .agg #[.int .i64 lo, .int .i64 hi]) (by simp [results, Try.results38, go_sem]) rfl ⟨rfl, below_alloc1 _ _⟩

def ownB (a k : Int) : Bool := bits BinOp.and IntKind.i64 k a != 0
def foreignB (a k : Int) : Bool := bits BinOp.andNot IntKind.i64 k a != 0

set_option maxHeartbeats 400000 in
theorem own_any (a f lo hi k : Int) (w : World) :
    Calls Try.prog 75 #[.agg #[.int .i64 a, .int .i64 f], .agg #[.int .i64 lo, .int .i64 hi, .int .i64 k]] w fun e w' => e = .returned (.bool (ownB a k)) ∧ Below w.heap.size w w' := by
  go_enter Try.func75, Try.ntmps75
  go_wp2
  go_ret
  exact ⟨rfl, below_alloc2 _ _ _⟩

set_option maxHeartbeats 400000 in
theorem foreign_any (a f lo hi k : Int) (w : World) :
    Calls Try.prog 98 #[.agg #[.int .i64 a, .int .i64 f], .agg #[.int .i64 lo, .int .i64 hi, .int .i64 k]] w fun e w' => e = .returned (.bool (foreignB a k)) ∧ Below w.heap.size w w' := by
  go_enter Try.func98, Try.ntmps98
  go_wp2
  go_ret
  exact ⟨rfl, below_alloc2 _ _ _⟩

set_option maxHeartbeats 400000 in
theorem compare_any (a b : Int) (w : World) :
    Calls Try.prog 83 #[.int .i64 a, .int .i64 b] w fun e w' => e = .returned (.int .i64 (cmpI a b)) ∧ w = w' := by
  by_cases h1 : a < b
  · have H : Hid (cmpI a b = -1) := by unfold cmpI Hid; rw [if_pos h1]
    go_enter Try.func83, Try.ntmps83
    go_wp2
    go_ret
    exact ⟨ret_int H.out.symm, rfl⟩
  · by_cases h2 : b < a
    · have H : Hid (cmpI a b = 1) := by unfold cmpI Hid; rw [if_neg h1, if_pos h2]
      go_enter Try.func83, Try.ntmps83
      go_wp2
      go_ret
      exact ⟨ret_int H.out.symm, rfl⟩
    · have H : Hid (cmpI a b = 0) := by unfold cmpI Hid; rw [if_neg h1, if_neg h2]
      go_enter Try.func83, Try.ntmps83
      go_wp2
      go_ret
      exact ⟨ret_int H.out.symm, rfl⟩

set_option maxHeartbeats 400000 in
theorem among_any (lo hi n : Int) (w : World) (h0 : -1000000 ≤ lo) (h1 : lo ≤ hi) (h2 : hi ≤ 1000000) (hn : 0 ≤ n) :
    Calls Try.prog 85 #[.agg #[.int .i64 lo, .int .i64 hi], .int .i64 n] w fun e w' => e = .returned (.int .i64 (lo + n % (hi - lo + 1))) ∧ Below w.heap.size w w' := by
  have hr1 : 0 ≤ n % (hi - lo + 1) := Int.emod_nonneg _ (by omega)
  have hr2 : n % (hi - lo + 1) < hi - lo + 1 := Int.emod_lt_of_pos _ (by omega)
  go_enter Try.func85, Try.ntmps85
  go_wp2
  go_quiet (fail)
  all_goals go_wp2
  go_ret
  exact ⟨rfl, below_drewN (below_alloc1 _ _) _⟩

end Go.Proofs.Ytnombgiacfeloaa
