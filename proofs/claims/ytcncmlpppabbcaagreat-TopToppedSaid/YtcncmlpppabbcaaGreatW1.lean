/- Proved here: contracts of functions of the program, each for every input that its statement names. The walks of the ranges, the bits and the spans ('in', 'grams', 'out', 'span', 'among' and others). -/
import Derived.Test.YtcncmlpppabbcaaGreatProg
import Derived.Test.YtcncmlpppabbcaaGreatB
import Derived.Deep.QuietTactic
import Derived.BigQuiet
import Derived.Deep.LoopGhost
namespace Go.Proofs.YtcncmlpppabbcaaGreat
set_option linter.unusedVariables false
set_option linter.unusedSimpArgs false
open Go.RowKit

set_option maxHeartbeats 400000 in
theorem in_any (n lo hi : Int) (w : World) :
    Calls Tryz.prog 47 #[.int .i64 n, .int .i64 lo, .int .i64 hi] w fun e w' => e = .returned (.bool (decide (lo ≤ n) && decide (n ≤ hi))) ∧ w = w' := by
  go_enter Tryz.func47, Tryz.ntmps47
  go_wp2
  · have h : decide (lo ≤ n) = true := by simpa
    go_ret
    exact ⟨ret_bool (by simp [h]), rfl⟩
  · have h : decide (lo ≤ n) = false := by simpa
    go_ret
    exact ⟨ret_bool (by simp [h]), rfl⟩

set_option maxHeartbeats 400000 in
theorem outc_any (n lo hi : Int) (p q : Addr) (w : World) (hp : w.cell? p = some (.int .i64 lo)) (hq : w.cell? q = some (.int .i64 hi)) :
    Calls Tryz.prog 87 #[.int .i64 n, .pointer (some p), .pointer (some q)] w fun e w' => e = .returned (.bool (outB lo hi n)) ∧ w = w' := by
  unfold outB
  go_enter Tryz.func87, Tryz.ntmps87
  go_wp2 <;>
    (go_ret
     refine ⟨ret_bool ?_, rfl⟩
     simp)

set_option maxHeartbeats 400000 in
theorem indexInts_any (lo hi : Int) (p q : Addr) (v : Value) (zs : List Int) (w : World) (h : Rd w 1 v (ints zs)) (hp : w.cell? p = some (.int .i64 lo)) (hq : w.cell? q = some (.int .i64 hi)) :
    Calls Tryz.prog 61 #[v, .func (.func 87) #[] #[.pointer (some p), .pointer (some q)]] w fun e w' => e = .returned (.int .i64 (idx (outB lo hi) zs 0)) ∧ w = w' := by
  obtain ⟨a, c, rfl, -, hm, hr⟩ := h.ints
  have H := Lib.hid hr
  clear hr h
  go_enter Tryz.func61, Tryz.ntmps61
  go_wp2
  go_loop [5, 8] (fun _ i => ∃ k : Nat, k ≤ zs.length ∧ i = .int .i64 k ∧ Hid (∀ j (hj : j < k) (hz : j < zs.length), outB lo hi zs[j] = false)) (fun _ i => zs.length - (intOf i).toNat)
  case atStart => exact ⟨0, Nat.zero_le _, rfl, fun j hj => absurd hj (Nat.not_lt_zero _)⟩
  case round =>
    obtain ⟨k, hk, rfl, A⟩ := hrel
    by_cases hlt : k < zs.length
    · obtain ⟨b, off, rfl, hb, hc⟩ := H.out (by omega)
      have hcell := hc k hlt
      clear hc
      generalize hz : zs[k] = z at hcell
      have HZ := Lib.hid hz
      clear hz
      cases hq' : outB lo hi z with
      | true =>
        have HQ := Lib.hid hq'
        clear hq'
        go_wp2_with (go_at_call 87; refine (outc_any _ _ _ _ _ _ hp hq).mono ?_; rw [HQ.out]; rintro e w' ⟨rfl, rfl⟩)
        go_ret
        refine ⟨ret_int ?_, rfl⟩
        rw [idx_hit _ zs 0 k hlt (by rw [HZ.out]; exact HQ.out) (fun j hj => A.out j hj _)]
        simp
      | false =>
        have HQ := Lib.hid hq'
        clear hq'
        go_wp2_with (go_at_call 87; refine (outc_any _ _ _ _ _ _ hp hq).mono ?_; rw [HQ.out]; rintro e w' ⟨rfl, rfl⟩)
        go_round
        case rel =>
          refine ⟨k + 1, by omega, by go_num, fun j hj hz => ?_⟩
          by_cases e : j = k
          · subst e; rw [HZ.out]; exact HQ.out
          · exact A.out j (by omega) hz
        case measure => simp [intOf]; omega
    · go_wp2
      go_ret
      refine ⟨ret_int ?_, rfl⟩
      rw [idx_miss _ zs 0 (fun j hj => A.out j (by omega) hj)]

set_option maxHeartbeats 400000 in
theorem containsInts_any (lo hi : Int) (p q : Addr) (v : Value) (zs : List Int) (w : World) (h : Rd w 1 v (ints zs)) (hp : w.cell? p = some (.int .i64 lo)) (hq : w.cell? q = some (.int .i64 hi)) :
    Calls Tryz.prog 18 #[v, .func (.func 87) #[] #[.pointer (some p), .pointer (some q)]] w fun e w' => e = .returned (.bool (zs.any (outB lo hi))) ∧ w = w' := by
  go_enter Tryz.func18, Tryz.ntmps18
  go_wp2_with (go_at_call 61; refine (indexInts_any lo hi p q v zs _ h hp hq).mono ?_; rintro e w' ⟨rfl, rfl⟩)
  go_ret
  exact ⟨ret_bool (idx_any _ _ _), rfl⟩

set_option maxHeartbeats 400000 in
theorem out_any (lo hi : Int) (v : Value) (zs : List Int) (w : World) (h : Rd w 1 v (ints zs)) :
    Calls Tryz.prog 50 #[.int .i64 lo, .int .i64 hi, v] w fun e w' => e = .returned (.bool (anyOut lo hi zs)) ∧ Below w.heap.size w w' := by
  have hb : Below w.heap.size w ((w.alloc (Obj.cells #[Value.int IntKind.i64 lo] 3)).alloc (Obj.cells #[Value.int IntKind.i64 hi] 3)) :=
    ((Below.refl _ _).alloc (Nat.le_refl _) _).alloc (by simp) _
  go_enter Tryz.func50, Tryz.ntmps50
  go_wp2_with (go_at_call 18; refine (containsInts_any lo hi _ _ v zs _ (h.below hb) (by simp) (by simp)).mono ?_; rintro e w' ⟨rfl, rfl⟩)
  go_ret
  exact ⟨rfl, hb⟩

set_option maxHeartbeats 400000 in
theorem in1_any (n lo hi : Int) (w : World) :
    Calls Tryz.prog 83 #[.int .i64 n, .int .i64 lo, .int .i64 hi] w fun e w' => e = .returned (.bool (decide (lo ≤ n) && decide (n ≤ hi))) ∧ w = w' := by
  go_enter Tryz.func83, Tryz.ntmps83
  go_wp2
  · have h : decide (lo ≤ n) = true := by simpa
    go_ret
    exact ⟨ret_bool (by simp [h]), rfl⟩
  · have h : decide (lo ≤ n) = false := by simpa
    go_ret
    exact ⟨ret_bool (by simp [h]), rfl⟩

set_option maxHeartbeats 400000 in
theorem grams_any (n : Int) (w : World) :
    Calls Tryz.prog 46 #[.int .i64 n] w fun e w' => e = .returned (.bool (decide (0 ≤ n) && decide (n ≤ 1000000))) ∧ w = w' := by
  go_enter Tryz.func46, Tryz.ntmps46
  go_wp2_with (go_at_call 47; refine (in_any _ _ _ _).mono ?_; rintro e w' ⟨rfl, rfl⟩)
  go_ret
  exact ⟨rfl, rfl⟩

set_option maxHeartbeats 400000 in
theorem lo_any (lo hi : Int) (w : World) :
    Calls Tryz.prog 76 #[.agg #[.int .i64 lo, .int .i64 hi]] w fun e w' => e = .returned (.int .i64 lo) ∧ Below w.heap.size w w' := by
  go_enter Tryz.func76, Tryz.ntmps76
  go_wp2
  go_ret
  exact ⟨rfl, below_alloc1 _ _⟩

set_option maxHeartbeats 400000 in
theorem hi_any (lo hi : Int) (w : World) :
    Calls Tryz.prog 77 #[.agg #[.int .i64 lo, .int .i64 hi]] w fun e w' => e = .returned (.int .i64 hi) ∧ Below w.heap.size w w' := by
  go_enter Tryz.func77, Tryz.ntmps77
  go_wp2
  go_ret
  exact ⟨rfl, below_alloc1 _ _⟩

set_option maxHeartbeats 400000 in
theorem span_any (lo hi : Int) (w : World) :
    Calls Tryz.prog 44 #[.int .i64 lo, .int .i64 hi] w fun e w' => e = .returned (.agg #[.int .i64 lo, .int .i64 hi]) ∧ Below w.heap.size w w' := by
  go_enter Tryz.func44, Tryz.ntmps44
  go_wp2
  exact bodyPost_ret (v := .agg #[.int .i64 lo, .int .i64 hi]) (by simp [results, Tryz.results44, go_sem]) rfl ⟨rfl, below_alloc1 _ _⟩

def ownB (a k : Int) : Bool := bits BinOp.and IntKind.i64 k a != 0
def foreignB (a k : Int) : Bool := bits BinOp.andNot IntKind.i64 k a != 0

set_option maxHeartbeats 400000 in
theorem own_any (a f lo hi k : Int) (w : World) :
    Calls Tryz.prog 75 #[.agg #[.int .i64 a, .int .i64 f], .agg #[.int .i64 lo, .int .i64 hi, .int .i64 k]] w fun e w' => e = .returned (.bool (ownB a k)) ∧ Below w.heap.size w w' := by
  go_enter Tryz.func75, Tryz.ntmps75
  go_wp2
  go_ret
  exact ⟨rfl, below_alloc2 _ _ _⟩

set_option maxHeartbeats 400000 in
theorem foreign_any (a f lo hi k : Int) (w : World) :
    Calls Tryz.prog 95 #[.agg #[.int .i64 a, .int .i64 f], .agg #[.int .i64 lo, .int .i64 hi, .int .i64 k]] w fun e w' => e = .returned (.bool (foreignB a k)) ∧ Below w.heap.size w w' := by
  go_enter Tryz.func95, Tryz.ntmps95
  go_wp2
  go_ret
  exact ⟨rfl, below_alloc2 _ _ _⟩

set_option maxHeartbeats 400000 in
theorem compare_any (a b : Int) (w : World) :
    Calls Tryz.prog 82 #[.int .i64 a, .int .i64 b] w fun e w' => e = .returned (.int .i64 (cmpI a b)) ∧ w = w' := by
  by_cases h1 : a < b
  · have H : Hid (cmpI a b = -1) := by unfold cmpI Hid; rw [if_pos h1]
    go_enter Tryz.func82, Tryz.ntmps82
    go_wp2
    go_ret
    exact ⟨ret_int H.out.symm, rfl⟩
  · by_cases h2 : b < a
    · have H : Hid (cmpI a b = 1) := by unfold cmpI Hid; rw [if_neg h1, if_pos h2]
      go_enter Tryz.func82, Tryz.ntmps82
      go_wp2
      go_ret
      exact ⟨ret_int H.out.symm, rfl⟩
    · have H : Hid (cmpI a b = 0) := by unfold cmpI Hid; rw [if_neg h1, if_neg h2]
      go_enter Tryz.func82, Tryz.ntmps82
      go_wp2
      go_ret
      exact ⟨ret_int H.out.symm, rfl⟩

end Go.Proofs.YtcncmlpppabbcaaGreat
