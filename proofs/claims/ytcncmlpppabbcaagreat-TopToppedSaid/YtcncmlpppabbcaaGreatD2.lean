/- A mould, as a value and in memory; what Check says of it. Contracts of mould's small functions: out, Check, cold, hot, span, and of the reference's Check. Contracts of mould's small functions: out, Check, cold, hot, span, and of the reference's Check where a mould is valid. slices.Max of whole numbers. -/
import Derived.Test.YtcncmlpppabbcaaGreatW1
import Derived.Test.YtcncmlpppabbcaaGreatW24
import Derived.Deep.DeepCutAuto
namespace Go.Proofs.YtcncmlpppabbcaaGreat
set_option linter.unusedVariables false
set_option linter.unusedSimpArgs false
open Go.RowKit

structure Mo where
  rings : Int
  give : Int
  plo : Int
  phi : Int
  wlo : Int
  whi : Int
  set : Int
  shrink : Int
  skin : Int
  fill : Int
  gap : Int
  deep : Int

def Mo.cells (m : Mo) : Array Value := #[.int .i64 m.rings, .int .i64 m.give, .int .i64 m.plo, .int .i64 m.phi, .int .i64 m.wlo, .int .i64 m.whi, .int .i64 m.set, .int .i64 m.shrink, .int .i64 m.skin, .int .i64 m.fill, .int .i64 m.gap, .int .i64 m.deep]

/-- A mould lies in a block. -/
structure MoAt (w : World) (B : Nat) (m : Mo) : Prop where
  c0 : w.cell? ⟨B, 0, none⟩ = some (.int .i64 m.rings)
  c1 : w.cell? ⟨B, 1, none⟩ = some (.int .i64 m.give)
  c2 : w.cell? ⟨B, 2, none⟩ = some (.int .i64 m.plo)
  c3 : w.cell? ⟨B, 3, none⟩ = some (.int .i64 m.phi)
  c4 : w.cell? ⟨B, 4, none⟩ = some (.int .i64 m.wlo)
  c5 : w.cell? ⟨B, 5, none⟩ = some (.int .i64 m.whi)
  c6 : w.cell? ⟨B, 6, none⟩ = some (.int .i64 m.set)
  c7 : w.cell? ⟨B, 7, none⟩ = some (.int .i64 m.shrink)
  c8 : w.cell? ⟨B, 8, none⟩ = some (.int .i64 m.skin)
  c9 : w.cell? ⟨B, 9, none⟩ = some (.int .i64 m.fill)
  c10 : w.cell? ⟨B, 10, none⟩ = some (.int .i64 m.gap)
  c11 : w.cell? ⟨B, 11, none⟩ = some (.int .i64 m.deep)
theorem MoAt.below {w w' : World} {B : Nat} {m : Mo} (h : MoAt w B m) (hb : Below w.heap.size w w') : MoAt w' B m :=
  ⟨keep hb h.c0, keep hb h.c1, keep hb h.c2, keep hb h.c3, keep hb h.c4, keep hb h.c5, keep hb h.c6, keep hb h.c7, keep hb h.c8, keep hb h.c9, keep hb h.c10, keep hb h.c11⟩
theorem MoAt.new (w : World) (m : Mo) (t : TypeId) : MoAt (w.alloc (.cells m.cells t)) w.heap.size m :=
  ⟨cell_new_lit w [_, _, _, _, _, _, _, _, _, _, _, _] t 0, cell_new_lit w [_, _, _, _, _, _, _, _, _, _, _, _] t 1, cell_new_lit w [_, _, _, _, _, _, _, _, _, _, _, _] t 2, cell_new_lit w [_, _, _, _, _, _, _, _, _, _, _, _] t 3, cell_new_lit w [_, _, _, _, _, _, _, _, _, _, _, _] t 4, cell_new_lit w [_, _, _, _, _, _, _, _, _, _, _, _] t 5, cell_new_lit w [_, _, _, _, _, _, _, _, _, _, _, _] t 6, cell_new_lit w [_, _, _, _, _, _, _, _, _, _, _, _] t 7, cell_new_lit w [_, _, _, _, _, _, _, _, _, _, _, _] t 8, cell_new_lit w [_, _, _, _, _, _, _, _, _, _, _, _] t 9, cell_new_lit w [_, _, _, _, _, _, _, _, _, _, _, _] t 10, cell_new_lit w [_, _, _, _, _, _, _, _, _, _, _, _] t 11⟩

/-- The error of a mould. -/
def chkM (m : Mo) : Int :=
  if anyOut 1 8 [m.rings] || anyOut 1 500 [m.give] || anyOut 0 200 [m.shrink] || anyOut 0 m.rings [m.skin] then 7
  else if anyOut 0 2000 [m.plo, m.phi, m.wlo, m.whi, m.set] then 7
  else if anyOut 1 100000 [m.fill] || anyOut 1 60 [m.gap] || anyOut 0 100000 [m.deep] then 7
  else if m.phi < m.plo ∨ m.whi < m.wlo then 2 else 0

structure MoOk (m : Mo) : Prop where
  rings : 1 ≤ m.rings ∧ m.rings ≤ 8
  give : 1 ≤ m.give ∧ m.give ≤ 500
  pour : 0 ≤ m.plo ∧ m.plo ≤ m.phi ∧ m.phi ≤ 2000
  wall : 0 ≤ m.wlo ∧ m.wlo ≤ m.whi ∧ m.whi ≤ 2000
  set : 0 ≤ m.set ∧ m.set ≤ 2000
  shrink : 0 ≤ m.shrink ∧ m.shrink ≤ 200
  skin : 0 ≤ m.skin ∧ m.skin ≤ m.rings
  fill : 1 ≤ m.fill ∧ m.fill ≤ 100000
  gap : 1 ≤ m.gap ∧ m.gap ≤ 60
  deep : 0 ≤ m.deep ∧ m.deep ≤ 100000

theorem chkM_ok {m : Mo} (h : chkM m = 0) : MoOk m := by
  unfold chkM at h
  by_cases h1 : (anyOut 1 8 [m.rings] || anyOut 1 500 [m.give] || anyOut 0 200 [m.shrink] || anyOut 0 m.rings [m.skin]) = true
  · rw [if_pos h1] at h; cases h
  · rw [if_neg h1] at h
    by_cases h2 : anyOut 0 2000 [m.plo, m.phi, m.wlo, m.whi, m.set] = true
    · rw [if_pos h2] at h; cases h
    · rw [if_neg h2] at h
      by_cases h3 : (anyOut 1 100000 [m.fill] || anyOut 1 60 [m.gap] || anyOut 0 100000 [m.deep]) = true
      · rw [if_pos h3] at h; cases h
      · rw [if_neg h3] at h
        by_cases h4 : m.phi < m.plo ∨ m.whi < m.wlo
        · rw [if_pos h4] at h; cases h
        · simp only [anyOut, List.any_cons, List.any_nil, outB, Bool.or_false, Bool.or_eq_true, decide_eq_true_eq] at h1 h2 h3
          refine ⟨?_, ?_, ?_, ?_, ?_, ?_, ?_, ?_, ?_, ?_⟩ <;> omega

end Go.Proofs.YtcncmlpppabbcaaGreat

namespace Go.Proofs.YtcncmlpppabbcaaGreat
set_option linter.unusedVariables false
set_option linter.unusedSimpArgs false
open Go.RowKit

set_option maxHeartbeats 400000 in
theorem outcM_any (n lo hi : Int) (p q : Addr) (w : World) (hp : w.cell? p = some (.int .i64 lo)) (hq : w.cell? q = some (.int .i64 hi)) :
    Calls Tryz.prog 60 #[.int .i64 n, .pointer (some p), .pointer (some q)] w fun e w' => e = .returned (.bool (outB lo hi n)) ∧ w = w' := by
  unfold outB
  go_enter Tryz.func60, Tryz.ntmps60
  go_wp2 <;>
    (go_ret
     refine ⟨ret_bool ?_, rfl⟩
     simp)

set_option maxHeartbeats 400000 in
theorem indexM_any (lo hi : Int) (p q : Addr) (v : Value) (zs : List Int) (w : World) (h : Rd w 1 v (ints zs)) (hp : w.cell? p = some (.int .i64 lo)) (hq : w.cell? q = some (.int .i64 hi)) :
    Calls Tryz.prog 61 #[v, .func (.func 60) #[] #[.pointer (some p), .pointer (some q)]] w fun e w' => e = .returned (.int .i64 (idx (outB lo hi) zs 0)) ∧ w = w' := by
  obtain ⟨a, c, rfl, -, hm, hr⟩ := h.ints
  have H := Lib.hid hr
  clear hr h
  go_enter Tryz.func61, Tryz.ntmps61
  go_wp2
  go_loop [5, 8] (fun _ i => ∃ k : Nat, k ≤ zs.length ∧ i = .int .i64 k ∧ Hid (∀ j (hj : j < k) (hz : j < zs.length), outB lo hi zs[j] = false)) (fun _ i => zs.length - (intOf i).toNat)
  case atStart => exact ⟨0, Nat.zero_le _, rfl, fun j hj => absurd hj (Nat.not_lt_zero _)⟩
  case round =>
    obtain ⟨k, hk, rfl, A⟩ := hrel
    by_cases hlt : k < zs.length
    · obtain ⟨b, off, rfl, hb, hc⟩ := H.out (by omega)
      have hcell := hc k hlt
      clear hc
      generalize hz : zs[k] = z at hcell
      have HZ := Lib.hid hz
      clear hz
      cases hq' : outB lo hi z with
      | true =>
        have HQ := Lib.hid hq'
        clear hq'
        go_wp2_with (go_at_call 60; refine (outcM_any _ _ _ _ _ _ hp hq).mono ?_; rw [HQ.out]; rintro e w' ⟨rfl, rfl⟩)
        go_ret
        refine ⟨ret_int ?_, rfl⟩
        rw [idx_hit _ zs 0 k hlt (by rw [HZ.out]; exact HQ.out) (fun j hj => A.out j hj _)]
        simp
      | false =>
        have HQ := Lib.hid hq'
        clear hq'
        go_wp2_with (go_at_call 60; refine (outcM_any _ _ _ _ _ _ hp hq).mono ?_; rw [HQ.out]; rintro e w' ⟨rfl, rfl⟩)
        go_round
        case rel =>
          refine ⟨k + 1, by omega, by go_num, fun j hj hz => ?_⟩
          by_cases e : j = k
          · subst e; rw [HZ.out]; exact HQ.out
          · exact A.out j (by omega) hz
        case measure => simp [intOf]; omega
    · go_wp2
      go_ret
      refine ⟨ret_int ?_, rfl⟩
      rw [idx_miss _ zs 0 (fun j hj => A.out j (by omega) hj)]

set_option maxHeartbeats 400000 in
theorem containsM_any (lo hi : Int) (p q : Addr) (v : Value) (zs : List Int) (w : World) (h : Rd w 1 v (ints zs)) (hp : w.cell? p = some (.int .i64 lo)) (hq : w.cell? q = some (.int .i64 hi)) :
    Calls Tryz.prog 18 #[v, .func (.func 60) #[] #[.pointer (some p), .pointer (some q)]] w fun e w' => e = .returned (.bool (zs.any (outB lo hi))) ∧ w = w' := by
  go_enter Tryz.func18, Tryz.ntmps18
  go_wp2_with (go_at_call 61; refine (indexM_any lo hi p q v zs _ h hp hq).mono ?_; rintro e w' ⟨rfl, rfl⟩)
  go_ret
  exact ⟨ret_bool (idx_any _ _ _), rfl⟩

set_option maxHeartbeats 400000 in
theorem outM_any (lo hi : Int) (v : Value) (zs : List Int) (w : World) (h : Rd w 1 v (ints zs)) :
    Calls Tryz.prog 16 #[.int .i64 lo, .int .i64 hi, v] w fun e w' => e = .returned (.bool (anyOut lo hi zs)) ∧ Below w.heap.size w w' := by
  have hb : Below w.heap.size w ((w.alloc (Obj.cells #[Value.int IntKind.i64 lo] 3)).alloc (Obj.cells #[Value.int IntKind.i64 hi] 3)) :=
    ((Below.refl _ _).alloc (Nat.le_refl _) _).alloc (by simp) _
  go_enter Tryz.func16, Tryz.ntmps16
  go_wp2_with (go_at_call 18; refine (containsM_any lo hi _ _ v zs _ (h.below hb) (by simp) (by simp)).mono ?_; rintro e w' ⟨rfl, rfl⟩)
  go_ret
  exact ⟨rfl, hb⟩

/-- One number. -/
theorem outM1 (lo hi x : Int) (w : World) (H : Nat) (hH : w.heap.size = H) :
    Calls Tryz.prog 16 #[.int .i64 lo, .int .i64 hi, .slice (some ⟨H, 0, none⟩) 1 1] (w.alloc (.cells #[.int .i64 x] 3)) fun e w' => e = .returned (.bool (anyOut lo hi [x])) ∧ Below w.heap.size w w' :=
  (outM_any lo hi _ [x] _ (Rd.made1 w H (.int .i64 x) 3 hH)).mono fun _ _ h => ⟨h.1, belT (below_alloc1 _ _) h.2⟩

theorem cold_any (m : Mo) (lo hi : Int) (w : World) : Calls Tryz.prog 58 #[.agg m.cells, .agg #[.int .i64 lo, .int .i64 hi]] w fun e w' => e = .returned (.int .i64 lo) ∧ Below w.heap.size w w' := by
  unfold Mo.cells
  go_enter Tryz.func58, Tryz.ntmps58
  go_wp2
  go_ret
  exact ⟨rfl, below_alloc2 _ _ _⟩
theorem hot_any (m : Mo) (lo hi : Int) (w : World) : Calls Tryz.prog 59 #[.agg m.cells, .agg #[.int .i64 lo, .int .i64 hi]] w fun e w' => e = .returned (.int .i64 hi) ∧ Below w.heap.size w w' := by
  unfold Mo.cells
  go_enter Tryz.func59, Tryz.ntmps59
  go_wp2
  go_ret
  exact ⟨rfl, below_alloc2 _ _ _⟩

theorem spanM_any (lo hi : Int) (w : World) : Calls Tryz.prog 68 #[.int .i64 lo, .int .i64 hi] w fun e w' => e = .returned (.agg #[.int .i64 lo, .int .i64 hi]) ∧ Below w.heap.size w w' := by
  go_enter Tryz.func68, Tryz.ntmps68
  go_wp2
  exact bodyPost_ret (v := .agg #[.int .i64 lo, .int .i64 hi]) (by simp [results, Tryz.results68, go_sem]) rfl ⟨rfl, below_alloc1 _ _⟩
theorem span5_any (lo hi : Int) (w : World) : Calls Tryz.prog 33 #[.int .i64 lo, .int .i64 hi] w fun e w' => e = .returned (.agg #[.int .i64 lo, .int .i64 hi]) ∧ Below w.heap.size w w' := by
  go_enter Tryz.func33, Tryz.ntmps33
  go_wp2
  exact bodyPost_ret (v := .agg #[.int .i64 lo, .int .i64 hi]) (by simp [results, Tryz.results33, go_sem]) rfl ⟨rfl, below_alloc1 _ _⟩

set_option maxHeartbeats 400000 in
theorem in5_any (n lo hi : Int) (w : World) (h : lo ≤ n ∧ n ≤ hi) : Calls Tryz.prog 22 #[.int .i64 n, .int .i64 lo, .int .i64 hi] w fun e w' => e = .returned (.bool true) ∧ w = w' := by
  obtain ⟨h1, h2⟩ := h
  go_enter Tryz.func22, Tryz.ntmps22
  go_wp2
  go_ret
  exact ⟨rfl, rfl⟩
set_option maxHeartbeats 400000 in
theorem warm_any (lo hi : Int) (w : World) (h : 0 ≤ lo ∧ lo ≤ hi ∧ hi ≤ 2000) : Calls Tryz.prog 23 #[.agg #[.int .i64 lo, .int .i64 hi]] w fun e w' => e = .returned (.bool true) ∧ Below w.heap.size w w' := by
  go_enter Tryz.func23, Tryz.ntmps23
  go_wp2_with (first | (go_at_call_of 22 (Value.int IntKind.i64 lo); refine (in5_any lo 0 2000 _ (by omega)).mono ?_; rintro e w' ⟨rfl, rfl⟩) | (go_at_call_of 22 (Value.int IntKind.i64 hi); refine (in5_any hi 0 2000 _ (by omega)).mono ?_; rintro e w' ⟨rfl, rfl⟩))
  go_ret
  exact ⟨rfl, below_alloc1 _ _⟩

end Go.Proofs.YtcncmlpppabbcaaGreat

namespace Go.Proofs.YtcncmlpppabbcaaGreat
set_option linter.unusedVariables false
set_option linter.unusedSimpArgs false
open Go.RowKit

/-- The greatest of the first k + 1. -/
def maxTo (zs : List Int) : Nat → Int
  | 0 => zs.getD 0 0
  | k + 1 => max (maxTo zs k) (zs.getD (k + 1) 0)

set_option maxHeartbeats 400000 in
theorem max_any (v : Value) (zs : List Int) (w : World) (h : Rd w 1 v (ints zs)) (h0 : 0 < zs.length) :
    Calls Tryz.prog 17 #[v] w fun e w' => e = .returned (.int .i64 (maxTo zs (zs.length - 1))) ∧ w = w' := by
  obtain ⟨a, c, rfl, -, hm, hr⟩ := h.ints
  obtain ⟨b, off, rfl, hb, hc⟩ := hr h0
  have H := Lib.hid hc
  have z0 := hc 0 h0
  rw [Nat.add_zero] at z0
  have e0 : zs[0] = maxTo zs 0 := by simp [maxTo, List.getD, h0]
  rw [e0] at z0
  have i0 : (0 : Int) < zs.length := by omega
  have i1 : (1 : Int) ≤ zs.length := by omega
  clear hr hc h e0
  go_enter Tryz.func17, Tryz.ntmps17
  go_wp2
  go_loop [3, 4] (fun s i => ∃ k : Nat, 1 ≤ k ∧ k ≤ zs.length ∧ s = .int .i64 (maxTo zs (k - 1)) ∧ i = .int .i64 k) (fun _ i => zs.length - (intOf i).toNat)
  case atStart => exact ⟨1, Nat.le_refl _, h0, rfl, rfl⟩
  case round =>
    obtain ⟨k, hk1, hk, rfl, rfl⟩ := hrel
    by_cases hlt : k < zs.length
    · have hcell := H.out k hlt
      have hs : maxTo zs k = max (maxTo zs (k - 1)) zs[k] := by
        obtain ⟨j, rfl⟩ : ∃ j, k = j + 1 := ⟨k - 1, by omega⟩
        show max (maxTo zs j) (zs.getD (j + 1) 0) = _
        have ez : zs.getD (j + 1) 0 = zs[j + 1] := by simp [List.getD, hlt]
        rw [ez]
        rfl
      generalize zs[k] = z at hcell hs
      generalize maxTo zs (k - 1) = q at hs
      have HS := Lib.hid hs
      clear hs
      go_wp2
      go_round
      case rel =>
        refine ⟨k + 1, by omega, by omega, ?_, by go_num⟩
        rw [show k + 1 - 1 = k from rfl, HS.out]
        first | rfl | (congr 1; split <;> omega) | (congr 1; omega)
      case measure => simp [intOf]; omega
    · obtain rfl : k = zs.length := by omega
      go_wp2
      go_ret
      exact ⟨rfl, rfl⟩

end Go.Proofs.YtcncmlpppabbcaaGreat
