/- Plain facts: lines, their steps and readings. No program is in sight. -/
import Derived.Test.YtnombgiacfeloaaM2
namespace Go.Proofs.Ytnombgiacfeloaa
set_option linter.unusedVariables false
set_option linter.unusedSimpArgs false
open Go.RowKit

def eqN (x y : ByteArray) : Bool := x.toList == y.toList

/-- The error of a step, by those before it. -/
def stepErr (before : List Stp) (x : Stp) : Int :=
  if !nameOk x.name then 6 else if before.any (fun y => eqN y.name x.name) then 5 else if anyOut 0 1000000 [x.lo, x.hi, x.err] then 7 else if x.hi < x.lo then 2 else 0

def stepErrAt (ss : List Stp) (i : Nat) : Int := match ss[i]? with
  | some x => stepErr (ss.take i) x
  | none => 0

/-- The first place (of r from i on) with an error, and the error. -/
def firstAt (f : Nat → Int) : Nat → Nat → Int × Int
  | 0, _ => (0, 0)
  | r + 1, i => if f i = 0 then firstAt f r (i + 1) else ((i : Int), f i)

theorem firstAt_hit (f : Nat → Int) (r i k : Nat) (hk : k < r) (h : f (i + k) ≠ 0) (hn : ∀ j, j < k → f (i + j) = 0) : firstAt f r i = (((i + k : Nat) : Int), f (i + k)) := by
  induction r generalizing i k with
  | zero => omega
  | succ r ih =>
    cases k with
    | zero => simp at h; simp [firstAt, h]
    | succ k =>
      have h0 := hn 0 (by omega)
      simp at h0
      have := ih (i + 1) k (by omega) (by rw [Nat.add_assoc, Nat.add_comm 1 k]; exact h) (fun j hj => by have := hn (j + 1) (by omega); rw [Nat.add_assoc, Nat.add_comm 1 j]; exact this)
      simp [firstAt, h0, this]
      rw [show i + 1 + k = i + (k + 1) from by omega]
      constructor
      · omega
      · trivial

theorem firstAt_miss (f : Nat → Int) (r i : Nat) (hn : ∀ j, j < r → f (i + j) = 0) : firstAt f r i = (0, 0) := by
  induction r generalizing i with
  | zero => rfl
  | succ r ih =>
    have h0 := hn 0 (by omega)
    simp at h0
    have := ih (i + 1) (fun j hj => by have := hn (j + 1) (by omega); rw [Nat.add_assoc, Nat.add_comm 1 j]; exact this)
    simp [firstAt, h0, this]

/-- The part, the index in it and the error of a line. -/
def chk (err : Int) (ss : List Stp) : Int × Int × Int :=
  if anyOut 0 1000000 [err] then (1, 0, 7) else if anyOut 1 6 [(ss.length : Int)] then (2, 0, 3) else
    let r := firstAt (stepErrAt ss) ss.length 0
    if r.2 = 0 then (0, 0, 0) else (2, r.1, r.2)

/-- The error of a reading, and of readings. -/
def rdErr1 (r : Int) : Int := if r ≠ -1 ∧ anyOut 0 1000000 [r] = true then 7 else 0
def rdErr (ss : List Stp) (rs : List Int) : Int := if rs.length ≠ ss.length + 1 then 3 else (firstErr rdErr1 rs 0).2

/-- The error of a line and readings. -/
def askErr (err : Int) (ss : List Stp) (rs : List Int) : Int := if (chk err ss).2.2 ≠ 0 then (chk err ss).2.2 else rdErr ss rs

theorem Rd.take {w : World} {k n c : Nat} {a : Option Addr} {rows : List (List Value)} (h : Rd w k (.slice a n c) rows) (i : Nat) (hi : i ≤ rows.length) : Rd w k (.slice a i c) (rows.take i) := by
  obtain ⟨a', c', hv, hc, hm, hl, hr⟩ := h
  simp only [Value.slice.injEq] at hv
  obtain ⟨rfl, -, rfl⟩ := hv
  have hlen : (rows.take i).length = i := by simp; omega
  refine ⟨a, c, by rw [hlen], by omega, by omega, fun r hr => hl r (List.mem_of_mem_take hr), fun h0 => ?_⟩
  obtain ⟨b, off, ha, hlt, hcell⟩ := hr (by omega)
  refine ⟨b, off, ha, hlt, fun j r hj i' x hx => hcell j r ?_ i' x hx⟩
  rw [List.getElem?_take] at hj
  split at hj
  · exact hj
  · cases hj

/-- What a line without an error is like. -/
structure LineOk (err : Int) (ss : List Stp) : Prop where
  err : 0 ≤ err ∧ err ≤ 1000000
  len : 1 ≤ ss.length ∧ ss.length ≤ 6
  stp : ∀ x ∈ ss, 0 ≤ x.lo ∧ x.lo ≤ x.hi ∧ x.hi ≤ 1000000 ∧ 0 ≤ x.err ∧ x.err ≤ 1000000

theorem firstAt_zero (f : Nat → Int) (r i : Nat) (h : (firstAt f r i).2 = 0) : ∀ j, j < r → f (i + j) = 0 := by
  induction r generalizing i with
  | zero => intro j hj; omega
  | succ r ih =>
    unfold firstAt at h
    by_cases h0 : f i = 0
    · rw [if_pos h0] at h
      intro j hj
      cases j with
      | zero => exact h0
      | succ j =>
        have := ih (i + 1) h j (by omega)
        rw [show i + (j + 1) = i + 1 + j from by omega]; exact this
    · rw [if_neg h0] at h
      exact absurd h h0

theorem chk_ok {err : Int} {ss : List Stp} (h : (chk err ss).2.2 = 0) : LineOk err ss := by
  unfold chk at h
  by_cases h1 : anyOut 0 1000000 [err] = true
  · rw [if_pos h1] at h; simp at h
  · rw [if_neg h1] at h
    by_cases h2 : anyOut 1 6 [(ss.length : Int)] = true
    · rw [if_pos h2] at h; simp at h
    · rw [if_neg h2] at h
      have h3 : (firstAt (stepErrAt ss) ss.length 0).2 = 0 := by
        by_cases h4 : (firstAt (stepErrAt ss) ss.length 0).2 = 0
        · exact h4
        · simp only [if_neg h4] at h
          exact absurd h h4
      rw [anyOut1] at h1 h2
      simp only [Bool.not_eq_true', Bool.and_eq_false_iff, decide_eq_false_iff_not] at h1 h2
      refine ⟨by omega, by omega, fun x hx => ?_⟩
      obtain ⟨j, hj, rfl⟩ := List.getElem_of_mem hx
      have h5 := firstAt_zero _ _ _ h3 j hj
      rw [Nat.zero_add] at h5
      unfold stepErrAt at h5
      rw [List.getElem?_eq_getElem hj] at h5
      dsimp only at h5
      unfold stepErr at h5
      split at h5
      · simp at h5
      · split at h5
        · simp at h5
        · split at h5
          · simp at h5
          · rename_i h6
            split at h5
            · simp at h5
            · rw [anyOut3] at h6
              simp only [Bool.or_eq_true, Bool.not_eq_true', Bool.and_eq_false_iff, decide_eq_false_iff_not] at h6
              omega

end Go.Proofs.Ytnombgiacfeloaa
