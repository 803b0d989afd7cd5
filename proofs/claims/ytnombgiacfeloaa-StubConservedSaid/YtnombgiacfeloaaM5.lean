/- Plain facts: what a weight can be by its reading alone. No program is in sight. -/
import Derived.Test.YtnombgiacfeloaaM3
namespace Go.Proofs.Ytnombgiacfeloaa
set_option linter.unusedVariables false
set_option linter.unusedSimpArgs false
open Go.RowKit

/-- By how much the scales at a point can be wrong. -/
def wrongAt (err : Int) (ss : List Stp) : Nat → Int
  | 0 => err
  | i + 1 => match ss[i]? with
    | some x => x.err
    | none => 0

def rdLo (r e : Int) : Int := if r = -1 then 0 else max 0 (r - e)
def rdHi (r e : Int) : Int := if r = -1 then 1000000 else min 1000000 (r + e)

/-- What the weight at a point can be, by its reading alone. -/
def loAt (err : Int) (ss : List Stp) (rs : List Int) (i : Nat) : Int := rdLo (rs[i]?.getD 0) (wrongAt err ss i)
def hiAt (err : Int) (ss : List Stp) (rs : List Int) (i : Nat) : Int := rdHi (rs[i]?.getD 0) (wrongAt err ss i)

/-- Readings without an error. -/
structure ReadOk (ss : List Stp) (rs : List Int) : Prop where
  len : rs.length = ss.length + 1
  rd : ∀ r ∈ rs, r = -1 ∨ 0 ≤ r ∧ r ≤ 1000000

theorem rdErr_ok {ss : List Stp} {rs : List Int} (h : rdErr ss rs = 0) : ReadOk ss rs := by
  unfold rdErr at h
  by_cases h1 : rs.length ≠ ss.length + 1
  · rw [if_pos h1] at h; simp at h
  · rw [if_neg h1] at h
    refine ⟨by omega, ?_⟩
    have key : ∀ (l : List Int) (n : Nat), (firstErr rdErr1 l n).2 = 0 → ∀ r ∈ l, r = -1 ∨ 0 ≤ r ∧ r ≤ 1000000 := by
      intro l
      induction l with
      | nil => intro n _ r hr; simp at hr
      | cons x l ih =>
        intro n hn r hr
        unfold firstErr at hn
        by_cases h0 : rdErr1 x = 0
        · rw [if_pos h0] at hn
          rcases List.mem_cons.1 hr with rfl | hr
          · unfold rdErr1 at h0
            rw [anyOut1] at h0
            split at h0
            · simp at h0
            · rename_i h2
              simp only [not_and, Bool.not_eq_true', Bool.and_eq_false_iff, decide_eq_false_iff_not] at h2
              by_cases h3 : r = -1
              · exact .inl h3
              · have := h2 h3
                right
                omega
          · exact ih _ hn r hr
        · rw [if_neg h0] at hn
          exact absurd hn h0
    exact key rs 0 h

theorem askErr_ok {err : Int} {ss : List Stp} {rs : List Int} (h : askErr err ss rs = 0) : LineOk err ss ∧ ReadOk ss rs := by
  unfold askErr at h
  by_cases h1 : (chk err ss).2.2 ≠ 0
  · rw [if_pos h1] at h; exact absurd h h1
  · rw [if_neg h1] at h
    exact ⟨chk_ok (by omega), rdErr_ok h⟩

theorem wrong_bd {err : Int} {ss : List Stp} (h : LineOk err ss) (i : Nat) : 0 ≤ wrongAt err ss i ∧ wrongAt err ss i ≤ 1000000 := by
  cases i with
  | zero => exact h.err
  | succ i =>
    unfold wrongAt
    dsimp only
    split
    · rename_i x hx
      have := h.stp x (List.mem_of_getElem? hx)
      omega
    · omega

/-- Another reading, where it is struck, is as good. -/
theorem ReadOk.set {ss : List Stp} {rs : List Int} (h : ReadOk ss rs) (k : Nat) (r : Int) (hr : r = -1 ∨ 0 ≤ r ∧ r ≤ 1000000) : ReadOk ss (rs.set k r) :=
  ⟨by rw [List.length_set]; exact h.len, fun x hx => by
    rcases List.mem_or_eq_of_mem_set hx with h1 | rfl
    · exact h.rd x h1
    · exact hr⟩

end Go.Proofs.Ytnombgiacfeloaa
