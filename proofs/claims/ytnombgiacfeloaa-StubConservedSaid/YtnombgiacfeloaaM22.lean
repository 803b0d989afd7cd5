/- Plain facts: what Lost, Weights and Off return where a line and readings have no error; sums along a line. No program is in sight. -/
import Derived.Test.YtnombgiacfeloaaM21
namespace Go.Proofs.Ytnombgiacfeloaa
set_option linter.unusedVariables false
set_option linter.unusedSimpArgs false
open Go.RowKit

/-- What some numbers from a on give together. -/
def accTo (f : Nat → Int) (a : Nat) : Nat → Int
  | 0 => 0
  | k + 1 => accTo f a k + f (a + k)

theorem accTo_bd (f : Nat → Int) (a n : Nat) (h : ∀ i, i < n → 0 ≤ f i ∧ f i ≤ 1000000) : ∀ k, a + k ≤ n → 0 ≤ accTo f a k ∧ accTo f a k ≤ k * 1000000
  | 0, _ => by simp [accTo]
  | k + 1, hk => by
    have h1 := accTo_bd f a n h k (by omega)
    have h2 := h (a + k) (by omega)
    rw [accTo]
    omega

theorem lost_at {err : Int} {ss : List Stp} {rs : List Int} (hA : askErr err ss rs = 0) {x y : Nat} (hx : x < y) (hy : y ≤ ss.length) :
    lostErr err ss rs x y = (if sound (closed err ss rs) = true then 0 else 9) ∧ lostAt err ss rs x y = if sound (closed err ss rs) = true then (-closed err ss rs y x, closed err ss rs x y) else (0, 0) := by
  have e : lostErr err ss rs x y = (if sound (closed err ss rs) = true then 0 else 9) := by
    unfold lostErr
    rw [if_neg (by omega), if_neg]
    rw [anyOut2]
    simp
    omega
  refine ⟨e, ?_⟩
  unfold lostAt
  rw [e]
  by_cases h : sound (closed err ss rs) = true
  · rw [if_pos h, if_pos rfl, if_pos h, Int.toNat_natCast, Int.toNat_natCast]
  · rw [if_neg h, if_neg h, if_neg (by decide)]

theorem ask_ok {err : Int} {ss : List Stp} {rs : List Int} (h1 : (chk err ss).2.2 = 0) (h2 : rdErr ss rs = 0) : askErr err ss rs = 0 := by
  unfold askErr
  rw [if_neg (by omega), h2]

theorem live_pt {ss : List Stp} {i : Nat} (hi : i ≤ ss.length) (h6 : ss.length ≤ 6) : liveOf ss i = true := (live_iff (by omega)).2 (.inl hi)

/-- A way along the line is no shorter than the table says. -/
theorem along {err : Int} {ss : List Stp} {rs : List Int} (hL : LineOk err ss) (hR : ReadOk ss rs) (hs : sound (closed err ss rs) = true) (a : Nat) : ∀ k, a + k ≤ ss.length →
    closed err ss rs a (a + k) ≤ accTo (shi ss) a k ∧ closed err ss rs (a + k) a ≤ -accTo (slo ss) a k
  | 0, h => by
    have := hL.len
    have := closed_diag hL hR hs (a := a) (by omega)
    simp [accTo]
    omega
  | k + 1, h => by
    have h6 := hL.len
    have ih := along hL hR hs a k (by omega)
    have t1 := closed_tri hL hR hs (i := a) (p := a + k) (k := a + (k + 1)) (by omega) (by omega) (by omega) (live_pt (by omega) h6.2) (live_pt (by omega) h6.2)
    have t2 := closed_tri hL hR hs (i := a + (k + 1)) (p := a + k) (k := a) (by omega) (by omega) (by omega) (live_pt (by omega) h6.2) (live_pt (by omega) h6.2)
    have c1 := closed_le (err := err) (ss := ss) (rs := rs) (a + k) (a + (k + 1))
    have c2 := closed_le (err := err) (ss := ss) (rs := rs) (a + (k + 1)) (a + k)
    rw [tabOf_eq hL hR, if_pos ⟨by omega, by omega⟩] at c1
    rw [tabOf_eq hL hR, if_neg (by omega), if_pos ⟨by omega, by omega⟩] at c2
    rw [accTo, accTo]
    omega

/-- What is lost from a point to a third one. -/
theorem conserved {err : Int} {ss : List Stp} {rs : List Int} (hL : LineOk err ss) (hR : ReadOk ss rs) (hs : sound (closed err ss rs) = true) {a b c : Nat} (hab : a < b) (hbc : b < c) (hc : c ≤ ss.length) :
    -closed err ss rs b a + -closed err ss rs c b ≤ -closed err ss rs c a ∧ closed err ss rs a c ≤ closed err ss rs a b + closed err ss rs b c ∧
    accTo (slo ss) a (c - a) ≤ -closed err ss rs c a ∧ closed err ss rs a c ≤ accTo (shi ss) a (c - a) ∧ -closed err ss rs c a ≤ closed err ss rs a c := by
  have h6 := hL.len
  have t1 := closed_tri hL hR hs (i := c) (p := b) (k := a) (by omega) (by omega) (by omega) (live_pt (by omega) h6.2) (live_pt (by omega) h6.2)
  have t2 := closed_tri hL hR hs (i := a) (p := b) (k := c) (by omega) (by omega) (by omega) (live_pt (by omega) h6.2) (live_pt (by omega) h6.2)
  have t3 := closed_tri hL hR hs (i := a) (p := c) (k := a) (by omega) (by omega) (by omega) (live_pt (by omega) h6.2) (live_pt (by omega) h6.2)
  have d := closed_diag hL hR hs (a := a) (by omega)
  have al := along hL hR hs a (c - a) (by omega)
  rw [show a + (c - a) = c by omega] at al
  omega

end Go.Proofs.Ytnombgiacfeloaa
