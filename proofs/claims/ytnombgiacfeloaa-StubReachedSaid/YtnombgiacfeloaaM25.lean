/- Plain facts: a line whose scales are better, and readings with one more: no range is wider. No program is in sight. -/
import Derived.Test.YtnombgiacfeloaaM24
namespace Go.Proofs.Ytnombgiacfeloaa
set_option linter.unusedVariables false
set_option linter.unusedSimpArgs false
open Go.RowKit

/-- A step whose scales are better, by a number and its place. -/
def finS (y : Int) (i : Nat) (x : Stp) : Stp := { x with err := x.err - min x.err (y / ((i : Int) + 2) % 100) }
/-- The first k steps of a line made so. -/
def finTo (y : Int) (ss : List Stp) (k : Nat) : List Stp := ss.mapIdx fun i x => if i < k then finS y i x else x

theorem finTo_len (y : Int) (ss : List Stp) (k : Nat) : (finTo y ss k).length = ss.length := by simp [finTo]
theorem finTo_get (y : Int) (ss : List Stp) (k i : Nat) (h : i < (finTo y ss k).length) : (finTo y ss k)[i] = if i < k then finS y i (ss[i]'(by rw [finTo_len] at h; exact h)) else ss[i]'(by rw [finTo_len] at h; exact h) := by
  simp [finTo]
theorem finTo_zero (y : Int) (ss : List Stp) : finTo y ss 0 = ss := by
  refine List.ext_getElem (finTo_len _ _ _) fun i h1 h2 => ?_
  rw [finTo_get, if_neg (by omega)]
theorem finTo_succ (y : Int) (ss : List Stp) (k : Nat) (hk : k < ss.length) : finTo y ss (k + 1) = (finTo y ss k).set k (finS y k ss[k]) := by
  refine List.ext_getElem (by rw [List.length_set, finTo_len, finTo_len]) fun i h1 h2 => ?_
  rw [finTo_get, List.getElem_set, finTo_get]
  by_cases e : k = i
  · subst e
    rw [if_pos (by omega), if_pos rfl]
  · rw [if_neg e]
    by_cases h : i < k
    · rw [if_pos (by omega), if_pos h]
    · rw [if_neg (by omega), if_neg h]

/-- Steps that differ in their scales alone. -/
structure Finer (ss ss' : List Stp) : Prop where
  len : ss'.length = ss.length
  at' : ∀ i (h : i < ss.length) (h' : i < ss'.length), ss'[i].name = ss[i].name ∧ ss'[i].lo = ss[i].lo ∧ ss'[i].hi = ss[i].hi ∧ 0 ≤ ss'[i].err ∧ ss'[i].err ≤ ss[i].err

theorem finTo_finer {err : Int} {ss : List Stp} (hL : LineOk err ss) {y : Int} (hy : 0 ≤ y) : Finer ss (finTo y ss ss.length) := by
  refine ⟨finTo_len _ _ _, fun i h h' => ?_⟩
  rw [finTo_get, if_pos h]
  have hx := hL.stp ss[i] (List.getElem_mem _)
  have h1 : 0 ≤ y / ((i : Int) + 2) % 100 := Int.emod_nonneg _ (by decide)
  refine ⟨rfl, rfl, rfl, ?_, ?_⟩
  · show 0 ≤ ss[i].err - min ss[i].err _
    omega
  · show ss[i].err - min ss[i].err _ ≤ ss[i].err
    omega

theorem Finer.names {ss ss' : List Stp} (h : Finer ss ss') (j : Nat) : (ss'.take j).map (·.name) = (ss.take j).map (·.name) := by
  have hl := h.len
  refine List.ext_getElem (by simp only [List.length_map, List.length_take]; omega) fun i h1 h2 => ?_
  simp only [List.length_map, List.length_take] at h1 h2
  rw [List.getElem_map, List.getElem_map, List.getElem_take, List.getElem_take]
  exact (h.at' i (by omega) (by omega)).1

theorem chk_finer {err err' : Int} {ss ss' : List Stp} (hc : (chk err ss).2.2 = 0) (h : Finer ss ss') (he : 0 ≤ err' ∧ err' ≤ err) : (chk err' ss').2.2 = 0 := by
  have hL := chk_ok hc
  have hl := h.len
  have h3 : (firstAt (stepErrAt ss) ss.length 0).2 = 0 := by
    unfold chk at hc
    rw [if_neg, if_neg] at hc
    · by_cases h4 : (firstAt (stepErrAt ss) ss.length 0).2 = 0
      · exact h4
      · simp only [if_neg h4] at hc
        exact absurd hc h4
    · rw [anyOut1]; have := hL.len; simp; omega
    · rw [anyOut1]; have := hL.err; simp; omega
  have h4 := firstAt_zero _ _ _ h3
  have h5 : firstAt (stepErrAt ss') ss'.length 0 = (0, 0) := by
    refine firstAt_miss _ _ _ fun j hj => ?_
    have hj' : j < ss.length := by omega
    have e := h4 j hj'
    rw [Nat.zero_add] at e ⊢
    unfold stepErrAt at e ⊢
    rw [List.getElem?_eq_getElem hj'] at e
    rw [List.getElem?_eq_getElem hj]
    dsimp only at e ⊢
    obtain ⟨n1, n2, n3, n4, n5⟩ := h.at' j hj' hj
    have hx := hL.stp ss[j] (List.getElem_mem _)
    have ha : (ss'.take j).any (fun y => eqN y.name ss'[j].name) = (ss.take j).any (fun y => eqN y.name ss[j].name) := by
      have e1 : ∀ l : List Stp, ∀ n, l.any (fun y => eqN y.name n) = (l.map (·.name)).any (fun m => eqN m n) := fun l n => by rw [List.any_map]; rfl
      rw [e1, e1, h.names j, n1]
    unfold stepErr at e ⊢
    rw [ha, n1]
    split at e
    · simp at e
    · rename_i g1
      rw [if_neg g1]
      split at e
      · simp at e
      · rename_i g2
        rw [if_neg g2, if_neg, if_neg (by omega)]
        rw [anyOut3]
        simp
        omega
  unfold chk
  rw [if_neg, if_neg, h5]
  · rfl
  · rw [anyOut1]; have := hL.len; simp; omega
  · rw [anyOut1]; have := hL.err; simp; omega

/-- Readings with one more. -/
def moreAt (rs : List Int) (k : Nat) (x : Int) : List Int := if rs[k]? = some (-1) then rs.set k x else rs

theorem more_le {err err' : Int} {ss ss' : List Stp} {rs : List Int} (hL : LineOk err ss) (hR : ReadOk ss rs) (h : Finer ss ss') (he : 0 ≤ err' ∧ err' ≤ err) (hL' : LineOk err' ss') {k : Nat} (hk : k < rs.length) {x : Int} (hx : 0 ≤ x ∧ x ≤ 1000000) :
    ReadOk ss' (moreAt rs k x) ∧ ∀ a b, a < 8 → b < 8 → closed err' ss' (moreAt rs k x) a b ≤ closed err ss rs a b := by
  have hl := h.len
  have hR' : ReadOk ss' (moreAt rs k x) := by
    have := hR.len
    unfold moreAt
    split
    · have h2 := readOk_set hR (k := k) (x := x) (.inr hx)
      exact ⟨by rw [h2.len, hl], h2.rd⟩
    · exact ⟨by rw [hR.len, hl], hR.rd⟩
  have hlr : (moreAt rs k x).length = rs.length := by unfold moreAt; split <;> simp
  refine ⟨hR', ?_⟩
  have hw : ∀ i, i ≤ ss.length → wrongAt err' ss' i ≤ wrongAt err ss i := by
    intro i hi
    cases i with
    | zero => exact he.2
    | succ i =>
      rw [show wrongAt err' ss' (i + 1) = (match ss'[i]? with | some x => x.err | none => 0) from rfl, show wrongAt err ss (i + 1) = (match ss[i]? with | some x => x.err | none => 0) from rfl, List.getElem?_eq_getElem (by omega), List.getElem?_eq_getElem (by omega)]
      exact (h.at' i (by omega) (by omega)).2.2.2.2
  have hlh : ∀ i, i < rs.length → loAt err ss rs i ≤ loAt err' ss' (moreAt rs k x) i ∧ hiAt err' ss' (moreAt rs k x) i ≤ hiAt err ss rs i := by
    intro i hi
    have hl1 := hR.len
    have w1 := hw i (by omega)
    have w2 := wrong_bd hL i
    have w3 := wrong_bd hL' i
    have r1 := hR.rd rs[i] (List.getElem_mem _)
    unfold loAt hiAt
    have hm : (moreAt rs k x)[i]?.getD 0 = rs[i] ∨ (rs[i] = -1 ∧ (moreAt rs k x)[i]?.getD 0 = x) := by
      unfold moreAt
      split
      · rename_i e
        by_cases e2 : k = i
        · subst e2
          rw [List.getElem?_set_self hk]
          rw [List.getElem?_eq_getElem hk] at e
          exact .inr ⟨by simpa using e, rfl⟩
        · rw [List.getElem?_set_ne e2, List.getElem?_eq_getElem hi]
          exact .inl rfl
      · rw [List.getElem?_eq_getElem hi]
        exact .inl rfl
    rw [List.getElem?_eq_getElem hi, Option.getD_some]
    generalize (moreAt rs k x)[i]?.getD 0 = r at hm ⊢
    generalize rs[i] = q at *
    unfold rdLo rdHi
    rcases hm with rfl | ⟨rfl, rfl⟩
    · split <;> omega
    · have hr : ¬ r = -1 := by omega
      simp only [hr, if_false, eq_self_iff_true, if_true]
      omega
  have hle : Le (tabOf err' ss' (moreAt rs k x)) (tabOf err ss rs) := by
    intro a b ha hb
    rw [tabOf_eq hL' hR', tabOf_eq hL hR, hl, hlr]
    by_cases c1 : b = a + 1 ∧ a < ss.length
    · rw [if_pos c1, if_pos c1]
      unfold shi
      rw [List.getElem?_eq_getElem c1.2, List.getElem?_eq_getElem (by omega)]
      have := (h.at' a c1.2 (by omega)).2.2.1
      simp only [Option.map_some, Option.getD_some]
      omega
    · rw [if_neg c1, if_neg c1]
      by_cases c2 : a = b + 1 ∧ b < ss.length
      · rw [if_pos c2, if_pos c2]
        unfold slo
        rw [List.getElem?_eq_getElem c2.2, List.getElem?_eq_getElem (by omega)]
        have := (h.at' b c2.2 (by omega)).2.1
        simp only [Option.map_some, Option.getD_some]
        omega
      · rw [if_neg c2, if_neg c2]
        by_cases c3 : b = 7 ∧ a < rs.length
        · rw [if_pos c3, if_pos c3]
          exact (hlh a c3.2).2
        · rw [if_neg c3, if_neg c3]
          by_cases c4 : a = 7 ∧ b < rs.length
          · rw [if_pos c4, if_pos c4]
            have := (hlh b c4.2).1
            omega
          · rw [if_neg c4, if_neg c4]
            omega
  have hlive : liveOf ss' = liveOf ss := by funext i; unfold liveOf; rw [hl]
  have := hle.fw (liveOf ss) 8 (Nat.le_refl _)
  unfold closed
  rw [hlive]
  exact this

end Go.Proofs.Ytnombgiacfeloaa
