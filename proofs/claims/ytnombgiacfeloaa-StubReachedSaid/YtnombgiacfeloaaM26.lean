/- Plain facts: a line and readings with which the weights of two points are just so: a truth of them, and what Weights returns. No program is in sight. -/
import Derived.Test.YtnombgiacfeloaaM25
namespace Go.Proofs.Ytnombgiacfeloaa
set_option linter.unusedVariables false
set_option linter.unusedSimpArgs false
open Go.RowKit

def pinE (e : Int) (p : Nat) : Int := if p = 0 then 0 else e
def pinS (ss : List Stp) (p : Nat) : List Stp := if p = 0 then ss else match ss[p - 1]? with
  | some x => ss.set (p - 1) { x with err := 0 }
  | none => ss

theorem pinS_len (ss : List Stp) (p : Nat) : (pinS ss p).length = ss.length := by
  unfold pinS
  split
  · rfl
  · split
    · rw [List.length_set]
    · rfl

theorem pinS_get? (ss : List Stp) (p i : Nat) (h : i < ss.length) : (pinS ss p)[i]? = some (if i + 1 = p then { ss[i] with err := 0 } else ss[i]) := by
  unfold pinS
  by_cases hp : p = 0
  · subst hp
    rw [if_pos rfl, List.getElem?_eq_getElem h]
    congr 1
  · rw [if_neg hp]
    by_cases hl : p - 1 < ss.length
    · rw [List.getElem?_eq_getElem hl]
      show (ss.set (p - 1) { ss[p - 1] with err := 0 })[i]? = _
      by_cases e : p - 1 = i
      · subst e
        rw [List.getElem?_set_self hl, if_pos (by omega)]
      · rw [List.getElem?_set_ne e, List.getElem?_eq_getElem h]
        congr 1
        rw [if_neg]
        omega
    · have e : ss[p - 1]? = none := List.getElem?_eq_none (by omega)
      rw [e]
      show ss[i]? = _
      rw [List.getElem?_eq_getElem h]
      congr 1
      rw [if_neg]
      omega

theorem pinS_get (ss : List Stp) (p i : Nat) (h : i < ss.length) (h' : i < (pinS ss p).length) : (pinS ss p)[i] = if i + 1 = p then { ss[i] with err := 0 } else ss[i] := by
  have := pinS_get? ss p i h
  rw [List.getElem?_eq_getElem h'] at this
  exact Option.some.inj this

theorem pinS_finer {err : Int} {ss : List Stp} (hL : LineOk err ss) (p : Nat) : Finer ss (pinS ss p) := by
  refine ⟨pinS_len _ _, fun i h h' => ?_⟩
  have hx := hL.stp ss[i] (List.getElem_mem _)
  rw [pinS_get ss p i h h']
  split
  · exact ⟨rfl, rfl, rfl, Int.le_refl _, hx.2.2.2.1⟩
  · exact ⟨rfl, rfl, rfl, hx.2.2.2.1, Int.le_refl _⟩

theorem wrong_pin (err : Int) (ss : List Stp) (p i : Nat) (hi : i ≤ ss.length) : wrongAt (pinE err p) (pinS ss p) i = if i = p then 0 else wrongAt err ss i := by
  cases i with
  | zero =>
    show pinE err p = _
    unfold pinE
    by_cases e : p = 0
    · subst e; simp [wrongAt]
    · rw [if_neg e, if_neg (by omega)]
      rfl
  | succ i =>
    rw [show wrongAt (pinE err p) (pinS ss p) (i + 1) = (match (pinS ss p)[i]? with | some x => x.err | none => 0) from rfl, show wrongAt err ss (i + 1) = (match ss[i]? with | some x => x.err | none => 0) from rfl,
      List.getElem?_eq_getElem (by rw [pinS_len]; omega), List.getElem?_eq_getElem (by omega), pinS_get ss p i (by omega)]
    by_cases e : i + 1 = p
    · rw [if_pos e, if_pos e]
    · rw [if_neg e, if_neg e]

/-- All that is asked of a pinned line: it has no error, and a truth in which the points weigh so is one of it. -/
theorem pin_facts {err : Int} {ss : List Stp} {rs : List Int} (hc : (chk err ss).2.2 = 0) (hL : LineOk err ss) (hR : ReadOk ss rs) {w : Nat → Int} (hT : Truth err ss rs w) {a b : Nat} (ha : a ≤ ss.length) (hb : b ≤ ss.length) {x y : Int} (hx : w a = x) (hy : w b = y) :
    (chk (pinE (pinE err a) b) (pinS (pinS ss a) b)).2.2 = 0 ∧ ReadOk (pinS (pinS ss a) b) ((rs.set a x).set b y) ∧ Truth (pinE (pinE err a) b) (pinS (pinS ss a) b) ((rs.set a x).set b y) w ∧
    (hiAt (pinE (pinE err a) b) (pinS (pinS ss a) b) ((rs.set a x).set b y) b = y ∧ loAt (pinE (pinE err a) b) (pinS (pinS ss a) b) ((rs.set a x).set b y) b = y) := by
  have he := hL.err
  have f1 := pinS_finer hL a
  have e1 : 0 ≤ pinE err a ∧ pinE err a ≤ err := by unfold pinE; split <;> omega
  have c1 := chk_finer hc f1 e1
  have L1 := chk_ok c1
  have f2 := pinS_finer L1 b
  have e2 : 0 ≤ pinE (pinE err a) b ∧ pinE (pinE err a) b ≤ pinE err a := by unfold pinE; split <;> omega
  have c2 := chk_finer c1 f2 e2
  have hl := hR.len
  have bx := hT.bd hL hR a (by omega)
  have by' := hT.bd hL hR b (by omega)
  have R2 := readOk_set (readOk_set hR (k := a) (x := x) (.inr (by omega))) (k := b) (x := y) (.inr (by omega))
  have R3 : ReadOk (pinS (pinS ss a) b) ((rs.set a x).set b y) := ⟨by rw [R2.len, pinS_len, pinS_len], R2.rd⟩
  have hlen : (pinS (pinS ss a) b).length = ss.length := (pinS_len _ _).trans (pinS_len _ _)
  have hw : ∀ i, i ≤ ss.length → wrongAt (pinE (pinE err a) b) (pinS (pinS ss a) b) i = if i = b then 0 else if i = a then 0 else wrongAt err ss i := by
    intro i hi
    rw [wrong_pin (pinE err a) (pinS ss a) b i (by rw [pinS_len]; exact hi), wrong_pin err ss a i hi]
  refine ⟨c2, R3, ⟨fun i hi => ?_, fun i hi => ?_⟩, ?_⟩
  · rw [List.length_set, List.length_set] at hi
    have hd := hT.rd i hi
    unfold loAt hiAt at hd ⊢
    rw [hw i (by omega)]
    by_cases eb : i = b
    · subst eb
      rw [List.getElem?_set_self (by rw [List.length_set]; exact hi), if_pos rfl, Option.getD_some, hy]
      unfold rdLo rdHi
      rw [if_neg (by omega), if_neg (by omega)]
      omega
    · rw [List.getElem?_set_ne (fun h => eb h.symm), if_neg eb]
      by_cases ea : i = a
      · subst ea
        rw [List.getElem?_set_self hi, if_pos rfl, Option.getD_some, hx]
        unfold rdLo rdHi
        rw [if_neg (by omega), if_neg (by omega)]
        omega
      · rw [List.getElem?_set_ne (fun h => ea h.symm), if_neg ea]
        exact hd
  · rw [hlen] at hi
    have hs := hT.st i hi
    have g1 := f1.at' i hi (by rw [pinS_len]; exact hi)
    have g2 := f2.at' i (by rw [pinS_len]; exact hi) (by rw [hlen]; exact hi)
    unfold slo shi at hs ⊢
    rw [List.getElem?_eq_getElem hi] at hs
    rw [List.getElem?_eq_getElem (by rw [hlen]; exact hi)]
    simp only [Option.map_some, Option.getD_some] at hs ⊢
    omega
  · unfold hiAt loAt
    rw [List.getElem?_set_self (by rw [List.length_set]; omega), hw b hb, if_pos rfl, Option.getD_some]
    unfold rdHi rdLo
    rw [if_neg (by omega), if_neg (by omega)]
    omega

/-- A point of a pinned line weighs just so. -/
theorem pin_at {err : Int} {ss : List Stp} {rs : List Int} (hc : (chk err ss).2.2 = 0) (hL : LineOk err ss) (hR : ReadOk ss rs) {w : Nat → Int} (hT : Truth err ss rs w) {a b : Nat} (ha : a ≤ ss.length) (hb : b ≤ ss.length) {x y : Int} (hx : w a = x) (hy : w b = y) :
    wErr (pinE (pinE err a) b) (pinS (pinS ss a) b) ((rs.set a x).set b y) = 0 ∧ wAt (pinE (pinE err a) b) (pinS (pinS ss a) b) ((rs.set a x).set b y) = wList (pinE (pinE err a) b) (pinS (pinS ss a) b) ((rs.set a x).set b y) (ss.length + 1) ∧
    -closed (pinE (pinE err a) b) (pinS (pinS ss a) b) ((rs.set a x).set b y) 7 b = y ∧ closed (pinE (pinE err a) b) (pinS (pinS ss a) b) ((rs.set a x).set b y) b 7 = y := by
  obtain ⟨c2, R3, T3, h1, h2⟩ := pin_facts hc hL hR hT ha hb hx hy
  have L2 := chk_ok c2
  have hA := ask_ok c2 (rdErr_of_ok R3)
  have hs := T3.sound L2 R3
  obtain ⟨w1, w2⟩ := weights_at hA
  rw [hs, if_pos rfl] at w1 w2
  have hlen : (pinS (pinS ss a) b).length = ss.length := (pinS_len _ _).trans (pinS_len _ _)
  have hl6 := hL.len
  have hll : ((rs.set a x).set b y).length = ss.length + 1 := by rw [R3.len, hlen]
  obtain ⟨ti, -⟩ := truth_in L2 R3 T3
  have tb := ti b (by rw [hlen]; exact hb)
  have k1 := closed_le (err := pinE (pinE err a) b) (ss := pinS (pinS ss a) b) (rs := (rs.set a x).set b y) b 7
  have k2 := closed_le (err := pinE (pinE err a) b) (ss := pinS (pinS ss a) b) (rs := (rs.set a x).set b y) 7 b
  rw [tabOf_eq L2 R3, hlen, if_neg (by omega), if_neg (by omega), if_pos ⟨rfl, by omega⟩, h1] at k1
  rw [tabOf_eq L2 R3, hlen, if_neg (by omega), if_neg (by omega), if_neg (by omega), if_pos ⟨rfl, by omega⟩, h2] at k2
  rw [hll] at w2
  exact ⟨w1, w2, by omega, by omega⟩

/-- Each end of the range of a point is reached, and lies within what the reading alone says. -/
theorem end_reached {err : Int} {ss : List Stp} {rs : List Int} (hL : LineOk err ss) (hR : ReadOk ss rs) (hs : sound (closed err ss rs) = true) {a : Nat} (ha : a ≤ ss.length) {x : Int} (hx : x = -closed err ss rs 7 a ∨ x = closed err ss rs a 7) :
    (∃ w, Truth err ss rs w ∧ w a = x) ∧ loAt err ss rs a ≤ x ∧ x ≤ hiAt err ss rs a := by
  have hl6 := hL.len
  have hl := hR.len
  have l7 : liveOf ss 7 = true := (live_iff (by omega)).2 (.inr rfl)
  have t1 := closed_tri hL hR hs (i := a) (p := 7) (k := a) (by omega) (by omega) (by omega) (live_pt ha hl6.2) l7
  have t2 := closed_tri hL hR hs (i := 7) (p := a) (k := 7) (by omega) (by omega) (by omega) l7 (live_pt ha hl6.2)
  have d1 := closed_diag hL hR hs (a := a) (by omega)
  have d2 := closed_diag hL hR hs (a := 7) (by omega)
  have k1 := closed_le (err := err) (ss := ss) (rs := rs) a 7
  have k2 := closed_le (err := err) (ss := ss) (rs := rs) 7 a
  rw [tabOf_eq hL hR, if_neg (by omega), if_neg (by omega), if_pos ⟨rfl, by omega⟩] at k1
  rw [tabOf_eq hL hR, if_neg (by omega), if_neg (by omega), if_neg (by omega), if_pos ⟨rfl, by omega⟩] at k2
  refine ⟨?_, by omega, by omega⟩
  obtain ⟨w, hT, e, -⟩ := extend hL hR hs ha ha (x := x) (y := x) (by omega) (by omega) (by omega) (by omega) (by omega) (by omega)
  exact ⟨w, hT, e⟩

/-- Each end of the range of a loss is reached, with the least weight at the first point that it allows. -/
theorem loss_reached {err : Int} {ss : List Stp} {rs : List Int} (hL : LineOk err ss) (hR : ReadOk ss rs) (hs : sound (closed err ss rs) = true) {a b : Nat} (ha : a ≤ ss.length) (hb : b ≤ ss.length) {z : Int} (hz : z = -closed err ss rs b a ∨ z = closed err ss rs a b) {x : Int} (hx : x = max (-closed err ss rs 7 a) (-closed err ss rs 7 b + z)) :
    (∃ w, Truth err ss rs w ∧ w a = x ∧ w b = x - z) ∧ (-closed err ss rs 7 a ≤ x ∧ x ≤ closed err ss rs a 7) ∧ (-closed err ss rs 7 b ≤ x - z ∧ x - z ≤ closed err ss rs b 7) := by
  have hl6 := hL.len
  have l7 : liveOf ss 7 = true := (live_iff (by omega)).2 (.inr rfl)
  have la := live_pt ha hl6.2
  have lb := live_pt hb hl6.2
  have t1 := closed_tri hL hR hs (i := a) (p := 7) (k := a) (by omega) (by omega) (by omega) la l7
  have t2 := closed_tri hL hR hs (i := b) (p := 7) (k := b) (by omega) (by omega) (by omega) lb l7
  have t3 := closed_tri hL hR hs (i := a) (p := 7) (k := b) (by omega) (by omega) (by omega) la l7
  have t4 := closed_tri hL hR hs (i := b) (p := 7) (k := a) (by omega) (by omega) (by omega) lb l7
  have t5 := closed_tri hL hR hs (i := a) (p := b) (k := a) (by omega) (by omega) (by omega) la lb
  have t6 := closed_tri hL hR hs (i := a) (p := b) (k := 7) (by omega) (by omega) (by omega) la lb
  have t7 := closed_tri hL hR hs (i := b) (p := a) (k := 7) (by omega) (by omega) (by omega) lb la
  have t8 := closed_tri hL hR hs (i := 7) (p := a) (k := b) (by omega) (by omega) (by omega) l7 la
  have t9 := closed_tri hL hR hs (i := 7) (p := b) (k := a) (by omega) (by omega) (by omega) l7 lb
  have d1 := closed_diag hL hR hs (a := a) (by omega)
  have d2 := closed_diag hL hR hs (a := b) (by omega)
  have d3 := closed_diag hL hR hs (a := 7) (by omega)
  have r1 : -closed err ss rs 7 a ≤ x ∧ x ≤ closed err ss rs a 7 := by omega
  have r2 : -closed err ss rs 7 b ≤ x - z ∧ x - z ≤ closed err ss rs b 7 := by omega
  refine ⟨?_, r1, r2⟩
  exact extend hL hR hs ha hb (by omega) (by omega) (by omega) (by omega) (by omega) (by omega)

end Go.Proofs.Ytnombgiacfeloaa
