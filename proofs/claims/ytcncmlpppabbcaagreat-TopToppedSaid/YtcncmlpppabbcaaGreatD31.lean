/- The reference's When: plain facts, a list of numbers that avoids a block, and the walk. -/
import Derived.Test.YtcncmlpppabbcaaGreatD30
import Derived.Test.YtcncmlpppabbcaaGreatD18
import Derived.Laws.OwnMore
import Derived.BigQuiet
namespace Go.Proofs.YtcncmlpppabbcaaGreat
set_option linter.unusedVariables false
set_option linter.unusedSimpArgs false
open Go.RowKit
attribute [local go_sem] Oper.semAt_some

/-- A list of n numbers that lies outside of block L. -/
def LAt (w : World) (L : Nat) (v : Value) (n : Nat) (f : Nat → Int) : Prop :=
  ∃ g c, v = .slice (some ⟨g, 0, none⟩) n c ∧ g ≠ L ∧ Rd w 1 v (ints ((List.range n).map f))
theorem LAt.rd {w : World} {L n : Nat} {v : Value} {f : Nat → Int} (h : LAt w L v n f) : Rd w 1 v (ints ((List.range n).map f)) := by
  obtain ⟨g, c, -, -, h⟩ := h
  exact h
theorem LAt.below {w w' : World} {L n : Nat} {v : Value} {f : Nat → Int} (h : LAt w L v n f) (hb : Below w.heap.size w w') : LAt w' L v n f := by
  obtain ⟨g, c, e, hne, h⟩ := h
  exact ⟨g, c, e, hne, h.below hb⟩
theorem LAt.cell {w : World} {L n : Nat} {v : Value} {f : Nat → Int} (h : LAt w L v n f) (hn : 0 < n) : ∃ g c, v = .slice (some ⟨g, 0, none⟩) n c ∧ g ≠ L ∧ g < w.heap.size ∧ ∀ j, j < n → w.cell? ⟨g, j, none⟩ = some (.int .i64 (f j)) := by
  obtain ⟨g, c, rfl, hne, h⟩ := h
  obtain ⟨a, c', e, -, -, hq⟩ := h.ints
  simp only [List.length_map, List.length_range] at e hq
  obtain ⟨b, off, rfl, hb, hc⟩ := hq hn
  simp only [Value.slice.injEq, Option.some.injEq, Addr.mk.injEq] at e
  obtain ⟨⟨rfl, rfl, -⟩, -, rfl⟩ := e
  refine ⟨g, c, rfl, hne, hb, fun j hj => ?_⟩
  have := hc j (by simpa using hj)
  simpa using this
theorem LAt.same {w w' : World} {L n : Nat} {v : Value} {f : Nat → Int} (h : LAt w L v n f) (hs : SameAt (fun b => b ≠ L) w w') : LAt w' L v n f := by
  obtain ⟨g, c, rfl, hne, h⟩ := h
  refine ⟨g, c, rfl, hne, ?_⟩
  obtain ⟨a, c', e, h1, h2, h3, h4⟩ := h
  refine ⟨a, c', e, h1, h2, h3, fun h0 => ?_⟩
  obtain ⟨b, off, rfl, hb, hc⟩ := h4 h0
  simp only [Value.slice.injEq, Option.some.injEq, Addr.mk.injEq] at e
  obtain ⟨⟨rfl, rfl, -⟩, -, rfl⟩ := e
  exact ⟨g, 0, rfl, Nat.lt_of_lt_of_le hb hs.size, fun j r hj i x hi => by rw [World.cell?_of_block (hs.block g hne hb)]; exact hc j r hj i x hi⟩

/-- The warmth in a truth, of n rings. -/
def wk (m : Mo) (P W : Nat → Int) (n k : Nat) : List Int := (List.range n).map (trR m P W k)
theorem trR_out (m : Mo) (P W : Nat → Int) : ∀ (k i : Nat), m.rings ≤ (i : Int) → trR m P W k i = 0
  | 0, i, h => by show (if _ then _ else _) = _; rw [if_neg (by omega)]
  | k + 1, i, h => by
    show nxt m _ _ i = 0
    unfold nxt
    rw [if_neg (by omega)]
    exact trR_out m P W k i h
theorem wk_get {m : Mo} {n : Nat} (hn : (n : Int) = m.rings) (P W : Nat → Int) (k : Nat) : (fun i => (wk m P W n k).getD i 0) = trR m P W k := by
  funext i
  unfold wk
  by_cases hi : i < n
  · simp [List.getD, hi]
  · rw [trR_out m P W k i (by omega)]
    simp [List.getD, List.getElem?_eq_none, Nat.le_of_not_lt hi]
theorem wk_next {m : Mo} {n : Nat} (hn : (n : Int) = m.rings) (P W : Nat → Int) (k : Nat) : nextL m (wk m P W n k) (W k) = wk m P W n (k + 1) := by
  unfold nextL
  rw [wk_get hn]
  have e : (wk m P W n k).length = n := by simp [wk]
  rw [e]
  rfl
theorem wk_zero {m : Mo} {ps : List Int} (hn : (ps.length : Int) = m.rings) (W : Nat → Int) : wk m (fun i => ps.getD i 0) W ps.length 0 = ps := by
  unfold wk
  apply List.ext_getElem (by simp)
  intro i h1 h2
  simp only [List.getElem_map, List.getElem_range]
  show (if _ then _ else _) = _
  rw [if_pos (by omega)]
  simp [List.getD, h2]
theorem trR_warm {m : Mo} (hm : MoOk m) {P W : Nat → Int} (hP : ∀ i : Nat, (i : Int) < m.rings → 0 ≤ P i ∧ P i ≤ 2000) : ∀ (k : Nat), (∀ j, j < k → 0 ≤ W j ∧ W j ≤ 2000) → Warmy (trR m P W k)
  | 0, _ => fun i => by
    show 0 ≤ (if (i : Int) < m.rings then P i else 0) ∧ (if (i : Int) < m.rings then P i else 0) ≤ 2000
    split
    · exact hP i (by assumption)
    · omega
  | k + 1, h => nxt_warmy hm (trR_warm hm hP k fun j hj => h j (by omega)) (h k (by omega))

theorem fsX_succ (x : Nat → Int) (set : Int) (k : Nat) : fsX x set (k + 1) = match fsX x set k with | some n => some n | none => if x k ≤ set then some k else none := rfl
/-- When a ring has set before minute N; -1: it has not. -/
def wonF (m : Mo) (P W : Nat → Int) (N i : Nat) : Int := match fsX (fun k => trR m P W k i) m.set N with | some n => (n : Int) | none => -1
theorem wonF_zero (m : Mo) (P W : Nat → Int) (i : Nat) : wonF m P W 0 i = -1 := rfl
theorem wonF_stay {m : Mo} {P W : Nat → Int} {N i : Nat} (h : ¬ (wonF m P W N i < 0 ∧ trR m P W N i ≤ m.set)) : wonF m P W (N + 1) i = wonF m P W N i := by
  unfold wonF at h ⊢
  rw [fsX_succ]
  cases e : fsX (fun k => trR m P W k i) m.set N with
  | some q => rfl
  | none =>
    rw [e] at h
    simp only
    rw [if_neg (fun q => h ⟨by decide, q⟩)]
theorem wonF_set {m : Mo} {P W : Nat → Int} {N i : Nat} (h : wonF m P W N i < 0 ∧ trR m P W N i ≤ m.set) : wonF m P W (N + 1) i = N := by
  unfold wonF at h ⊢
  rw [fsX_succ]
  cases e : fsX (fun k => trR m P W k i) m.set N with
  | some q =>
    rw [e] at h
    simp only at h
    omega
  | none =>
    simp only
    rw [if_pos h.2]
theorem wonF_bd (m : Mo) (P W : Nat → Int) (N i : Nat) : -1 ≤ wonF m P W N i ∧ wonF m P W N i < N := by
  unfold wonF
  cases e : fsX (fun k => trR m P W k i) m.set N with
  | some q => have := fsX_lt e; simp only; omega
  | none => simp only; omega

theorem inAt_made {w : World} {base g n : Nat} (h : w.ownsRow base 3 1 (.slice (some ⟨g, 0, none⟩) n n) n (madeCells (Value.int .i64 0).cells (n * 1)).toList) : ∃ cur : List Value, w.heap[g]? = some (.cells cur.toArray 3 (0, 0)) ∧ cur = inRow n (fun _ => 0) := by
  obtain ⟨cur, h1, h2⟩ := owns_block h
  refine ⟨cur, h1, ?_⟩
  have e : (madeCells (Value.int .i64 0).cells (n * 1)).toList = inRow n fun _ => 0 := by
    rw [← inRow_const, Nat.mul_one]
    exact toList_madeCells_one _ _
  rw [e] at h
  apply List.ext_getElem?
  intro i
  by_cases hi : i < n
  · have q := h.cells (g := g) rfl i (.int .i64 0) (inRow_get _ hi)
    rw [Go.WideShapes.add_plain] at q
    simp only [Nat.zero_add] at q
    rw [cell_of_row w g i _ 3 (0, 0) h1] at q
    rw [inRow_get _ hi]
    simpa using q
  · rw [List.getElem?_eq_none (by omega), List.getElem?_eq_none (by rw [inRow_length]; omega)]

end Go.Proofs.YtcncmlpppabbcaaGreat
