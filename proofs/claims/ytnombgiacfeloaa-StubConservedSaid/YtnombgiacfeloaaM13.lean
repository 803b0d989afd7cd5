/- Plain facts: how small the entries of the table can become while 'close' tightens it. No program is in sight. -/
import Derived.Test.YtnombgiacfeloaaM11
namespace Go.Proofs.Ytnombgiacfeloaa
set_option linter.unusedVariables false
set_option linter.unusedSimpArgs false
open Go.RowKit

/-- The table's bounds within the tightening over j, ahead of row i's place k. -/
structure StB (N : Int) (j i k : Nat) (M : Tab) : Prop where
  up : ∀ a b, M a b ≤ 2000000
  lo : ∀ a b, -(6 * N) ≤ M a b
  col : ∀ a, a ≠ j → -(3 * N) ≤ M a j
  col1 : ∀ a, a ≠ j → (i < a ∨ a = i ∧ k ≤ j) → -N ≤ M a j
  row : ∀ b, -(3 * N) ≤ M j b
  row1 : ∀ b, (i < j ∨ i = j ∧ k ≤ b) → -N ≤ M j b
  jj : -(2 * N) ≤ M j j

theorem StB.start {N : Int} {M : Tab} (hN : 0 ≤ N) (j : Nat) (h : ∀ a b, -N ≤ M a b ∧ M a b ≤ 2000000) : StB N j 0 0 M :=
  ⟨fun a b => (h a b).2, fun a b => by have := h a b; omega, fun a _ => by have := h a j; omega, fun a _ _ => (h a j).1, fun b => by have := h j b; omega, fun b _ => (h j b).1, by have := h j j; omega⟩

theorem StB.next {N : Int} {j i : Nat} {M : Tab} (h : StB N j i 8 M) : StB N j (i + 1) 0 M :=
  ⟨h.up, h.lo, h.col, fun a hne ha => h.col1 a hne (by omega), h.row, fun b hb => h.row1 b (by omega), h.jj⟩
theorem StB.skip {N : Int} {j i : Nat} {M : Tab} (h : StB N j i 0 M) : StB N j (i + 1) 0 M :=
  ⟨h.up, h.lo, h.col, fun a hne ha => h.col1 a hne (by omega), h.row, fun b hb => h.row1 b (by omega), h.jj⟩

/-- What one tightening adds, at most. -/
theorem StB.sum {N : Int} {j i k : Nat} {M : Tab} (hN : 0 ≤ N) (h : StB N j i k M) : -(6 * N) ≤ M i j + M j k ∧ M i j + M j k ≤ 4000000 := by
  have h1 := h.up i j
  have h2 := h.up j k
  have h3 := h.row k
  by_cases hi : i = j
  · subst hi
    have := h.jj
    omega
  · have := h.col i hi
    omega

theorem StB.upd {N : Int} {j i k : Nat} {M : Tab} (hN : 0 ≤ N) (h : StB N j i k M) : StB N j i (k + 1) (upd M j i k) := by
  have hs := h.sum hN
  have hv : -(6 * N) ≤ min (M i k) (M i j + M j k) := by have := h.lo i k; omega
  have hu : min (M i k) (M i j + M j k) ≤ 2000000 := by have := h.up i k; omega
  refine ⟨?_, ?_, ?_, ?_, ?_, ?_, ?_⟩
  · intro a b
    unfold Ytnombgiacfeloaa.upd put
    split
    · exact hu
    · exact h.up a b
  · intro a b
    unfold Ytnombgiacfeloaa.upd put
    split
    · exact hv
    · exact h.lo a b
  · intro a ha
    unfold Ytnombgiacfeloaa.upd put
    split
    · rename_i e
      obtain ⟨rfl, rfl⟩ := e
      have h1 := h.col1 a ha (.inr ⟨rfl, Nat.le_refl _⟩)
      have h2 := h.jj
      omega
    · exact h.col a ha
  · intro a ha hp
    unfold Ytnombgiacfeloaa.upd put
    split
    · rename_i e
      omega
    · exact h.col1 a ha (by omega)
  · intro b
    unfold Ytnombgiacfeloaa.upd put
    split
    · rename_i e
      obtain ⟨rfl, rfl⟩ := e
      have h1 := h.row1 b (.inr ⟨rfl, Nat.le_refl _⟩)
      have h2 := h.jj
      have h3 := h.row b
      omega
    · exact h.row b
  · intro b hp
    unfold Ytnombgiacfeloaa.upd put
    split
    · rename_i e
      omega
    · exact h.row1 b (by omega)
  · unfold Ytnombgiacfeloaa.upd put
    split
    · rename_i e
      obtain ⟨rfl, rfl⟩ := e
      have h1 := h.row1 j (.inr ⟨rfl, Nat.le_refl _⟩)
      omega
    · exact h.jj

theorem StB.row_to {N : Int} {j i : Nat} {M : Tab} (hN : 0 ≤ N) (h : StB N j i 0 M) (k : Nat) : StB N j i k (rowTo M j i k) := by
  induction k with
  | zero => exact h
  | succ k ih => exact ih.upd hN

theorem StB.col_to {N : Int} {j : Nat} {M : Tab} (hN : 0 ≤ N) (live : Nat → Bool) (h : StB N j 0 0 M) (i : Nat) : StB N j i 0 (colTo live M j i) := by
  induction i with
  | zero => exact h
  | succ i ih =>
    unfold colTo
    split
    · exact (ih.row_to hN 8).next
    · exact ih.skip

theorem fw_bd (live : Nat → Bool) (M : Tab) (h : ∀ a b, -2000000 ≤ M a b ∧ M a b ≤ 2000000) (j : Nat) : ∀ a b, -(6 ^ j * 2000000) ≤ fwTo live M j a b ∧ fwTo live M j a b ≤ 2000000 := by
  induction j with
  | zero => intro a b; have := h a b; simp [fwTo]; omega
  | succ j ih =>
    intro a b
    have h6 : (0 : Int) ≤ 6 ^ j * 2000000 := Int.mul_nonneg (Int.pow_nonneg (by decide)) (by decide)
    have hc := (StB.start h6 j ih).col_to h6 live 8
    have e : (6 : Int) ^ (j + 1) * 2000000 = 6 * (6 ^ j * 2000000) := by rw [Int.pow_succ, Int.mul_comm (6 ^ j) 6, Int.mul_assoc]
    rw [e]
    exact ⟨hc.lo a b, hc.up a b⟩

theorem pow6 (j : Nat) (h : j < 8) : (0 : Int) ≤ 6 ^ j * 2000000 ∧ (6 : Int) ^ j * 2000000 ≤ 559872000000 := by
  have : j = 0 ∨ j = 1 ∨ j = 2 ∨ j = 3 ∨ j = 4 ∨ j = 5 ∨ j = 6 ∨ j = 7 := by omega
  rcases this with rfl | rfl | rfl | rfl | rfl | rfl | rfl | rfl <;> decide

/-- What the walk wants of a sum: it does not wrap. -/
theorem sum_bd (live : Nat → Bool) (M : Tab) (h : ∀ a b, -2000000 ≤ M a b ∧ M a b ≤ 2000000) (j i k : Nat) (hj : j < 8) (N : Tab) (hN : N = rowTo (colTo live (fwTo live M j) j i) j i k) :
    -4000000000000 ≤ N i j + N j k ∧ N i j + N j k ≤ 4000000 := by
  have hp := pow6 j hj
  have hs := (((StB.start hp.1 j (fw_bd live M h j)).col_to hp.1 live i).row_to hp.1 k).sum hp.1
  subst hN
  omega

theorem tabR_bd (lo hi : Nat → Int) (n : Nat) (h : ∀ i, i < n → 0 ≤ lo i ∧ lo i ≤ 1000000 ∧ 0 ≤ hi i ∧ hi i ≤ 1000000) : ∀ a b, -2000000 ≤ tabR lo hi n a b ∧ tabR lo hi n a b ≤ 2000000 := by
  induction n with
  | zero => intro a b; unfold tabR tab0; split <;> omega
  | succ n ih =>
    intro a b
    have h1 := h n (by omega)
    have h2 := ih (fun i hi => h i (by omega)) a b
    unfold tabR put
    repeat (first | split | omega)

theorem tabS_bd (M : Tab) (lo hi : Nat → Int) (n : Nat) (hM : ∀ a b, -2000000 ≤ M a b ∧ M a b ≤ 2000000) (h : ∀ i, i < n → 0 ≤ lo i ∧ lo i ≤ 1000000 ∧ 0 ≤ hi i ∧ hi i ≤ 1000000) : ∀ a b, -2000000 ≤ tabS M lo hi n a b ∧ tabS M lo hi n a b ≤ 2000000 := by
  induction n with
  | zero => exact hM
  | succ n ih =>
    intro a b
    have h1 := h n (by omega)
    have h2 := ih (fun i hi => h i (by omega)) a b
    unfold tabS put
    repeat (first | split | omega)

/-- What a step loses, by its index. -/
def slo (ss : List Stp) (i : Nat) : Int := (ss[i]?.map (·.lo)).getD 0
def shi (ss : List Stp) (i : Nat) : Int := (ss[i]?.map (·.hi)).getD 0

theorem s_bd {err : Int} {ss : List Stp} (hL : LineOk err ss) (i : Nat) (hi : i < ss.length) : 0 ≤ slo ss i ∧ slo ss i ≤ shi ss i ∧ shi ss i ≤ 1000000 := by
  have h := hL.stp ss[i] (List.getElem_mem _)
  simp only [slo, shi, List.getElem?_eq_getElem hi, Option.map_some, Option.getD_some]
  omega

/-- The table that a line and readings make, ahead of the tightening. -/
def tabOf (err : Int) (ss : List Stp) (rs : List Int) : Tab := tabS (tabR (loAt err ss rs) (hiAt err ss rs) rs.length) (slo ss) (shi ss) ss.length

theorem tabOf_bd {err : Int} {ss : List Stp} {rs : List Int} (hL : LineOk err ss) (hR : ReadOk ss rs) : ∀ a b, -2000000 ≤ tabOf err ss rs a b ∧ tabOf err ss rs a b ≤ 2000000 :=
  tabS_bd _ _ _ _ (tabR_bd _ _ _ fun i hi => by have := lo_bd hL hR i hi; have := hi_bd hL hR i hi; omega) fun i hi => by have := s_bd hL i hi; omega

/-- Which rows are tightened. -/
def liveOf (ss : List Stp) (i : Nat) : Bool := decide (i ≤ ss.length) || decide (7 ≤ i)

/-- The table that 'close' hands back. -/
def closed (err : Int) (ss : List Stp) (rs : List Int) : Tab := fwTo (liveOf ss) (tabOf err ss rs) 8

end Go.Proofs.Ytnombgiacfeloaa
