/- The closure of mould's end that lets rings set up to a minute. -/
import Derived.Test.YtcncmlpppabbcaaGreatD15
import Derived.Test.YtcncmlpppabbcaaGreatD6
import Derived.Test.YtcncmlpppabbcaaGreatD5
import Derived.LoopNIn
import Derived.LoopIn
namespace Go.Proofs.YtcncmlpppabbcaaGreat
set_option linter.unusedVariables false
set_option linter.unusedSimpArgs false
open Go.RowKit
attribute [local go_sem] Oper.semAt_some

def putB (l : Nat → Bool) (k : Nat) (x : Bool) : Nat → Bool := fun i => if i = k then x else l i
def boRow (n : Nat) (D : Nat → Bool) : List Value := (List.range n).map fun i => Value.bool (D i)
theorem boRow_length (n : Nat) (D : Nat → Bool) : (boRow n D).length = n := by simp [boRow]
theorem boRow_get {n : Nat} (D : Nat → Bool) {i : Nat} (h : i < n) : (boRow n D)[i]? = some (.bool (D i)) := by simp [boRow, h]
theorem boRow_put {n : Nat} (D : Nat → Bool) (k : Nat) (x : Bool) (h : k < n) : (boRow n D).set k (.bool x) = boRow n (putB D k x) := by
  apply List.ext_getElem?
  intro i
  by_cases hi : i < n
  · rw [boRow_get _ hi, List.getElem?_set]
    unfold putB
    by_cases e : k = i
    · subst e
      rw [if_pos rfl, if_pos (by rw [boRow_length]; exact h), if_pos rfl]
    · rw [if_neg e, if_neg (fun q => e q.symm), boRow_get _ hi]
  · rw [List.getElem?_eq_none (by rw [List.length_set, boRow_length]; omega), List.getElem?_eq_none (by rw [boRow_length]; omega)]

/-- A block holds which rings have set. -/
def BoAt (w : World) (B n : Nat) (D : Nat → Bool) : Prop := w.heap[B]? = some (.cells (boRow n D).toArray 4 (0, 0))
theorem BoAt.lt {w : World} {B n : Nat} {D : Nat → Bool} (h : BoAt w B n D) : B < w.heap.size := (Array.getElem?_eq_some_iff.1 h).1
theorem BoAt.cell {w : World} {B n : Nat} {D : Nat → Bool} (h : BoAt w B n D) {i : Nat} (hi : i < n) : w.cell? ⟨B, i, none⟩ = some (.bool (D i)) := by
  rw [cell_of_row w B _ _ 4 (0, 0) h]
  simp only [List.getElem?_toArray]
  exact boRow_get D hi
theorem BoAt.frozen {w : World} {B n : Nat} {D : Nat → Bool} (h : BoAt w B n D) (o : Nat) : w.frozen? ⟨B, o, none⟩ = false := frozen_of_row h
theorem BoAt.set {w : World} {B n : Nat} {D : Nat → Bool} (h : BoAt w B n D) {k : Nat} (x : Bool) (hk : k < n) : BoAt (w.setCell ⟨B, k, none⟩ (.bool x)) B n (putB D k x) := by
  have := heap_setCell_row (k := k) (v := .bool x) h
  unfold BoAt
  rw [this, ← boRow_put D k x hk]
theorem BoAt.other {w : World} {B n b o : Nat} {v : Value} {D : Nat → Bool} (h : BoAt w B n D) (hne : b ≠ B) : BoAt (w.setCell ⟨b, o, none⟩ v) B n D := by
  unfold BoAt
  rw [heap_setCell_ne hne]; exact h
theorem BoAt.drew {w : World} {B n : Nat} {D : Nat → Bool} (h : BoAt w B n D) : BoAt w.drew B n D := h
theorem BoAt.same {w w' : World} {B n : Nat} {D : Nat → Bool} (h : BoAt w B n D) (e : w'.heap[B]? = w.heap[B]?) : BoAt w' B n D := e.trans h

theorem SameAt.setCell {S : Nat → Prop} {A B : World} (h : SameAt S A B) {b o : Nat} (v : Value) (hb : ¬ S b) : SameAt S A (B.setCell ⟨b, o, none⟩ v) :=
  h.trans ⟨by simp, fun c hc _ => heap_setCell_ne (fun e => hb (e ▸ hc))⟩

/-- Which rings of the first k have set up to a minute, and the hollow. -/
def snk (m : Mo) (zs : List Int) (t : Int) (D : Nat → Bool) (h : Int) : Nat → (Nat → Bool) × Int
  | 0 => (D, h)
  | k + 1 => if (snk m zs t D h k).1 k = false ∧ zs.getD k 0 ≤ t then (putB (snk m zs t D h k).1 k true, (snk m zs t D h k).2 + m.shrink * (2 * (m.rings - k) - 1)) else snk m zs t D h k

theorem term_bd {m : Mo} (hm : MoOk m) {k : Nat} (hk : (k : Int) < m.rings) : 0 ≤ m.shrink * (2 * (m.rings - k) - 1) ∧ m.shrink * (2 * (m.rings - k) - 1) ≤ 3000 := by
  obtain ⟨s0, s1⟩ := hm.shrink
  obtain ⟨r0, r1⟩ := hm.rings
  refine ⟨Int.mul_nonneg s0 (by omega), ?_⟩
  exact Int.le_trans (Int.mul_le_mul s1 (show 2 * (m.rings - k) - 1 ≤ 15 by omega) (by omega) (by omega)) (by omega)

theorem snk_bd {m : Mo} (hm : MoOk m) (zs : List Int) (t : Int) (D : Nat → Bool) (h : Int) : ∀ k : Nat, (k : Int) ≤ m.rings → h ≤ (snk m zs t D h k).2 ∧ (snk m zs t D h k).2 ≤ h + 3000 * k
  | 0, _ => ⟨Int.le_refl _, by simp [snk]⟩
  | k + 1, hk => by
    have ih := snk_bd hm zs t D h k (by omega)
    have hb := term_bd hm (k := k) (by omega)
    unfold snk
    split
    · constructor
      · show h ≤ (snk m zs t D h k).2 + m.shrink * (2 * (m.rings - k) - 1)
        omega
      · show (snk m zs t D h k).2 + m.shrink * (2 * (m.rings - k) - 1) ≤ _
        push_cast
        omega
    · constructor
      · exact ih.1
      · push_cast
        omega

end Go.Proofs.YtcncmlpppabbcaaGreat
