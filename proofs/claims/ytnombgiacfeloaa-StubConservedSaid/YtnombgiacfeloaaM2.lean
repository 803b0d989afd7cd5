/- Plain facts: names. No program is in sight. -/
import Derived.Test.YtnombgiacfeloaaB
namespace Go.Proofs.Ytnombgiacfeloaa
set_option linter.unusedVariables false
set_option linter.unusedSimpArgs false
open Go.RowKit

/-- Whether letters go on as a name, where the one before is a dash (or there is none). -/
def nameGo : Bool → List UInt8 → Bool
  | last, [] => !last
  | last, c :: l => if c.toNat = 45 then (if last then false else nameGo true l) else if 97 ≤ c.toNat ∧ c.toNat ≤ 122 then nameGo false l else false

/-- Whether a string is a name. -/
def nameOk (s : ByteArray) : Bool := nameGo true s.data.toList && decide (s.size ≤ 20)

theorem nameGo_dash (l : List UInt8) (c : UInt8) (h : c.toNat = 45) (last : Bool) : nameGo last (c :: l) = if last then false else nameGo true l := by
  simp [nameGo, h]
theorem nameGo_letter (l : List UInt8) (c : UInt8) (h : 97 ≤ c.toNat) (h' : c.toNat ≤ 122) (last : Bool) : nameGo last (c :: l) = nameGo false l := by
  have : ¬ c.toNat = 45 := by omega
  simp [nameGo, this, h, h']
theorem nameGo_bad (l : List UInt8) (c : UInt8) (h : ¬ c.toNat = 45) (h' : ¬ (97 ≤ c.toNat ∧ c.toNat ≤ 122)) (last : Bool) : nameGo last (c :: l) = false := by
  simp only [nameGo, if_neg h, if_neg h']

theorem drop_cons (s : ByteArray) (p : Nat) (h : p < s.size) : s.data.toList.drop p = s[p] :: s.data.toList.drop (p + 1) := by
  have h' : p < s.data.toList.length := by simpa using h
  rw [List.drop_eq_getElem_cons h']
  rfl

/-- The same, asked letter by letter. -/
theorem nameGo_iff (l : List UInt8) (last : Bool) : nameGo last l = true ↔
    ((l = [] → last = false) ∧ (∀ c l', l = c :: l' → last = true → c.toNat ≠ 45) ∧ (∀ c, l.getLast? = some c → c.toNat ≠ 45) ∧
      (∀ i (h : i < l.length), (l[i].toNat = 45 ∨ 97 ≤ l[i].toNat ∧ l[i].toNat ≤ 122) ∧ (∀ hi : 0 < i, ¬ (l[i].toNat = 45 ∧ l[i - 1].toNat = 45)))) := by
  induction l generalizing last with
  | nil => simp [nameGo]
  | cons c l ih =>
    have hlast : (c :: l).getLast? = some (l.getLast?.getD c) := by
      cases l with
      | nil => rfl
      | cons a l => simp [List.getLast?_cons]
    by_cases h45 : c.toNat = 45
    · rw [nameGo_dash _ _ h45]
      cases last with
      | true =>
        simp only [if_true, Bool.false_eq_true, false_iff]
        intro h
        exact h.2.1 c l rfl trivial h45
      | false =>
        simp only [Bool.false_eq_true, if_false]
        rw [ih]
        constructor
        · rintro ⟨h1, h2, h3, h4⟩
          refine ⟨by simp, by simp, ?_, ?_⟩
          · intro c' hc'
            rw [hlast] at hc'
            cases l with
            | nil => simp at h1
            | cons a l =>
              obtain rfl := Option.some.inj hc'
              cases hl : (a :: l).getLast? with
              | none => simp at hl
              | some z => exact h3 z hl
          · intro i hi
            cases i with
            | zero => exact ⟨.inl h45, fun h => absurd h (by omega)⟩
            | succ i =>
              have := h4 i (by simpa using hi)
              refine ⟨by simpa using this.1, fun _ => ?_⟩
              cases i with
              | zero =>
                cases l with
                | nil => simp at hi
                | cons a l =>
                  rintro ⟨g1, -⟩
                  exact h2 a l rfl rfl (by simpa using g1)
              | succ i => simpa using this.2 (by omega)
        · rintro ⟨h1, h2, h3, h4⟩
          refine ⟨?_, ?_, ?_, ?_⟩
          · rintro rfl
            exact absurd h45 (h3 c rfl)
          · rintro a l' rfl _ ha
            have := (h4 1 (by simp)).2 (by omega)
            exact this ⟨by simpa using ha, by simpa using h45⟩
          · intro z hz
            apply h3 z
            rw [hlast, hz]; rfl
          · intro i hi
            have := h4 (i + 1) (by simpa using hi)
            refine ⟨by simpa using this.1, fun h0 => ?_⟩
            have h5 := this.2 (by omega)
            cases i with
            | zero => omega
            | succ i => simpa using h5
    · by_cases hr : 97 ≤ c.toNat ∧ c.toNat ≤ 122
      · rw [nameGo_letter _ _ hr.1 hr.2, ih]
        constructor
        · rintro ⟨h1, h2, h3, h4⟩
          refine ⟨by simp, ?_, ?_, ?_⟩
          · rintro a l' h _
            obtain ⟨rfl, rfl⟩ := List.cons.inj h
            exact h45
          · intro z hz
            rw [hlast] at hz
            obtain rfl := Option.some.inj hz
            cases hl : l.getLast? with
            | none => exact h45
            | some z => exact h3 z hl
          · intro i hi
            cases i with
            | zero => exact ⟨.inr hr, fun h => absurd h (by omega)⟩
            | succ i =>
              have := h4 i (by simpa using hi)
              refine ⟨by simpa using this.1, fun _ => ?_⟩
              cases i with
              | zero => rintro ⟨-, g2⟩; exact h45 (by simpa using g2)
              | succ i => simpa using this.2 (by omega)
        · rintro ⟨h1, h2, h3, h4⟩
          refine ⟨fun _ => rfl, by simp, ?_, ?_⟩
          · intro z hz
            apply h3 z
            rw [hlast, hz]; rfl
          · intro i hi
            have := h4 (i + 1) (by simpa using hi)
            refine ⟨by simpa using this.1, fun h0 => ?_⟩
            have h5 := this.2 (by omega)
            cases i with
            | zero => omega
            | succ i => simpa using h5
      · rw [nameGo_bad _ _ h45 hr]
        simp only [Bool.false_eq_true, false_iff]
        rintro ⟨h1, h2, h3, h4⟩
        rcases (h4 0 (by simp)).1 with h | h
        · exact h45 (by simpa using h)
        · exact hr (by simpa using h)

end Go.Proofs.Ytnombgiacfeloaa
