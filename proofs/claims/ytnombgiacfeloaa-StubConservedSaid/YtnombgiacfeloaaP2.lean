/- The laws' arguments opened: numbers for the weights and the kinds of bags, and small records of numbers. -/
import Derived.Test.YtnombgiacfeloaaP1
namespace Go.Proofs.Ytnombgiacfeloaa
set_option linter.unusedVariables false
set_option linter.unusedSimpArgs false
open Go.ChangeShapes Go.WideShapes Go.ChangeAt Go.RowKit Go.Joins
set_option maxRecDepth 100000

section
variable {H : Type} {enc : TypeId × Value → H} {w : World} {base : Nat} {spare : Nat → Bool} {held : Bool}

theorem okSlice {t e : Nat} {cs : List Value} {y : DataW H × List MemPlace} {n : Nat} (ht : Try.prog.underlying t = some (.slice e)) (h : DataW.trod enc Try.prog w base spare held n t cs = some y) : ∃ a len cap, cs = [.slice a len cap] := by
  rcases Go.Deep.open_slice ht h with ⟨hcs, -⟩ | ⟨x, l, c, m, n', D, Pl, hcs, -⟩
  · exact ⟨_, _, _, hcs⟩
  · exact ⟨_, _, _, hcs⟩

/-- A slice of small numbers that lies in a field. -/
theorem nums_in {cs : List Value} {y : DataW H × List MemPlace} {n : Nat} (h : DataW.trod enc Try.prog w base spare held n 60 cs = some y) : ∃ v zs, cs = [v] ∧ Rd w 1 v (nums zs) ∧ ∀ z ∈ zs, 0 ≤ z ∧ z ≤ 65535 := by
  obtain ⟨a, len, cap, rfl⟩ := okSlice Try.underlying60 h
  have ht : DataW.Trod enc Try.prog w base spare held 60 (.slice a len cap) y.1 y.2 := ⟨n, h⟩
  obtain ⟨zs, hr, hb⟩ := open_rows0 (fun z : Int => [Value.int .u16 z]) (fun z => 0 ≤ z ∧ z ≤ 65535) Try.underlying60 cells90 (fun _ => rfl) (by decide) shape90 ⟨_, _, _, rfl⟩ ht
  exact ⟨_, zs, rfl, hr, hb⟩

theorem open_heap {r : Reach} {b0 : Nat} {v : Value} {d : DataW H} {p : List MemPlace} (hv : Value.okWide Try.prog w r b0 83 v) (h : DataW.Trod enc Try.prog w base spare held 83 v d p) :
    ∃ (g : Value) (gs : List Int) (q : Value) (qs : List Int), v = .agg #[g, q] ∧ Rd w 1 g (nums gs) ∧ (∀ z ∈ gs, 0 ≤ z ∧ z ≤ 65535) ∧ Rd w 1 q (nums qs) ∧ ∀ z ∈ qs, 0 ≤ z ∧ z ≤ 65535 := by
  obtain ⟨c0, c1, y0, y1, m, rfl, -, -, h0, h1⟩ := open_agg2 Try.underlying83 (by kernel_rfl) (by kernel_rfl) hv h
  obtain ⟨g, gs, e0, a1, a2⟩ := nums_in h0
  obtain ⟨q, qs, e1, b1, b2⟩ := nums_in h1
  simp at e0 e1
  subst e0 e1
  exact ⟨c0, gs, c1, qs, rfl, a1, a2, b1, b2⟩

theorem shapeU {k : IntKind} {t n : Nat} {cs : List Value} {y : DataW H × List MemPlace} (ht : Try.prog.underlying t = some (.int k)) (h : DataW.trod enc Try.prog w base spare held n t cs = some y) : ∃ z : Int, cs = [.int k z] ∧ k.min ≤ z ∧ z ≤ k.max := by
  obtain ⟨z, hz, -, hw⟩ := DataW.trod_int ht h
  rw [Lit.wf, Bool.and_eq_true, decide_eq_true_eq, decide_eq_true_eq] at hw
  exact ⟨z, hz, hw⟩

theorem open_u16 {r : Reach} {b0 : Nat} {v : Value} {d : DataW H} {p : List MemPlace} (hv : Value.okWide Try.prog w r b0 90 v) (h : DataW.Trod enc Try.prog w base spare held 90 v d p) : ∃ n : Int, v = .int .u16 n ∧ 0 ≤ n ∧ n ≤ 65535 := by
  obtain ⟨n, rfl, -, -, hw⟩ := open_int Try.underlying90 hv h
  rw [Lit.wf, Bool.and_eq_true, decide_eq_true_eq, decide_eq_true_eq] at hw
  exact ⟨n, rfl, hw⟩

theorem open_milder {r : Reach} {b0 : Nat} {v : Value} {d : DataW H} {p : List MemPlace} (hv : Value.okWide Try.prog w r b0 97 v) (h : DataW.Trod enc Try.prog w base spare held 97 v d p) :
    ∃ m0 m1 m2 m3 : Int, v = .agg #[.int .u16 m0, .int .u8 m1, .int .u32 m2, .int .u8 m3] ∧ (0 ≤ m0 ∧ m0 ≤ 65535) ∧ (0 ≤ m1 ∧ m1 ≤ 255) ∧ (0 ≤ m2 ∧ m2 ≤ 4294967295) ∧ (0 ≤ m3 ∧ m3 ≤ 255) := by
  obtain ⟨c0, c1, c2, c3, y0, y1, y2, y3, m, rfl, -, -, h0, h1, h2, h3⟩ := open_agg4 Try.underlying97 (by kernel_rfl) (by kernel_rfl) hv h
  obtain ⟨m0, e0, b0⟩ := shapeU Try.underlying90 h0
  obtain ⟨m1, e1, b1⟩ := shapeU Try.underlying5 h1
  obtain ⟨m2, e2, b2⟩ := shapeU Try.underlying59 h2
  obtain ⟨m3, e3, b3⟩ := shapeU Try.underlying5 h3
  simp at e0 e1 e2 e3
  subst e0 e1 e2 e3
  exact ⟨m0, m1, m2, m3, rfl, b0, b1, b2, b3⟩

end

end Go.Proofs.Ytnombgiacfeloaa
