/- The laws' arguments opened: lines, what happened to a sack, and small arrays of numbers. -/
import Derived.Test.YtnombgiacfeloaaP2
namespace Go.Proofs.Ytnombgiacfeloaa
set_option linter.unusedVariables false
set_option linter.unusedSimpArgs false
open Go.ChangeShapes Go.WideShapes Go.ChangeAt Go.RowKit Go.Joins
set_option maxRecDepth 100000

section
variable {H : Type} {enc : TypeId × Value → H} {w : World} {base : Nat} {spare : Nat → Bool} {held : Bool}

theorem okWide_array {n e t : Nat} {r : Reach} {b0 : Nat} {v : Value} (ht : Try.prog.underlying t = some (.array n e)) (h : Value.okWide Try.prog w r b0 t v) : ∃ cs, v = .agg cs ∧ cs.size = Try.prog.cellsOf t := by
  simp only [Value.okWide, ht] at h
  obtain ⟨cs, h1, h2, _⟩ := h
  exact ⟨cs, h1, h2⟩

theorem open_arr2 {t e : Nat} {k : IntKind} {r : Reach} {b0 : Nat} {v : Value} {d : DataW H} {p : List MemPlace} (ht : Try.prog.underlying t = some (.array 2 e)) (he : Try.prog.underlying e = some (.int k)) (hce : Try.prog.cellsOf e = 1) (hC : Try.prog.cellsOf t = 2)
    (hv : Value.okWide Try.prog w r b0 t v) (h : DataW.Trod enc Try.prog w base spare held t v d p) :
    ∃ y0 y1 : Int, v = .agg #[.int k y0, .int k y1] ∧ (k.min ≤ y0 ∧ y0 ≤ k.max) ∧ (k.min ≤ y1 ∧ y1 ≤ k.max) := by
  obtain ⟨cs, rfl, hsz⟩ := okWide_array ht hv
  obtain ⟨c0, c1, rfl⟩ := array2 (hsz.trans hC)
  obtain ⟨fuel, hf⟩ := h
  obtain ⟨xs, m, -, -, -, hxl, hg⟩ := DataW.trod_array ht hf
  have h0 := hg 0 (by omega)
  have h1 := hg 1 (by omega)
  rw [List.getElem?_eq_getElem (by omega), hce] at h0 h1
  simp [Value.cells] at h0 h1
  obtain ⟨z0, e0, b0⟩ := shapeU he h0
  obtain ⟨z1, e1, b1⟩ := shapeU he h1
  simp at e0 e1
  subst e0 e1
  exact ⟨z0, z1, rfl, b0, b1⟩

theorem open_arr3 {t e : Nat} {k : IntKind} {r : Reach} {b0 : Nat} {v : Value} {d : DataW H} {p : List MemPlace} (ht : Try.prog.underlying t = some (.array 3 e)) (he : Try.prog.underlying e = some (.int k)) (hce : Try.prog.cellsOf e = 1) (hC : Try.prog.cellsOf t = 3)
    (hv : Value.okWide Try.prog w r b0 t v) (h : DataW.Trod enc Try.prog w base spare held t v d p) :
    ∃ y0 y1 y2 : Int, v = .agg #[.int k y0, .int k y1, .int k y2] ∧ (k.min ≤ y0 ∧ y0 ≤ k.max) ∧ (k.min ≤ y1 ∧ y1 ≤ k.max) ∧ (k.min ≤ y2 ∧ y2 ≤ k.max) := by
  obtain ⟨cs, rfl, hsz⟩ := okWide_array ht hv
  obtain ⟨c0, c1, c2, rfl⟩ := array3 (hsz.trans hC)
  obtain ⟨fuel, hf⟩ := h
  obtain ⟨xs, m, -, -, -, hxl, hg⟩ := DataW.trod_array ht hf
  have h0 := hg 0 (by omega)
  have h1 := hg 1 (by omega)
  have h2 := hg 2 (by omega)
  rw [List.getElem?_eq_getElem (by omega), hce] at h0 h1 h2
  simp [Value.cells] at h0 h1 h2
  obtain ⟨z0, e0, b0⟩ := shapeU he h0
  obtain ⟨z1, e1, b1⟩ := shapeU he h1
  obtain ⟨z2, e2, b2⟩ := shapeU he h2
  simp at e0 e1 e2
  subst e0 e1 e2
  exact ⟨z0, z1, z2, rfl, b0, b1, b2⟩

/-- The steps of a line that lie in a field. -/
theorem steps_in {cs : List Value} {y : DataW H × List MemPlace} {n : Nat} (h : DataW.trod enc Try.prog w base spare held n 22 cs = some y) : ∃ v ss, cs = [v] ∧ Rd w 4 v (stpRows ss) ∧ ∀ x ∈ ss, x.name.size ≤ 9223372036854775807 := by
  obtain ⟨a, len, cap, rfl⟩ := okSlice Try.underlying22 h
  have ht : DataW.Trod enc Try.prog w base spare held 22 (.slice a len cap) y.1 y.2 := ⟨n, h⟩
  obtain ⟨ss, hr, hb⟩ := open_rows0 Stp.row (fun x => x.name.size ≤ 9223372036854775807) Try.underlying22 cells76 (fun _ => rfl) (by decide) shape76 ⟨_, _, _, rfl⟩ ht
  exact ⟨_, ss, rfl, hr, hb⟩

theorem open_line {r : Reach} {b0 : Nat} {v : Value} {d : DataW H} {p : List MemPlace} (hv : Value.okWide Try.prog w r b0 24 v) (h : DataW.Trod enc Try.prog w base spare held 24 v d p) :
    ∃ (err : Int) (sv : Value) (ss : List Stp), v = .agg #[.int .i64 err, sv] ∧ Rd w 4 sv (stpRows ss) ∧ ∀ x ∈ ss, x.name.size ≤ 9223372036854775807 := by
  obtain ⟨c0, c1, y0, y1, m, rfl, -, -, h0, h1⟩ := open_agg2 Try.underlying24 (by kernel_rfl) (by kernel_rfl) hv h
  obtain ⟨a, ha, -⟩ := shape3 _ _ _ h0
  obtain ⟨q, ss, e1, b1, b2⟩ := steps_in h1
  simp at ha e1
  subst ha e1
  exact ⟨a, c1, ss, rfl, b1, b2⟩

theorem open_past {r : Reach} {b0 : Nat} {v : Value} {d : DataW H} {p : List MemPlace} (hv : Value.okWide Try.prog w r b0 62 v) (h : DataW.Trod enc Try.prog w base spare held 62 v d p) :
    ∃ (s0 : Int) (nv : Value) (zs : List Int) (s2 : Int), v = .agg #[.int .u32 s0, nv, .int .u8 s2] ∧ (0 ≤ s0 ∧ s0 ≤ 4294967295) ∧ Rd w 1 nv (nums zs) ∧ (∀ z ∈ zs, 0 ≤ z ∧ z ≤ 65535) ∧ (0 ≤ s2 ∧ s2 ≤ 255) := by
  obtain ⟨c0, c1, c2, y0, y1, y2, m, rfl, -, -, h0, h1, h2⟩ := open_agg3 Try.underlying62 (by kernel_rfl) (by kernel_rfl) hv h
  obtain ⟨m0, e0, b0⟩ := shapeU Try.underlying59 h0
  obtain ⟨q, zs, e1, b1, b2⟩ := nums_in h1
  obtain ⟨m2, e2, b3⟩ := shapeU Try.underlying5 h2
  simp at e0 e1 e2
  subst e0 e1 e2
  exact ⟨m0, c1, zs, m2, rfl, b0, b1, b2, b3⟩

theorem open_int3 {r : Reach} {b0 : Nat} {v : Value} {d : DataW H} {p : List MemPlace} (hv : Value.okWide Try.prog w r b0 3 v) (h : DataW.Trod enc Try.prog w base spare held 3 v d p) : ∃ n : Int, v = .int .i64 n := by
  obtain ⟨n, rfl, -, -, hw⟩ := open_int Try.underlying3 hv h
  exact ⟨n, rfl⟩

theorem open_i2 {r : Reach} {b0 : Nat} {v : Value} {d : DataW H} {p : List MemPlace} (hv : Value.okWide Try.prog w r b0 26 v) (h : DataW.Trod enc Try.prog w base spare held 26 v d p) : ∃ y0 y1 : Int, v = .agg #[.int .i64 y0, .int .i64 y1] := by
  obtain ⟨a, b, e, -, -⟩ := open_arr2 (e := 3) (by kernel_rfl) Try.underlying3 (by kernel_rfl) (by kernel_rfl) hv h
  exact ⟨a, b, e⟩
theorem open_b2 {r : Reach} {b0 : Nat} {v : Value} {d : DataW H} {p : List MemPlace} (hv : Value.okWide Try.prog w r b0 63 v) (h : DataW.Trod enc Try.prog w base spare held 63 v d p) :
    ∃ y0 y1 : Int, v = .agg #[.int .u8 y0, .int .u8 y1] ∧ (0 ≤ y0 ∧ y0 ≤ 255) ∧ (0 ≤ y1 ∧ y1 ≤ 255) :=
  open_arr2 (e := 5) (by kernel_rfl) Try.underlying5 (by kernel_rfl) (by kernel_rfl) hv h
theorem open_b3 {r : Reach} {b0 : Nat} {v : Value} {d : DataW H} {p : List MemPlace} (hv : Value.okWide Try.prog w r b0 74 v) (h : DataW.Trod enc Try.prog w base spare held 74 v d p) :
    ∃ y0 y1 y2 : Int, v = .agg #[.int .u8 y0, .int .u8 y1, .int .u8 y2] ∧ (0 ≤ y0 ∧ y0 ≤ 255) ∧ (0 ≤ y1 ∧ y1 ≤ 255) ∧ (0 ≤ y2 ∧ y2 ≤ 255) :=
  open_arr3 (e := 5) (by kernel_rfl) Try.underlying5 (by kernel_rfl) (by kernel_rfl) hv h
theorem open_u2 {r : Reach} {b0 : Nat} {v : Value} {d : DataW H} {p : List MemPlace} (hv : Value.okWide Try.prog w r b0 78 v) (h : DataW.Trod enc Try.prog w base spare held 78 v d p) :
    ∃ y0 y1 : Int, v = .agg #[.int .u32 y0, .int .u32 y1] ∧ (0 ≤ y0 ∧ y0 ≤ 4294967295) ∧ (0 ≤ y1 ∧ y1 ≤ 4294967295) :=
  open_arr2 (e := 59) (by kernel_rfl) Try.underlying59 (by kernel_rfl) (by kernel_rfl) hv h
theorem open_u3 {r : Reach} {b0 : Nat} {v : Value} {d : DataW H} {p : List MemPlace} (hv : Value.okWide Try.prog w r b0 80 v) (h : DataW.Trod enc Try.prog w base spare held 80 v d p) :
    ∃ y0 y1 y2 : Int, v = .agg #[.int .u32 y0, .int .u32 y1, .int .u32 y2] ∧ (0 ≤ y0 ∧ y0 ≤ 4294967295) ∧ (0 ≤ y1 ∧ y1 ≤ 4294967295) ∧ (0 ≤ y2 ∧ y2 ≤ 4294967295) :=
  open_arr3 (e := 59) (by kernel_rfl) Try.underlying59 (by kernel_rfl) (by kernel_rfl) hv h

end

end Go.Proofs.Ytnombgiacfeloaa
