/- The laws' arguments opened: a sort, bags, a line, readings, numbers. -/
import Derived.Test.YtnombgiacfeloaaChecked
import Derived.Test.YtnombgiacfeloaaM3
import Derived.ProofKit
import Derived.Carry
import Derived.Deep.Slices
import Derived.Lib.SmallJoins
namespace Go.Proofs.Ytnombgiacfeloaa
set_option linter.unusedVariables false
set_option linter.unusedSimpArgs false
open Go.ChangeShapes Go.WideShapes Go.ChangeAt Go.RowKit Go.Joins
set_option maxRecDepth 100000

theorem Try.own : ownKnob Try.prog.godebug = none := by kernel_rfl
theorem Try.laidOut : laidOutB Try.prog = true := by kernel_rfl

section
variable {H : Type} {enc : TypeId × Value → H} {w : World} {base : Nat} {spare : Nat → Bool} {held : Bool}

/-- A slice whose elements have a form reads as rows of this form. -/
theorem open_rows {α : Type} (row : α → List Value) (Q : α → Prop) {k t e : Nat} {r : Reach} {b0 : Nat} {v : Value} {d : DataW H} {p : List MemPlace} (ht : Try.prog.underlying t = some (.slice e)) (hC : Try.prog.cellsOf e = k) (hk : ∀ s, (row s).length = k) (hk0 : 0 < k)
    (hshape : ∀ n cs y, DataW.trod enc Try.prog w base spare held n e cs = some y → ∃ s, cs = row s ∧ Q s) (hv : Value.okWide Try.prog w r b0 t v) (h : DataW.Trod enc Try.prog w base spare held t v d p) :
    ∃ ss : List α, Rd w k v (ss.map row) ∧ ∀ s ∈ ss, Q s := by
  obtain ⟨a, len, cap, rfl⟩ := okWide_slice ht hv
  obtain ⟨fuel, hf⟩ := h
  rcases Go.Deep.open_slice ht hf with ⟨hcs, -⟩ | ⟨x, l, c, m, n, D, Pl, hcs, -, hlc, hcm, hm, -, hi⟩
  · simp [Value.cells] at hcs
    obtain ⟨rfl, rfl, rfl⟩ := hcs
    exact ⟨[], ⟨none, 0, rfl, by simp, by simp, by simp, fun h => by simp at h⟩, by simp⟩
  · simp [Value.cells] at hcs
    obtain ⟨rfl, rfl, rfl⟩ := hcs
    have hml : len ≤ m := by rw [hm]; split <;> omega
    have hex : ∀ i, i < len → ∃ s, Q s ∧ ∀ j, j < k → w.cell? ((x.add (i * k)).add j) = (row s)[j]? := by
      intro i hil
      obtain ⟨cs, hc, htr⟩ := hi i (by omega)
      obtain ⟨s, rfl, hq⟩ := hshape _ _ _ htr
      rw [hC] at hc
      obtain ⟨-, -, hat⟩ := World.cells?_some hc
      exact ⟨s, hq, hat⟩
    obtain ⟨ss, hlen, hss⟩ : ∃ ss : List α, ss.length = len ∧ ∀ i (h : i < ss.length), Q ss[i] ∧ ∀ j, j < k → w.cell? ((x.add (i * k)).add j) = (row ss[i])[j]? := by
      clear hm hml hlc hf hi hv
      induction len with
      | zero => exact ⟨[], rfl, fun i h => absurd h (Nat.not_lt_zero _)⟩
      | succ len ih =>
        obtain ⟨ss, hl, hs⟩ := ih (fun i hi => hex i (by omega))
        obtain ⟨s, hq, hj⟩ := hex len (by omega)
        refine ⟨ss ++ [s], by simp [hl], fun i h => ?_⟩
        by_cases hi : i < ss.length
        · rw [List.getElem_append_left hi]
          exact hs i hi
        · have : i = len := by simp at h; omega
          subst this
          rw [List.getElem_append_right (by omega)]
          simpa [hl] using ⟨hq, hj⟩
    subst hlen
    refine ⟨ss, ⟨some x, cap, by rw [List.length_map], by rw [List.length_map]; exact hlc, by rw [List.length_map]; unfold maxLen at hcm; omega, by simp only [List.mem_map]; rintro r ⟨s, -, rfl⟩; exact hk s, fun h0 => ?_⟩, fun s hs => ?_⟩
    · rw [List.length_map] at h0
      have h00 := (hss 0 h0).2 0 hk0
      obtain ⟨b, off, spot⟩ := x
      have hsome : ∃ z, w.cell? ((Addr.mk b off spot).add (0 * k) |>.add 0) = some z := by
        rw [h00]
        exact ⟨_, List.getElem?_eq_getElem (by rw [hk]; exact hk0)⟩
      obtain ⟨z, hz⟩ := hsome
      have hspot : spot = none := by simpa [Addr.add] using World.cell?_spot hz
      subst hspot
      refine ⟨b, off, rfl, lt_of_cell (by simpa [Addr.add] using hz), fun j r hj i x hi => ?_⟩
      rw [List.getElem?_map, Option.map_eq_some_iff] at hj
      obtain ⟨s, hj, rfl⟩ := hj
      obtain ⟨hjl, rfl⟩ := List.getElem?_eq_some_iff.1 hj
      have hik : i < k := by
        have := (List.getElem?_eq_some_iff.1 hi).1
        rw [hk] at this
        exact this
      have := (hss j hjl).2 i hik
      rw [← hi, ← this, Go.Deep.add_add, Go.WideShapes.add_plain, Nat.add_assoc]
    · obtain ⟨i, hi, rfl⟩ := List.getElem_of_mem hs
      exact (hss i hi).1

theorem shape3 (n : Nat) (cs : List Value) (y : DataW H × List MemPlace) (h : DataW.trod enc Try.prog w base spare held n 3 cs = some y) : ∃ z : Int, cs = [.int .i64 z] ∧ True := by
  obtain ⟨z, hz, -, -⟩ := DataW.trod_int Try.underlying3 h
  exact ⟨z, hz, trivial⟩
theorem shape90 (n : Nat) (cs : List Value) (y : DataW H × List MemPlace) (h : DataW.trod enc Try.prog w base spare held n 90 cs = some y) : ∃ z : Int, cs = [.int .u16 z] ∧ 0 ≤ z ∧ z ≤ 65535 := by
  obtain ⟨z, hz, -, hw⟩ := DataW.trod_int Try.underlying90 h
  refine ⟨z, hz, ?_⟩
  rw [Lit.wf, show IntKind.min .u16 = 0 from rfl, show IntKind.max .u16 = 65535 from rfl, Bool.and_eq_true, decide_eq_true_eq, decide_eq_true_eq] at hw
  omega

/-- A field of a struct, read. -/
theorem field_of {n : Nat} {cs : List Value} {xs : List (DataW H × List MemPlace)} {fs : Array Field} (hl : xs.length = fs.size)
    (hf : ∀ (i : Nat) (f : Field), fs[i]? = some f → DataW.trod enc Try.prog w base spare held n f.type ((cs.drop f.offset).take (Try.prog.cellsOf f.type)) = xs[i]?) (i : Nat) (f : Field) (h : fs[i]? = some f) :
    ∃ y, DataW.trod enc Try.prog w base spare held n f.type ((cs.drop f.offset).take (Try.prog.cellsOf f.type)) = some y := by
  have hi := (Array.getElem?_eq_some_iff.1 h).1
  exact ⟨xs[i]'(by omega), (hf i f h).trans (List.getElem?_eq_getElem (by omega))⟩

theorem cells3 : Try.prog.cellsOf 3 = 1 := by kernel_rfl
theorem cells9 : Try.prog.cellsOf 9 = 1 := by kernel_rfl
theorem cells35 : Try.prog.cellsOf 35 = 2 := by kernel_rfl
theorem cells57 : Try.prog.cellsOf 57 = 3 := by kernel_rfl
theorem cells76 : Try.prog.cellsOf 76 = 4 := by kernel_rfl
theorem cells90 : Try.prog.cellsOf 90 = 1 := by kernel_rfl

theorem shape35 (n : Nat) (cs : List Value) (y : DataW H × List MemPlace) (h : DataW.trod enc Try.prog w base spare held n 35 cs = some y) : ∃ a b : Int, cs = [.int .i64 a, .int .i64 b] := by
  obtain ⟨xs, m, -, -, hlen, hxl, hf⟩ := DataW.trod_struct Try.underlying35 h
  rw [cells35] at hlen
  match cs, hlen with
  | [c0, c1], _ =>
    obtain ⟨_, h0⟩ := field_of hxl hf 0 ⟨ "Lo", 3, 0, false, "", "", 0⟩ rfl
    obtain ⟨_, h1⟩ := field_of hxl hf 1 ⟨ "Hi", 3, 1, false, "", "", 8⟩ rfl
    dsimp only at h0 h1
    rw [cells3] at h0 h1
    obtain ⟨a, ha, -⟩ := shape3 _ _ _ h0
    obtain ⟨b, hb, -⟩ := shape3 _ _ _ h1
    simp at ha hb
    exact ⟨a, b, by rw [ha, hb]⟩

theorem shape57 (n : Nat) (cs : List Value) (y : DataW H × List MemPlace) (h : DataW.trod enc Try.prog w base spare held n 57 cs = some y) : ∃ b : Bag, cs = b.row ∧ True := by
  obtain ⟨xs, m, -, -, hlen, hxl, hf⟩ := DataW.trod_struct Try.underlying57 h
  rw [cells57] at hlen
  match cs, hlen with
  | [c0, c1, c2], _ =>
    obtain ⟨_, h0⟩ := field_of hxl hf 0 ⟨ "Grams", 35, 0, false, "", "", 0⟩ rfl
    obtain ⟨_, h1⟩ := field_of hxl hf 1 ⟨ "Kinds", 3, 2, false, "", "", 16⟩ rfl
    dsimp only at h0 h1
    rw [cells35] at h0
    rw [cells3] at h1
    obtain ⟨a, b, ha⟩ := shape35 _ _ _ h0
    obtain ⟨c, hb, -⟩ := shape3 _ _ _ h1
    simp at ha hb
    exact ⟨⟨a, b, c⟩, by rw [ha.1, ha.2, hb]; rfl, trivial⟩

theorem shape76 (n : Nat) (cs : List Value) (y : DataW H × List MemPlace) (h : DataW.trod enc Try.prog w base spare held n 76 cs = some y) : ∃ s : Stp, cs = s.row ∧ s.name.size ≤ 9223372036854775807 := by
  obtain ⟨xs, m, -, -, hlen, hxl, hf⟩ := DataW.trod_struct Try.underlying76 h
  rw [cells76] at hlen
  match cs, hlen with
  | [c0, c1, c2, c3], _ =>
    obtain ⟨_, h0⟩ := field_of hxl hf 0 ⟨ "Name", 9, 0, false, "", "", 0⟩ rfl
    obtain ⟨_, h1⟩ := field_of hxl hf 1 ⟨ "Loss", 35, 1, false, "", "", 16⟩ rfl
    obtain ⟨_, h2⟩ := field_of hxl hf 2 ⟨ "Err", 3, 3, false, "", "", 32⟩ rfl
    dsimp only at h0 h1 h2
    rw [cells9] at h0
    rw [cells35] at h1
    rw [cells3] at h2
    obtain ⟨s, hs, -, hsz⟩ := DataW.trod_string Try.underlying9 h0
    obtain ⟨a, b, ha⟩ := shape35 _ _ _ h1
    obtain ⟨c, hb, -⟩ := shape3 _ _ _ h2
    simp at hs ha hb
    exact ⟨⟨s, a, b, c⟩, by rw [hs, ha.1, ha.2, hb]; rfl, by unfold maxLen at hsz; omega⟩

theorem open_bags {r : Reach} {b0 : Nat} {v : Value} {d : DataW H} {p : List MemPlace} (hv : Value.okWide Try.prog w r b0 47 v) (h : DataW.Trod enc Try.prog w base spare held 47 v d p) : ∃ bs : List Bag, Rd w 3 v (bagRows bs) := by
  obtain ⟨ss, hr, -⟩ := open_rows Bag.row (fun _ => True) Try.underlying47 cells57 (fun _ => rfl) (by decide) shape57 hv h
  exact ⟨ss, hr⟩
theorem open_ints3 {r : Reach} {b0 : Nat} {v : Value} {d : DataW H} {p : List MemPlace} (hv : Value.okWide Try.prog w r b0 25 v) (h : DataW.Trod enc Try.prog w base spare held 25 v d p) : ∃ zs : List Int, Rd w 1 v (ints zs) := by
  obtain ⟨ss, hr, -⟩ := open_rows (fun z : Int => [Value.int .i64 z]) (fun _ => True) Try.underlying25 cells3 (fun _ => rfl) (by decide) shape3 hv h
  exact ⟨ss, hr⟩

/-- Small numbers as rows of a cell. -/
def nums (zs : List Int) : List (List Value) := zs.map fun z => [.int .u16 z]
theorem open_nums {r : Reach} {b0 : Nat} {v : Value} {d : DataW H} {p : List MemPlace} (hv : Value.okWide Try.prog w r b0 60 v) (h : DataW.Trod enc Try.prog w base spare held 60 v d p) : ∃ zs : List Int, Rd w 1 v (nums zs) ∧ ∀ z ∈ zs, 0 ≤ z ∧ z ≤ 65535 :=
  open_rows (fun z : Int => [Value.int .u16 z]) (fun z => 0 ≤ z ∧ z ≤ 65535) Try.underlying60 cells90 (fun _ => rfl) (by decide) shape90 hv h

theorem open_sort {r : Reach} {b0 : Nat} {v : Value} {d : DataW H} {p : List MemPlace} (hv : Value.okWide Try.prog w r b0 46 v) (h : DataW.Trod enc Try.prog w base spare held 46 v d p) : ∃ a f : Int, v = .agg #[.int .i64 a, .int .i64 f] := by
  obtain ⟨c0, c1, y0, y1, m, rfl, -, -, h0, h1⟩ := open_agg2 Try.underlying46 (by kernel_rfl) (by kernel_rfl) hv h
  obtain ⟨a, ha, -⟩ := shape3 _ _ _ h0
  obtain ⟨b, hb, -⟩ := shape3 _ _ _ h1
  simp at ha hb
  exact ⟨a, b, by rw [ha, hb]⟩

end

end Go.Proofs.Ytnombgiacfeloaa
