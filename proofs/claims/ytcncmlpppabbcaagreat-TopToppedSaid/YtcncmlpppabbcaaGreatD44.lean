/- The law's arguments opened: a mould; a plan, grams and two rows of small numbers. Proved: the statement 'TopTopped', for any mould and plan, grams left in the can, and numbers of a truth, with no condition. -/
import Derived.Test.YtcncmlpppabbcaaGreatChecked
import Derived.Test.YtcncmlpppabbcaaGreatD2
import Derived.Test.YtcncmlpppabbcaaGreatD25
import Derived.ProofKit
import Derived.Carry
import Derived.Deep.Slices
import Derived.Lib.SmallJoins
import Derived.Test.YtcncmlpppabbcaaGreatRows
import Derived.Test.YtcncmlpppabbcaaGreatD42
import Derived.OpenShut
import Derived.ChangeOld
import Derived.Below
namespace Go.Proofs.YtcncmlpppabbcaaGreat
set_option linter.unusedVariables false
set_option linter.unusedSimpArgs false
open Go.ChangeShapes Go.WideShapes Go.ChangeAt Go.RowKit Go.Joins
set_option maxRecDepth 100000

theorem Tryz.own : ownKnob Tryz.prog.godebug = none := by kernel_rfl
theorem Tryz.laidOut : laidOutB Tryz.prog = true := by kernel_rfl

section
variable {H : Type} {enc : TypeId × Value → H} {w : World} {base : Nat} {spare : Nat → Bool} {held : Bool}

/-- A slice whose elements have a form reads as rows of this form. -/
theorem open_rows0 {α : Type} (row : α → List Value) (Q : α → Prop) {k t e : Nat} {v : Value} {d : DataW H} {p : List MemPlace} (ht : Tryz.prog.underlying t = some (.slice e)) (hC : Tryz.prog.cellsOf e = k) (hk : ∀ s, (row s).length = k) (hk0 : 0 < k)
    (hshape : ∀ n cs y, DataW.trod enc Tryz.prog w base spare held n e cs = some y → ∃ s, cs = row s ∧ Q s) (hv : ∃ a len cap, v = .slice a len cap) (h : DataW.Trod enc Tryz.prog w base spare held t v d p) :
    ∃ ss : List α, Rd w k v (ss.map row) ∧ ∀ s ∈ ss, Q s := by
  obtain ⟨a, len, cap, rfl⟩ := hv
  obtain ⟨fuel, hf⟩ := h
  rcases Go.Deep.open_slice ht hf with ⟨hcs, -⟩ | ⟨x, l, c, m, n, D, Pl, hcs, -, hlc, hcm, hm, -, hi⟩
  · simp [Value.cells] at hcs
    obtain ⟨rfl, rfl, rfl⟩ := hcs
    exact ⟨[], ⟨none, 0, rfl, by simp, by simp, by simp, fun h => by simp at h⟩, by simp⟩
  · simp [Value.cells] at hcs
    obtain ⟨rfl, rfl, rfl⟩ := hcs
    have hml : len ≤ m := by rw [hm]; split <;> omega
    have hex : ∀ i, i < len → ∃ s, Q s ∧ ∀ j, j < k → w.cell? ((x.add (i * k)).add j) = (row s)[j]? := by
      intro i hil
      obtain ⟨cs, hc, htr⟩ := hi i (by omega)
      obtain ⟨s, rfl, hq⟩ := hshape _ _ _ htr
      rw [hC] at hc
      obtain ⟨-, -, hat⟩ := World.cells?_some hc
      exact ⟨s, hq, hat⟩
    obtain ⟨ss, hlen, hss⟩ : ∃ ss : List α, ss.length = len ∧ ∀ i (h : i < ss.length), Q ss[i] ∧ ∀ j, j < k → w.cell? ((x.add (i * k)).add j) = (row ss[i])[j]? := by
      clear hm hml hlc hf hi
      induction len with
      | zero => exact ⟨[], rfl, fun i h => absurd h (Nat.not_lt_zero _)⟩
      | succ len ih =>
        obtain ⟨ss, hl, hs⟩ := ih (fun i hi => hex i (by omega))
        obtain ⟨s, hq, hj⟩ := hex len (by omega)
        refine ⟨ss ++ [s], by simp [hl], fun i h => ?_⟩
        by_cases hi : i < ss.length
        · rw [List.getElem_append_left hi]
          exact hs i hi
        · have : i = len := by simp at h; omega
          subst this
          rw [List.getElem_append_right (by omega)]
          simpa [hl] using ⟨hq, hj⟩
    subst hlen
    refine ⟨ss, ⟨some x, cap, by rw [List.length_map], by rw [List.length_map]; exact hlc, by rw [List.length_map]; unfold maxLen at hcm; omega, by simp only [List.mem_map]; rintro r ⟨s, -, rfl⟩; exact hk s, fun h0 => ?_⟩, fun s hs => ?_⟩
    · rw [List.length_map] at h0
      have h00 := (hss 0 h0).2 0 hk0
      obtain ⟨b, off, spot⟩ := x
      have hsome : ∃ z, w.cell? ((Addr.mk b off spot).add (0 * k) |>.add 0) = some z := by
        rw [h00]
        exact ⟨_, List.getElem?_eq_getElem (by rw [hk]; exact hk0)⟩
      obtain ⟨z, hz⟩ := hsome
      have hspot : spot = none := by simpa [Addr.add] using World.cell?_spot hz
      subst hspot
      refine ⟨b, off, rfl, lt_of_cell (by simpa [Addr.add] using hz), fun j r hj i x hi => ?_⟩
      rw [List.getElem?_map, Option.map_eq_some_iff] at hj
      obtain ⟨s, hj, rfl⟩ := hj
      obtain ⟨hjl, rfl⟩ := List.getElem?_eq_some_iff.1 hj
      have hik : i < k := by
        have := (List.getElem?_eq_some_iff.1 hi).1
        rw [hk] at this
        exact this
      have := (hss j hjl).2 i hik
      rw [← hi, ← this, Go.Deep.add_add, Go.WideShapes.add_plain, Nat.add_assoc]
    · obtain ⟨i, hi, rfl⟩ := List.getElem_of_mem hs
      exact (hss i hi).1

theorem open_rows {α : Type} (row : α → List Value) (Q : α → Prop) {k t e : Nat} {r : Reach} {b0 : Nat} {v : Value} {d : DataW H} {p : List MemPlace} (ht : Tryz.prog.underlying t = some (.slice e)) (hC : Tryz.prog.cellsOf e = k) (hk : ∀ s, (row s).length = k) (hk0 : 0 < k)
    (hshape : ∀ n cs y, DataW.trod enc Tryz.prog w base spare held n e cs = some y → ∃ s, cs = row s ∧ Q s) (hv : Value.okWide Tryz.prog w r b0 t v) (h : DataW.Trod enc Tryz.prog w base spare held t v d p) :
    ∃ ss : List α, Rd w k v (ss.map row) ∧ ∀ s ∈ ss, Q s :=
  open_rows0 row Q ht hC hk hk0 hshape (okWide_slice ht hv) h

theorem shape3 (n : Nat) (cs : List Value) (y : DataW H × List MemPlace) (h : DataW.trod enc Tryz.prog w base spare held n 3 cs = some y) : ∃ z : Int, cs = [.int .i64 z] ∧ True := by
  obtain ⟨z, hz, -, -⟩ := DataW.trod_int Tryz.underlying3 h
  exact ⟨z, hz, trivial⟩
theorem shape27 (n : Nat) (cs : List Value) (y : DataW H × List MemPlace) (h : DataW.trod enc Tryz.prog w base spare held n 27 cs = some y) : ∃ z : Int, cs = [.int .u16 z] ∧ 0 ≤ z ∧ z ≤ 65535 := by
  obtain ⟨z, hz, -, hw⟩ := DataW.trod_int Tryz.underlying27 h
  refine ⟨z, hz, ?_⟩
  rw [Lit.wf, show IntKind.min .u16 = 0 from rfl, show IntKind.max .u16 = 65535 from rfl, Bool.and_eq_true, decide_eq_true_eq, decide_eq_true_eq] at hw
  omega

/-- A field of a struct, read. -/
theorem field_of {n : Nat} {cs : List Value} {xs : List (DataW H × List MemPlace)} {fs : Array Field} (hl : xs.length = fs.size)
    (hf : ∀ (i : Nat) (f : Field), fs[i]? = some f → DataW.trod enc Tryz.prog w base spare held n f.type ((cs.drop f.offset).take (Tryz.prog.cellsOf f.type)) = xs[i]?) (i : Nat) (f : Field) (h : fs[i]? = some f) :
    ∃ y, DataW.trod enc Tryz.prog w base spare held n f.type ((cs.drop f.offset).take (Tryz.prog.cellsOf f.type)) = some y := by
  have hi := (Array.getElem?_eq_some_iff.1 h).1
  exact ⟨xs[i]'(by omega), (hf i f h).trans (List.getElem?_eq_getElem (by omega))⟩

theorem cells3a : Tryz.prog.cellsOf 3 = 1 := by kernel_rfl
theorem cells23a : Tryz.prog.cellsOf 23 = 2 := by kernel_rfl
theorem cells25a : Tryz.prog.cellsOf 25 = 12 := by kernel_rfl
theorem cells26a : Tryz.prog.cellsOf 26 = 1 := by kernel_rfl
theorem cells27a : Tryz.prog.cellsOf 27 = 1 := by kernel_rfl
theorem cells28a : Tryz.prog.cellsOf 28 = 1 := by kernel_rfl
theorem cells30a : Tryz.prog.cellsOf 30 = 2 := by kernel_rfl
theorem cells32a : Tryz.prog.cellsOf 32 = 4 := by kernel_rfl

theorem shape23 (n : Nat) (cs : List Value) (y : DataW H × List MemPlace) (h : DataW.trod enc Tryz.prog w base spare held n 23 cs = some y) : ∃ a b : Int, cs = [.int .i64 a, .int .i64 b] := by
  obtain ⟨xs, m, -, -, hlen, hxl, hf⟩ := DataW.trod_struct Tryz.underlying23 h
  rw [cells23a] at hlen
  match cs, hlen with
  | [c0, c1], _ =>
    obtain ⟨_, h0⟩ := field_of hxl hf 0 ⟨ "Lo", 3, 0, false, "", "", 0⟩ rfl
    obtain ⟨_, h1⟩ := field_of hxl hf 1 ⟨ "Hi", 3, 1, false, "", "", 8⟩ rfl
    dsimp only at h0 h1
    rw [cells3a] at h0 h1
    obtain ⟨a, ha, -⟩ := shape3 _ _ _ h0
    obtain ⟨b, hb, -⟩ := shape3 _ _ _ h1
    simp at ha hb
    exact ⟨a, b, by rw [ha, hb]⟩

theorem okSlice {t e : Nat} {cs : List Value} {y : DataW H × List MemPlace} {n : Nat} (ht : Tryz.prog.underlying t = some (.slice e)) (h : DataW.trod enc Tryz.prog w base spare held n t cs = some y) : ∃ a len cap, cs = [.slice a len cap] := by
  rcases Go.Deep.open_slice ht h with ⟨hcs, -⟩ | ⟨x, l, c, m, n', D, Pl, hcs, -⟩
  · exact ⟨_, _, _, hcs⟩
  · exact ⟨_, _, _, hcs⟩

/-- A slice of numbers, of small numbers, that lies in a field. -/
theorem ints_in {cs : List Value} {y : DataW H × List MemPlace} {n : Nat} (h : DataW.trod enc Tryz.prog w base spare held n 26 cs = some y) : ∃ v zs, cs = [v] ∧ Rd w 1 v (ints zs) := by
  obtain ⟨a, len, cap, rfl⟩ := okSlice Tryz.underlying26 h
  have ht : DataW.Trod enc Tryz.prog w base spare held 26 (.slice a len cap) y.1 y.2 := ⟨n, h⟩
  obtain ⟨zs, hr, -⟩ := open_rows0 (fun z : Int => [Value.int .i64 z]) (fun _ => True) Tryz.underlying26 cells3a (fun _ => rfl) (by decide) shape3 ⟨_, _, _, rfl⟩ ht
  exact ⟨_, zs, rfl, hr⟩
theorem us_in {cs : List Value} {y : DataW H × List MemPlace} {n : Nat} (h : DataW.trod enc Tryz.prog w base spare held n 28 cs = some y) : ∃ v zs, cs = [v] ∧ Rd w 1 v (us zs) ∧ ∀ z ∈ zs, 0 ≤ z ∧ z ≤ 65535 := by
  obtain ⟨a, len, cap, rfl⟩ := okSlice Tryz.underlying28 h
  have ht : DataW.Trod enc Tryz.prog w base spare held 28 (.slice a len cap) y.1 y.2 := ⟨n, h⟩
  obtain ⟨zs, hr, hb⟩ := open_rows0 (fun z : Int => [Value.int .u16 z]) (fun z => 0 ≤ z ∧ z ≤ 65535) Tryz.underlying28 cells27a (fun _ => rfl) (by decide) shape27 ⟨_, _, _, rfl⟩ ht
  exact ⟨_, zs, rfl, hr, hb⟩
theorem shape30 (n : Nat) (cs : List Value) (y : DataW H × List MemPlace) (h : DataW.trod enc Tryz.prog w base spare held n 30 cs = some y) :
    ∃ pv xs wv ys, cs = [pv, wv] ∧ Rd w 1 pv (us xs) ∧ (∀ z ∈ xs, 0 ≤ z ∧ z ≤ 65535) ∧ Rd w 1 wv (us ys) ∧ ∀ z ∈ ys, 0 ≤ z ∧ z ≤ 65535 := by
  obtain ⟨xs, m, -, -, hlen, hxl, hf⟩ := DataW.trod_struct Tryz.underlying30 h
  rw [cells30a] at hlen
  match cs, hlen with
  | [c0, c1], _ =>
    obtain ⟨_, h0⟩ := field_of hxl hf 0 ⟨ "Pour", 28, 0, false, "", "", 0⟩ rfl
    obtain ⟨_, h1⟩ := field_of hxl hf 1 ⟨ "Wall", 28, 1, false, "", "", 24⟩ rfl
    dsimp only at h0 h1
    rw [cells28a] at h0 h1
    obtain ⟨pv, zs, e0, a1, a2⟩ := us_in h0
    obtain ⟨wv, us', e1, b1, b2⟩ := us_in h1
    simp at e0 e1
    subst e0 e1
    exact ⟨_, zs, _, us', rfl, a1, a2, b1, b2⟩

theorem open_mo {r : Reach} {b0 : Nat} {v : Value} {d : DataW H} {p : List MemPlace} (hv : Value.okWide Tryz.prog w r b0 25 v) (h : DataW.Trod enc Tryz.prog w base spare held 25 v d p) : ∃ m : Mo, v = .agg m.cells := by
  obtain ⟨cs, rfl, hsz⟩ := okWide_struct Tryz.underlying25 hv
  rw [cells25a] at hsz
  obtain ⟨fuel, hf⟩ := h
  obtain ⟨xs, m, -, -, hlen, hxl, hg⟩ := DataW.trod_struct Tryz.underlying25 hf
  obtain ⟨l⟩ := cs
  simp only [List.size_toArray] at hsz
  simp only [Value.cells] at hg
  match l, hsz with
  | [c0, c1, c2, c3, c4, c5, c6, c7, c8, c9, c10, c11], _ =>
    obtain ⟨_, h0⟩ := field_of hxl hg 0 ⟨ "Rings", 3, 0, false, "", "", 0⟩ rfl
    obtain ⟨_, h1⟩ := field_of hxl hg 1 ⟨ "Give", 3, 1, false, "", "", 8⟩ rfl
    obtain ⟨_, h2⟩ := field_of hxl hg 2 ⟨ "Pour", 23, 2, false, "", "", 16⟩ rfl
    obtain ⟨_, h3⟩ := field_of hxl hg 3 ⟨ "Wall", 23, 4, false, "", "", 32⟩ rfl
    obtain ⟨_, h4⟩ := field_of hxl hg 4 ⟨ "Set", 3, 6, false, "", "", 48⟩ rfl
    obtain ⟨_, h5⟩ := field_of hxl hg 5 ⟨ "Shrink", 3, 7, false, "", "", 56⟩ rfl
    obtain ⟨_, h6⟩ := field_of hxl hg 6 ⟨ "Skin", 3, 8, false, "", "", 64⟩ rfl
    obtain ⟨_, h7⟩ := field_of hxl hg 7 ⟨ "Fill", 3, 9, false, "", "", 72⟩ rfl
    obtain ⟨_, h8⟩ := field_of hxl hg 8 ⟨ "Gap", 3, 10, false, "", "", 80⟩ rfl
    obtain ⟨_, h9⟩ := field_of hxl hg 9 ⟨ "Deep", 3, 11, false, "", "", 88⟩ rfl
    dsimp only at h0 h1 h2 h3 h4 h5 h6 h7 h8 h9
    rw [cells3a] at h0 h1 h4 h5 h6 h7 h8 h9
    rw [cells23a] at h2 h3
    obtain ⟨z0, e0, -⟩ := shape3 _ _ _ h0
    obtain ⟨z1, e1, -⟩ := shape3 _ _ _ h1
    obtain ⟨z2, z3, e2⟩ := shape23 _ _ _ h2
    obtain ⟨z4, z5, e3⟩ := shape23 _ _ _ h3
    obtain ⟨z6, e4, -⟩ := shape3 _ _ _ h4
    obtain ⟨z7, e5, -⟩ := shape3 _ _ _ h5
    obtain ⟨z8, e6, -⟩ := shape3 _ _ _ h6
    obtain ⟨z9, e7, -⟩ := shape3 _ _ _ h7
    obtain ⟨z10, e8, -⟩ := shape3 _ _ _ h8
    obtain ⟨z11, e9, -⟩ := shape3 _ _ _ h9
    simp at e0 e1 e2 e3 e4 e5 e6 e7 e8 e9
    obtain ⟨rfl, rfl⟩ := e2
    obtain ⟨rfl, rfl⟩ := e3
    subst e0 e1 e4 e5 e6 e7 e8 e9
    exact ⟨⟨z0, z1, z2, z3, z4, z5, z6, z7, z8, z9, z10, z11⟩, rfl⟩

theorem open_topped {r : Reach} {b0 : Nat} {v : Value} {d : DataW H} {p : List MemPlace} (hv : Value.okWide Tryz.prog w r b0 32 v) (h : DataW.Trod enc Tryz.prog w base spare held 32 v d p) :
    ∃ (pl : Value) (plan : List Int) (rest : Int) (pv : Value) (xs : List Int) (wv : Value) (ys : List Int), v = .agg #[pl, .int .u16 rest, pv, wv] ∧ Rd w 1 pl (ints plan) ∧ (0 ≤ rest ∧ rest ≤ 65535) ∧ Rd w 1 pv (us xs) ∧ (∀ z ∈ xs, 0 ≤ z ∧ z ≤ 65535) ∧ Rd w 1 wv (us ys) ∧ ∀ z ∈ ys, 0 ≤ z ∧ z ≤ 65535 := by
  obtain ⟨cs, rfl, hsz⟩ := okWide_struct Tryz.underlying32 hv
  rw [cells32a] at hsz
  obtain ⟨fuel, hf⟩ := h
  obtain ⟨xs, m, -, -, hlen, hxl, hg⟩ := DataW.trod_struct Tryz.underlying32 hf
  obtain ⟨l⟩ := cs
  simp only [List.size_toArray] at hsz
  simp only [Value.cells] at hg
  match l, hsz with
  | [c0, c1, c2, c3], _ =>
    obtain ⟨_, h0⟩ := field_of hxl hg 0 ⟨ "Plan", 26, 0, false, "", "", 0⟩ rfl
    obtain ⟨_, h1⟩ := field_of hxl hg 1 ⟨ "Rest", 27, 1, false, "", "", 24⟩ rfl
    obtain ⟨_, h2⟩ := field_of hxl hg 2 ⟨ "Truth", 30, 2, false, "", "", 32⟩ rfl
    dsimp only at h0 h1 h2
    rw [cells26a] at h0
    rw [cells27a] at h1
    rw [cells30a] at h2
    obtain ⟨pl, plan, e0, a1⟩ := ints_in h0
    obtain ⟨rest, e1, b1, b2⟩ := shape27 _ _ _ h1
    obtain ⟨pv, zs, wv, us', e2, d1, d2, d3, d4⟩ := shape30 _ _ _ h2
    simp at e0 e1 e2
    obtain ⟨rfl, rfl⟩ := e2
    subst e0 e1
    exact ⟨_, plan, rest, _, zs, _, us', rfl, a1, ⟨b1, b2⟩, d1, d2, d3, d4⟩

end

end Go.Proofs.YtcncmlpppabbcaaGreat

namespace Go.Proofs.YtcncmlpppabbcaaGreat
set_option linter.unusedVariables false
set_option linter.unusedSimpArgs false
open Go.ChangeShapes Go.WideShapes Go.ChangeAt Go.RowKit
set_option linter.unusedVariables false

theorem top_law (m : Mo) (pl : Value) (plan : List Int) (rest : Int) (pv : Value) (xs : List Int) (wv : Value) (ys : List Int) (w : World) (hp : Rd w 1 pl (ints plan)) (hrest : 0 ≤ rest ∧ rest ≤ 65535)
    (hpv : Rd w 1 pv (us xs)) (hx : ∀ x ∈ xs, 0 ≤ x ∧ x ≤ 65535) (hwv : Rd w 1 wv (us ys)) (hy : ∀ x ∈ ys, 0 ≤ x ∧ x ≤ 65535) :
    Calls Tryz.prog 3 #[.agg m.cells, .agg #[pl, .int .u16 rest, pv, wv]] w fun e w' => e = .returned (.bool true) ∧ Below w.heap.size w w' := by
  by_cases h : chkM m = 0
  · by_cases hh : hollowP m plan
    · exact top_ok m h pl plan hh rest hrest xs ys hx hy pv wv w hp hpv hwv
    · refine top_err m pl plan rest pv wv w hp fun W hW => (hollow_ok m h plan pl W hW).mono fun e w' q => ⟨?_, q.2⟩
      rcases q.1 with ⟨h1, -⟩ | ⟨-, c, hc, he⟩
      · exact absurd h1 hh
      · exact ⟨c, hc, he⟩
  · exact top_err m pl plan rest pv wv w hp fun W _ => (hollow_no m pl W h).mono fun e w' q => ⟨⟨chkM m, h, q.1⟩, q.2⟩

set_option maxRecDepth 100000 in
theorem topTopped_lifted (os : Os) (started : os.Started) (H : Type) (enc : TypeId × Value → H) :
    ReturnsInHanded {} Tryz.checked os 3 .any (Rows.topToppedSpec.pre6 enc Tryz.prog Tryz.f3 Rows.topToppedRow.domain false) (Rows.topToppedSpec.post enc Tryz.prog Tryz.f3 false true false false) := by
  refine returnsInHanded_of_change (C := Tryz.checked) Tryz.own started (by kernel_rfl) Tryz.func3
    (ChangeSpec.witness6 (enc := enc) (C := Tryz.checked) false ⟨#[], #[.agg #[.int .i64 0, .int .i64 0, .int .i64 0, .int .i64 0, .int .i64 0, .int .i64 0, .int .i64 0, .int .i64 0, .int .i64 0, .int .i64 0, .int .i64 0, .int .i64 0], .agg #[.slice none 0 0, .int .u16 0, .slice none 0 0, .slice none 0 0]], []⟩ 8 (by kernel_rfl) (by kernel_rfl) (by kernel_rfl) (by kernel_rfl)) ?_
  intro W base args ds gs before hval0 hW hcnd _
  have hval : ∀ (j : Nat) t v, Tryz.f3.params[j]? = some t → args[j]? = some v → Value.okWide Tryz.prog W .any base t v := hval0
  have hW' := hW
  obtain ⟨p, q, hA0, hV, rfl, hfz, hnd⟩ := hW
  have hA : DataW.TrodAll enc Tryz.prog W 0 (fun _ => true) true Tryz.f3.params.toList args.toList ds p := hA0
  rw [Tryz.params3] at hA hval
  obtain ⟨v0, vs0, d0, ds0, p0, q0, hargs, rfl, rfl, h0, r0⟩ := trodAll_cons hA
  obtain ⟨v1, vs1, d1, ds1, p1, q1, rfl, rfl, rfl, h1, r1⟩ := trodAll_cons r0
  obtain ⟨rfl, rfl, rfl⟩ := trodAll_nil r1
  obtain rfl : args = #[v0, v1] := by cases args; simp_all
  obtain ⟨rfl, rfl⟩ := trodVars_none hV
  have k0 := h0
  have lt0 : ∀ x ∈ p0, x.block < W.heap.size := by obtain ⟨m, hm⟩ := k0; exact DataW.trod_lt m _ _ _ hm
  have k1 := h1
  have lt1 : ∀ x ∈ p1, x.block < W.heap.size := by obtain ⟨m, hm⟩ := k1; exact DataW.trod_lt m _ _ _ hm
  obtain ⟨m, rfl⟩ := open_mo (hval 0 25 v0 rfl rfl) h0
  obtain ⟨pl, plan, rest, pv, xs, wv, ys, rfl, hp, hrest, hpv, hx, hwv, hy⟩ := open_topped (hval 1 32 v1 rfl rfl) h1
  clear hA0 hval0
  refine (top_law m pl plan rest pv xs wv ys W hp hrest hpv hx hwv hy).mono fun e W' ⟨he, bel⟩ => ?_
  subst he
  exact ⟨_, rfl, _, _, _, [], _, [], hW', trodAll_mk1 (shut_bool Tryz.underlying4 _), (trodAll_cons_mk (Below.trod Tryz.laidOut (by kernel_rfl) (of_decide_eq_true (by kernel_rfl)) k0 bel lt0) (trodAll_cons_mk (Below.trod Tryz.laidOut (by kernel_rfl) (of_decide_eq_true (by kernel_rfl)) k1 bel lt1) trodAll_mk0)), rfl, bel.frame _, fun h => by cases h⟩

/-- THE STATEMENT. -/
theorem topTopped_holds : Rows.TopToppedSaid :=
  OpenClaim.holds_of_wide 3 Tryz.f3 rfl rfl rfl rfl rfl rfl rfl ⟨rfl, rfl, rfl, rfl, rfl⟩ rfl rfl rfl rfl rfl (by kernel_rfl) Tryz.func3 (by kernel_rfl)
    (of_decide_eq_true (by kernel_rfl)) (by unfold Func.isWrapper; first | (rw [if_pos (by decide +kernel)]; kernel_rfl) | (rw [if_neg (by decide +kernel)]; exact ⟨rfl, rfl⟩))
    (fun os started H enc _ => topTopped_lifted os started H enc)

#print axioms topTopped_holds

end Go.Proofs.YtcncmlpppabbcaaGreat
