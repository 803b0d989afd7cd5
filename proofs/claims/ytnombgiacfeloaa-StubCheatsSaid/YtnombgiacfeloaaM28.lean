/- Plain facts: a table of rows of numbers in the call's own memory: how it is built, read and written. No program is in sight. -/
import Derived.Test.YtnombgiacfeloaaM27
import Derived.Test.YtnombgiacfeloaaA1
import Derived.Laws.OwnMore
namespace Go.Proofs.Ytnombgiacfeloaa
set_option linter.unusedVariables false
set_option linter.unusedSimpArgs false
open Go.RowKit

theorem info25z : (Try.prog.info? 25).map (fun i => (i.zero, i.size, i.bytes)) = some (some (.slice none 0 0), 1, 24) := by kernel_rfl
theorem info3z : (Try.prog.info? 3).map (fun i => (i.zero, i.size, i.bytes)) = some (some (.int .i64 0), 1, 8) := by kernel_rfl

theorem ownsBw {w w' : World} {base : Nat} {e : TypeId} {size n : Nat} {v : Value} {xs : List Value} (h : w.ownsRow base e size v n xs) (hb : Below w.heap.size w w') : w'.ownsRow base e size v n xs := by
  refine ⟨h.1, ?_⟩
  rcases h.2 with hn | ⟨g, cap, cur, rfl, hbg, hgg, rest⟩
  · exact .inl hn
  · refine .inr ⟨g, cap, cur, rfl, hbg, ?_, rest⟩
    rw [hb.block g (Array.getElem?_eq_some_iff.1 hgg).1]
    exact hgg

theorem ownsOther {w : World} {base : Nat} {e : TypeId} {size n : Nat} {v : Value} {xs : List Value} (h : w.ownsRow base e size v n xs) {b o : Nat} (hne : v.ownBlock ≠ some b) (u : Value) : (w.setCell ⟨b, o, none⟩ u).ownsRow base e size v n xs := by
  refine ⟨h.1, ?_⟩
  rcases h.2 with hn | ⟨g, cap, cur, rfl, hbg, hgg, rest⟩
  · exact .inl hn
  · refine .inr ⟨g, cap, cur, rfl, hbg, ?_, rest⟩
    rw [heap_setCell_ne (fun e => hne (by simp [Value.ownBlock, e]))]
    exact hgg

/-- A row of numbers and a row of rows lie in two blocks. -/
theorem owns_ne {w : World} {b1 b2 s1 s2 n1 n2 : Nat} {e1 e2 : TypeId} {v1 v2 : Value} {x1 x2 : List Value} (h1 : w.ownsRow b1 e1 s1 v1 n1 x1) (h2 : w.ownsRow b2 e2 s2 v2 n2 x2) (he : e1 ≠ e2) {g : Nat} (hg : v1.ownBlock = some g) : v2.ownBlock ≠ some g := by
  rcases h1.2 with ⟨rfl, -⟩ | ⟨g1, cap1, cur1, rfl, -, hh1, -⟩
  · simp [Value.ownBlock] at hg
  · rcases h2.2 with ⟨rfl, -⟩ | ⟨g2, cap2, cur2, rfl, -, hh2, -⟩
    · simp [Value.ownBlock]
    · simp only [Value.ownBlock, Option.some.injEq] at hg ⊢
      subst hg
      intro he2
      obtain rfl : g2 = g1 := by simpa using he2
      rw [hh1] at hh2
      simp only [Option.some.injEq, Obj.cells.injEq] at hh2
      exact he hh2.2.1

/-- The numbers of a row. -/
def rowVals (f : Nat → Int) (m : Nat) : List Value := (valsTo f m).map (Value.int .i64)
theorem rowVals_len (f : Nat → Int) (m : Nat) : (rowVals f m).length = m := by simp [rowVals, valsTo_len]
theorem rowVals_get? (f : Nat → Int) (m i : Nat) (h : i < m) : (rowVals f m)[i]? = some (.int .i64 (f i)) := by
  unfold rowVals
  rw [List.getElem?_map, valsTo_get? _ _ _ h]
  rfl
theorem rowVals_succ (f : Nat → Int) (m : Nat) : rowVals f (m + 1) = rowVals f m ++ [.int .i64 (f m)] := by
  unfold rowVals
  rw [valsTo_succ, List.map_append]
  rfl
theorem rowVals_congr {f g : Nat → Int} {m : Nat} (h : ∀ i, i < m → f i = g i) : rowVals f m = rowVals g m := by
  apply List.ext_getElem?
  intro i
  by_cases hi : i < m
  · rw [rowVals_get? _ _ _ hi, rowVals_get? _ _ _ hi, h i hi]
  · rw [List.getElem?_eq_none (by rw [rowVals_len]; omega), List.getElem?_eq_none (by rw [rowVals_len]; omega)]

/-- The rows of a table: row a lies in block R a. -/
def rowPtrs (R C : Nat → Nat) (m n : Nat) : List Value := (List.range n).map fun a => .slice (some ⟨R a, 0, none⟩) m (C a)
theorem rowPtrs_len (R C : Nat → Nat) (m n : Nat) : (rowPtrs R C m n).length = n := by simp [rowPtrs]
theorem rowPtrs_get? (R C : Nat → Nat) (m n i : Nat) (h : i < n) : (rowPtrs R C m n)[i]? = some (.slice (some ⟨R i, 0, none⟩) m (C i)) := by simp [rowPtrs, h]

/-- The first i rows of a table, and the row of them. -/
structure Mats (w : World) (base : Nat) (v : Value) (i m : Nat) (R C : Nat → Nat) (M : Tab) : Prop where
  out : w.ownsRow base 25 1 v i (rowPtrs R C m i)
  row : ∀ a, a < i → w.ownsRow base 3 1 (.slice (some ⟨R a, 0, none⟩) m (C a)) m (rowVals (M a) m)
  inj : ∀ a b, a < i → b < i → R a = R b → a = b

theorem Mats.nil0 (w : World) (base m : Nat) (R C : Nat → Nat) (M : Tab) : Mats w base (.slice none 0 0) 0 m R C M :=
  ⟨World.ownsRow_nil _ _ _ _, fun a h => by omega, fun a b h => by omega⟩

theorem Mats.below {w w' : World} {base i m : Nat} {v : Value} {R C : Nat → Nat} {M : Tab} (h : Mats w base v i m R C M) (hb : Below w.heap.size w w') : Mats w' base v i m R C M :=
  ⟨ownsBw h.out hb, fun a ha => ownsBw (h.row a ha) hb, h.inj⟩

theorem Mats.lt {w : World} {base i m : Nat} {v : Value} {R C : Nat → Nat} {M : Tab} (h : Mats w base v i m R C M) (a : Nat) (ha : a < i) : base ≤ R a ∧ R a < w.heap.size := (h.row a ha).lt (R a) rfl

/-- One row more. -/
theorem Mats.push {w w1 w2 : World} {base i m b c : Nat} {v v' : Value} {R C : Nat → Nat} {M : Tab} (h : Mats w base v i m R C M) (hb : Below w.heap.size w w1) (hw : w.heap.size ≤ b)
    (hrow : w1.ownsRow base 3 1 (.slice (some ⟨b, 0, none⟩) m c) m (rowVals (M i) m)) (hg : w1.grownBy w2 v.ownBlock) (ho : w2.ownsRow base 25 1 v' (i + 1) (rowPtrs R C m i ++ [.slice (some ⟨b, 0, none⟩) m c])) :
    Mats w2 base v' (i + 1) m (fun a => if a = i then b else R a) (fun a => if a = i then c else C a) M := by
  have h1 := h.below hb
  refine ⟨?_, fun a ha => ?_, fun a a' ha ha' => ?_⟩
  · have e : rowPtrs (fun a => if a = i then b else R a) (fun a => if a = i then c else C a) m (i + 1) = rowPtrs R C m i ++ [.slice (some ⟨b, 0, none⟩) m c] := by
      unfold rowPtrs
      rw [List.range_succ, List.map_append]
      congr 1
      · apply List.map_congr_left
        intro a ha
        have := List.mem_range.1 ha
        simp only []
        rw [if_neg (by omega), if_neg (by omega)]
      · simp
    rw [e]
    exact ho
  · by_cases e : a = i
    · subst e
      rw [if_pos rfl, if_pos rfl]
      exact hrow.kept hg (.inr (fun hv => owns_ne hrow h1.out (by decide) rfl hv.symm))
    · rw [if_neg e, if_neg e]
      exact (h1.row a (by omega)).kept hg (.inr (fun hv => owns_ne (h1.row a (by omega)) h1.out (by decide) rfl hv.symm))
  · by_cases e : a = i
    · by_cases e' : a' = i
      · intro _; omega
      · rw [if_pos e, if_neg e']
        have := (h.lt a' (by omega)).2
        intro hx
        omega
    · by_cases e' : a' = i
      · rw [if_neg e, if_pos e']
        have := (h.lt a (by omega)).2
        intro hx
        omega
      · rw [if_neg e, if_neg e']
        exact h.inj a a' (by omega) (by omega)

/-- A whole table. -/
theorem Mats.form {w : World} {base m : Nat} {v : Value} {R C : Nat → Nat} {M : Tab} (h : Mats w base v m m R C M) (hm : 0 < m) : ∃ g c, v = .slice (some ⟨g, 0, none⟩) m c := by
  rcases h.out.2 with ⟨rfl, h0⟩ | ⟨g, cap, cur, rfl, -⟩
  · omega
  · exact ⟨g, cap, rfl⟩

theorem Mats.ptr {w : World} {base m g c : Nat} {R C : Nat → Nat} {M : Tab} (h : Mats w base (.slice (some ⟨g, 0, none⟩) m c) m m R C M) (a : Nat) (ha : a < m) : w.cell? ⟨g, a, none⟩ = some (.slice (some ⟨R a, 0, none⟩) m (C a)) := by
  rw [h.out.cellAt a (by omega), rowPtrs_get? _ _ _ _ _ ha]

theorem Mats.cell {w : World} {base i m : Nat} {v : Value} {R C : Nat → Nat} {M : Tab} (h : Mats w base v i m R C M) (a b : Nat) (ha : a < i) (hb : b < m) : w.cell? ⟨R a, b, none⟩ = some (.int .i64 (M a b)) := by
  rw [(h.row a ha).cellAt b (by omega), rowVals_get? _ _ _ hb]

theorem Mats.frozen {w : World} {base i m : Nat} {v : Value} {R C : Nat → Nat} {M : Tab} (h : Mats w base v i m R C M) (a o : Nat) (ha : a < i) : w.frozen? ⟨R a, o, none⟩ = false := (h.row a ha).frozenAt o

theorem rowVals_set (f : Nat → Int) (m k : Nat) (x : Int) (hk : k < m) : (rowVals f m).set k (.int .i64 x) = rowVals (fun b => if b = k then x else f b) m := by
  apply List.ext_getElem?
  intro i
  by_cases hi : i < m
  · rw [rowVals_get? _ _ _ hi]
    by_cases e : k = i
    · subst e
      rw [List.getElem?_set_self (by rw [rowVals_len]; exact hk), if_pos rfl]
    · rw [List.getElem?_set_ne e, rowVals_get? _ _ _ hi, if_neg (fun h => e h.symm)]
  · rw [List.getElem?_eq_none (by rw [List.length_set, rowVals_len]; omega), List.getElem?_eq_none (by rw [rowVals_len]; omega)]

/-- One number is written. -/
theorem Mats.set {w : World} {base m : Nat} {v : Value} {R C : Nat → Nat} {M : Tab} (h : Mats w base v m m R C M) (i k : Nat) (hi : i < m) (hk : k < m) (x : Int) : Mats (w.setCell ⟨R i, k, none⟩ (.int .i64 x)) base v m m R C (put M i k x) := by
  refine ⟨ownsOther h.out (owns_ne (h.row i hi) h.out (by decide) rfl) _, fun a ha => ?_, h.inj⟩
  by_cases e : a = i
  · subst e
    have := ((h.row a ha).stored k (.int .i64 x)).1
    rw [rowVals_set _ _ _ _ hk] at this
    rw [show rowVals (put M a k x a) m = rowVals (fun b => if b = k then x else M a b) m from rowVals_congr fun b _ => by unfold put; by_cases e : b = k <;> simp [e]]
    exact this
  · rw [show rowVals (put M i k x a) m = rowVals (M a) m from rowVals_congr fun b _ => by unfold put; rw [if_neg (fun h => e h.1)]]
    exact ownsOther (h.row a ha) (fun he => e (h.inj a i ha hi (by simpa [Value.ownBlock] using he))) _

theorem Mats.congr {w : World} {base i m : Nat} {v : Value} {R C : Nat → Nat} {M N : Tab} (h : Mats w base v i m R C M) (e : ∀ a b, a < i → b < m → M a b = N a b) : Mats w base v i m R C N :=
  ⟨h.out, fun a ha => by rw [← rowVals_congr (fun b hb => e a b ha hb)]; exact h.row a ha, h.inj⟩

/-- What it reads as: rows that read as numbers. -/
structure RdTab (w : World) (v : Value) (m : Nat) (M : Tab) (g : Nat) (R C : Nat → Nat) : Prop where
  form : ∃ c, v = .slice (some ⟨g, 0, none⟩) m c
  ptr : ∀ a, a < m → w.cell? ⟨g, a, none⟩ = some (.slice (some ⟨R a, 0, none⟩) m (C a))
  cell : ∀ a b, a < m → b < m → w.cell? ⟨R a, b, none⟩ = some (.int .i64 (M a b))

theorem Mats.rd {w : World} {base m : Nat} {v : Value} {R C : Nat → Nat} {M : Tab} (h : Mats w base v m m R C M) (hm : 0 < m) : ∃ g, RdTab w v m M g R C := by
  obtain ⟨g, c, rfl⟩ := h.form hm
  exact ⟨g, ⟨c, rfl⟩, h.ptr, fun a b ha hb => h.cell a b ha hb⟩

theorem RdTab.below {w w' : World} {v : Value} {m g : Nat} {M : Tab} {R C : Nat → Nat} (h : RdTab w v m M g R C) (hb : Below w.heap.size w w') : RdTab w' v m M g R C :=
  ⟨h.form, fun a ha => keep hb (h.ptr a ha), fun a b ha hb' => keep hb (h.cell a b ha hb')⟩

end Go.Proofs.Ytnombgiacfeloaa
