/- Plain facts: blocks that are known whole. No program is in sight. -/
import Derived.Test.YtnombgiacfeloaaM1
namespace Go.Proofs.Ytnombgiacfeloaa
set_option linter.unusedVariables false
set_option linter.unusedSimpArgs false
open Go.RowKit

theorem owns_block {w : World} {base e g n : Nat} {xs : List Value} (h : w.ownsRow base e 1 (.slice (some ⟨g, 0, none⟩) n n) n xs) : ∃ cur : List Value, w.heap[g]? = some (.cells cur.toArray e (0, 0)) ∧ cur.length = n := by
  obtain ⟨-, h2⟩ := h
  rcases h2 with ⟨h, -⟩ | ⟨g', cap, cur, hv, hb, hg, hn, hm, hs, ht⟩
  · simp at h
  · simp only [Value.slice.injEq, Option.some.injEq, Addr.mk.injEq, and_true, true_and] at hv
    obtain ⟨rfl, rfl⟩ := hv
    refine ⟨cur.toList, by simpa using hg, by simp; omega⟩

/-- A slice over a block that is known whole. -/
theorem Rd.of_block {w : World} {g : Nat} {zs : List Int} {t : TypeId} (h : w.heap[g]? = some (.cells (zs.map (Value.int .i64)).toArray t (0, 0))) (hm : zs.length ≤ 9223372036854775807) : Rd w 1 (.slice (some ⟨g, 0, none⟩) zs.length zs.length) (Ytnombgiacfeloaa.ints zs) := by
  refine ⟨_, _, by rw [ints_length], by rw [ints_length]; omega, by rw [ints_length]; exact hm, ?_, fun _ => ⟨g, 0, rfl, (Array.getElem?_eq_some_iff.1 h).1, ?_⟩⟩
  · intro r hr
    obtain ⟨z, -, rfl⟩ := List.mem_map.1 hr
    rfl
  · intro j r hj i x hi
    unfold Ytnombgiacfeloaa.ints at hj
    simp only [List.getElem?_map, Option.map_eq_some_iff] at hj
    obtain ⟨z, hz, rfl⟩ := hj
    have hi0 : i = 0 := by
      have := (List.getElem?_eq_some_iff.1 hi).1
      simpa using this
    subst hi0
    simp at hi
    subst hi
    rw [cell_of_row w g _ _ t (0, 0) h]
    simp [hz]

theorem heap_setCell_row {w : World} {g k : Nat} {zs : List Value} {t : TypeId} {v : Value} (h : w.heap[g]? = some (.cells zs.toArray t (0, 0))) : (w.setCell ⟨g, k, none⟩ v).heap[g]? = some (.cells (zs.set k v).toArray t (0, 0)) := by
  have hl := (Array.getElem?_eq_some_iff.1 h).1
  have he := (Array.getElem?_eq_some_iff.1 h).2
  simp only [World.setCell, Array.getElem?_modify, if_true, h, Option.map_some]
  simp [Array.setIfInBounds]
  intro hle
  rw [List.set_eq_of_length_le hle]

theorem heap_setCell_ne {w : World} {b o g : Nat} {v : Value} (h : b ≠ g) : (w.setCell ⟨b, o, none⟩ v).heap[g]? = w.heap[g]? := Below.heap_setCell _ _ _ _ (fun e => h e.symm)

theorem frozen_of_row {w : World} {g k : Nat} {zs : Array Value} {t : TypeId} (h : w.heap[g]? = some (.cells zs t (0, 0))) : w.frozen? ⟨g, k, none⟩ = false := by
  simp [World.frozen?, h]

end Go.Proofs.Ytnombgiacfeloaa
