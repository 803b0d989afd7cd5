/- Steps appended to an empty row, and numbers; one of them replaced. -/
import Derived.Test.YtnombgiacfeloaaM24
import Derived.Test.YtnombgiacfeloaaA1
import Derived.Test.YtnombgiacfeloaaW19
import Derived.Deep.DeepCutAuto
import Derived.Deep.RegionHeld3
import Derived.BigQuiet
import Derived.StillTailTactics
namespace Go.Proofs.Ytnombgiacfeloaa
set_option linter.unusedVariables false
set_option linter.unusedSimpArgs false
open Go.RowKit

theorem info76 : (Try.prog.info? 76).map (fun i => (i.zero, i.size, i.bytes)) = some (some (.agg #[.string ⟨#[]⟩, .int .i64 0, .int .i64 0, .int .i64 0]), 4, 40) := by kernel_rfl

theorem rdSetErr {w : World} {g c : Nat} {ss : List Stp} (h : Rd w 4 (.slice (some ⟨g, 0, none⟩) ss.length c) (stpRows ss)) {k : Nat} (hk : k < ss.length) (x : Int) :
    Rd (w.setCell ⟨g, k * 4 + 3, none⟩ (.int .i64 x)) 4 (.slice (some ⟨g, 0, none⟩) ss.length c) (stpRows (ss.set k { ss[k] with err := x })) := by
  obtain ⟨a, c', hv, hc, hm, hl, hr⟩ := h
  simp only [Value.slice.injEq] at hv
  obtain ⟨rfl, hlen, rfl⟩ := hv
  obtain ⟨b, off, ha, hlt, hcell⟩ := hr (by rw [stpRows_length]; omega)
  simp only [Option.some.injEq, Addr.mk.injEq, and_true] at ha
  obtain ⟨rfl, rfl⟩ := ha
  rw [stpRows_length] at hc hm
  refine ⟨_, _, by rw [stpRows_length, List.length_set], by rw [stpRows_length, List.length_set]; exact hc, by rw [stpRows_length, List.length_set]; exact hm, fun r hr => by obtain ⟨z, -, rfl⟩ := List.mem_map.1 hr; rfl, fun _ => ⟨g, 0, rfl, by simpa using hlt, ?_⟩⟩
  intro j r hj i y hi
  rw [stpRows, List.getElem?_map] at hj
  obtain ⟨z, hz, rfl⟩ := Option.map_eq_some_iff.1 hj
  have hi4 : i < 4 := by
    have := (List.getElem?_eq_some_iff.1 hi).1
    simpa [Stp.row] using this
  have hold : ∀ j (hj : j < ss.length) i y, ss[j].row[i]? = some y → w.cell? ⟨g, 0 + j * 4 + i, none⟩ = some y := fun j hj i y h => hcell j _ (by simp [stpRows, hj]) i y h
  by_cases e : k = j
  · subst e
    rw [List.getElem?_set_self hk] at hz
    obtain rfl := Option.some.inj hz
    by_cases e3 : i = 3
    · subst e3
      have h3 := hold k hk 3 _ rfl
      rw [Nat.zero_add] at h3
      rw [Nat.zero_add, World.cell?_setCell_same _ _ _ h3]
      exact hi
    · rw [World.cell?_setCell_other _ _ _ _ (by intro h; simp only [Addr.mk.injEq] at h; omega)]
      have : i = 0 ∨ i = 1 ∨ i = 2 := by omega
      rcases this with rfl | rfl | rfl
      · exact hold k hk 0 _ hi
      · exact hold k hk 1 _ hi
      · exact hold k hk 2 _ hi
  · rw [List.getElem?_set_ne e] at hz
    obtain ⟨hjl, rfl⟩ := List.getElem?_eq_some_iff.1 hz
    rw [World.cell?_setCell_other _ _ _ _ (by intro h; simp only [Addr.mk.injEq] at h; omega)]
    exact hold j hjl i y hi

theorem ints_one (zs : List Int) : ∀ r ∈ ints zs, ∀ x ∈ r, x.oneCell' = true := by
  intro r hr x hx
  obtain ⟨b, -, rfl⟩ := List.mem_map.1 hr
  simp at hx
  subst hx
  rfl
theorem stpRows_one (ss : List Stp) : ∀ r ∈ stpRows ss, ∀ x ∈ r, x.oneCell' = true := by
  intro r hr x hx
  obtain ⟨b, -, rfl⟩ := List.mem_map.1 hr
  simp [Stp.row] at hx
  rcases hx with rfl | rfl | rfl | rfl <;> rfl

/-- The steps of a line appended to an empty row. -/
theorem step_apS {ops : Array Oper} {o : Oper} {a : Act} {w : World} {K : Act → World → Prop} {Q : Exit → Act → World → Prop} {E : Prop} (W : World) (i1 : TypeInfo) (hi1 : Try.prog.info? 76 = some i1) (hz : i1.zero = some (.agg #[.string ⟨#[]⟩, .int .i64 0, .int .i64 0, .int .i64 0])) (hs : i1.size = 4) (hb : i1.bytes = 40)
    (hgd : o.guard = none) (s x : Operand) (ho : o.op = .call { callee := .builtin .append, args := #[s, x], argTypes := #[22, 22] }) (v : Value) (ss : List Stp) {u : Value} (hs' : a.eval s = v) (hx : a.eval x = u) (hu : Rd W 4 u (stpRows ss)) (hlen : ss.length ≤ 10)
    (hown : w.ownsRow W.heap.size 76 4 v 0 []) (hbw : Below W.heap.size W w)
    (hpos : 0 < ss.length) (h : ∀ (g2 cap2 : Nat) w', Rd w' 4 (.slice (some ⟨g2, 0, none⟩) ss.length cap2) (stpRows ss) → (∀ o, w'.frozen? ⟨g2, o, none⟩ = false) → W.heap.size ≤ g2 → g2 < w'.heap.size → Below W.heap.size W w' → w.grownBy w' v.ownBlock → (∃ cur, w'.heap[g2]? = some (.cells cur 76 (0, 0))) → K (a.put o.dst (.slice (some ⟨g2, 0, none⟩) ss.length cap2)) w') : if Region.wanted o (yielded ops a.tmps) = true then Oper.wp Try.prog o a w K Q else E := by
  have hl : (stpRows ss).length = ss.length := stpRows_length ss
  refine step_append_rd hgd s x 22 ho W.heap.size 76 i1 _ 4 40 Try.underlying22 hi1 hz hs hb rfl (by decide) v 0 [] hs' hown u (stpRows ss) hx (hu.below hbw) (stpRows_one _) (by unfold maxLen; omega) (by omega) hbw.size ?_
  intro v' w' ho' hg
  rw [Nat.zero_add, List.nil_append] at ho'
  have rd := Rd.of_owns ho' (fun r hr => by obtain ⟨z, -, rfl⟩ := List.mem_map.1 hr; rfl)
  rw [hl] at ho'
  rcases ho'.2 with ⟨-, h0⟩ | ⟨g, cap, cur, rfl, h1, h2, -⟩
  · omega
  · exact h g cap w' rd (fun o => frozen_of_row h2) h1 (Array.getElem?_eq_some_iff.1 h2).1 (hbw.trans (grown_below hg hbw.size fun j e => (hown.lt j e).1)) hg ⟨cur, h2⟩

theorem ownsBase {w : World} {b0 base : Nat} {e : TypeId} {size n : Nat} {v : Value} {xs : List Value} (h : w.ownsRow b0 e size v n xs) (hb : base ≤ b0) : w.ownsRow base e size v n xs := by
  refine ⟨h.1, ?_⟩
  rcases h.2 with hn | ⟨g, cap, cur, rfl, hbg, rest⟩
  · exact .inl hn
  · exact .inr ⟨g, cap, cur, rfl, Nat.le_trans hb hbg, rest⟩

theorem owns3 (W : World) : ((W.alloc (.cells #[.int .i64 0, .slice none 0 0] 24)).alloc (.cells #[] 76)).ownsRow W.heap.size 76 4 (.slice (some ⟨W.heap.size + 1, 0, none⟩) 0 0) 0 [] := by
  have h := owns_empty (W.alloc (.cells #[.int .i64 0, .slice none 0 0] 24)) 76 4
  have e : (W.alloc (.cells #[.int .i64 0, .slice none 0 0] 24)).heap.size = W.heap.size + 1 := by simp
  rw [e] at h
  exact ownsBase h (Nat.le_succ _)

theorem rdOther {w : World} {k n c g F o : Nat} {x : Value} {rows : List (List Value)} (h : Rd w k (.slice (some ⟨g, 0, none⟩) n c) rows) (hne : F ≠ g) : Rd (w.setCell ⟨F, o, none⟩ x) k (.slice (some ⟨g, 0, none⟩) n c) rows := by
  obtain ⟨a, c', hv, hc, hm, hl, hr⟩ := h
  simp only [Value.slice.injEq] at hv
  obtain ⟨rfl, hlen, rfl⟩ := hv
  refine ⟨_, _, by rw [hlen], hc, hm, hl, fun h0 => ?_⟩
  obtain ⟨b, off, ha, hlt, hcell⟩ := hr h0
  simp only [Option.some.injEq, Addr.mk.injEq, and_true] at ha
  obtain ⟨rfl, rfl⟩ := ha
  refine ⟨g, 0, rfl, by simpa using hlt, fun j r hj i y hi => ?_⟩
  rw [World.cell?_setCell_other _ _ _ _ (by intro h; simp only [Addr.mk.injEq] at h; omega)]
  exact hcell j r hj i y hi

theorem aft2 {wz W5 : World} (h : ((wz.alloc (.cells #[] 76)).alloc (.cells #[.int .i64 0, .slice none 0 0] 24)).drew.grownBy W5 (some wz.heap.size)) :
    W5.heap[wz.heap.size + 1]? = some (.cells #[.int .i64 0, .slice none 0 0] 24 (0, 0)) ∧ W5.cell? ⟨wz.heap.size + 1, 0, none⟩ = some (.int .i64 0) ∧ W5.cell? ⟨wz.heap.size + 1, 1, none⟩ = some (.slice none 0 0) ∧ W5.frozen? ⟨wz.heap.size + 1, 0, none⟩ = false ∧ W5.frozen? ⟨wz.heap.size + 1, 1, none⟩ = false := by
  have uF : W5.heap[wz.heap.size + 1]? = some (.cells #[.int .i64 0, .slice none 0 0] 24 (0, 0)) := by
    refine (h.block _ (by simp) (by simp)).trans ?_
    have := heap_alloc_new (wz.alloc (.cells #[] 76)) (.cells #[.int .i64 0, .slice none 0 0] 24)
    have e : (wz.alloc (.cells #[] 76)).heap.size = wz.heap.size + 1 := by simp
    rw [e] at this
    exact this
  exact ⟨uF, by rw [cell_of_row _ _ _ _ _ _ uF]; rfl, by rw [cell_of_row _ _ _ _ _ _ uF]; rfl, frozen_of_row uF, frozen_of_row uF⟩

/-- The same, where the struct's block is made ahead of it. -/
theorem step_apS2 {ops : Array Oper} {o : Oper} {a : Act} {W : World} {K : Act → World → Prop} {Q : Exit → Act → World → Prop} {E : Prop} (i1 : TypeInfo) (hi1 : Try.prog.info? 76 = some i1) (hz : i1.zero = some (.agg #[.string ⟨#[]⟩, .int .i64 0, .int .i64 0, .int .i64 0])) (hs : i1.size = 4) (hb : i1.bytes = 40)
    (hgd : o.guard = none) (s x : Operand) (ho : o.op = .call { callee := .builtin .append, args := #[s, x], argTypes := #[22, 22] }) (ss : List Stp) {u : Value} (hs' : a.eval s = .slice (some ⟨W.heap.size, 0, none⟩) 0 0) (hx : a.eval x = u) (hu : Rd W 4 u (stpRows ss)) (hlen : ss.length ≤ 10)
    (hpos : 0 < ss.length) (h : ∀ (g2 cap2 : Nat) w', Rd w' 4 (.slice (some ⟨g2, 0, none⟩) ss.length cap2) (stpRows ss) → (∀ o, w'.frozen? ⟨g2, o, none⟩ = false) → W.heap.size ≤ g2 → g2 < w'.heap.size → Below W.heap.size W w' → W.heap.size + 1 ≠ g2 →
      w'.cell? ⟨W.heap.size + 1, 0, none⟩ = some (.int .i64 0) → w'.cell? ⟨W.heap.size + 1, 1, none⟩ = some (.slice none 0 0) → w'.frozen? ⟨W.heap.size + 1, 0, none⟩ = false → w'.frozen? ⟨W.heap.size + 1, 1, none⟩ = false → K (a.put o.dst (.slice (some ⟨g2, 0, none⟩) ss.length cap2)) w') :
    if Region.wanted o (yielded ops a.tmps) = true then Oper.wp Try.prog o a ((W.alloc (.cells #[] 76)).alloc (.cells #[.int .i64 0, .slice none 0 0] 24)).drew K Q else E := by
  refine step_apS W i1 hi1 hz hs hb hgd s x ho _ ss hs' hx hu hlen ((owns_empty W 76 4).alloc _) (Below.drew (belAlloc (below_alloc1 _ _) _)) hpos ?_
  intro g2 cap2 w' r1 r2 r3 r4 r5 r6 r7
  obtain ⟨t0, t1, t2, t3, t4⟩ := aft2 r6
  refine h g2 cap2 w' r1 r2 r3 r4 r5 ?_ t1 t2 t3 t4
  intro e
  obtain ⟨cur, hc⟩ := r7
  rw [← e, t0] at hc
  simp at hc

theorem aft3 {wz W5 : World} (h : ((wz.alloc (.cells #[.int .i64 0, .slice none 0 0] 24)).alloc (.cells #[] 76)).drew.grownBy W5 (some (wz.heap.size + 1))) :
    W5.heap[wz.heap.size]? = some (.cells #[.int .i64 0, .slice none 0 0] 24 (0, 0)) ∧ W5.cell? ⟨wz.heap.size, 0, none⟩ = some (.int .i64 0) ∧ W5.cell? ⟨wz.heap.size, 1, none⟩ = some (.slice none 0 0) ∧ W5.frozen? ⟨wz.heap.size, 0, none⟩ = false ∧ W5.frozen? ⟨wz.heap.size, 1, none⟩ = false := by
  have uF : W5.heap[wz.heap.size]? = some (.cells #[.int .i64 0, .slice none 0 0] 24 (0, 0)) := by
    refine (h.block _ (by simp; omega) (by simp)).trans ?_
    have h1 := heap_alloc_new wz (.cells #[.int .i64 0, .slice none 0 0] 24)
    have h2 := heap_alloc_old (wz.alloc (.cells #[.int .i64 0, .slice none 0 0] 24)) (.cells #[] 76) (show wz.heap.size < _ by simp)
    exact h2.trans h1
  exact ⟨uF, by rw [cell_of_row _ _ _ _ _ _ uF]; rfl, by rw [cell_of_row _ _ _ _ _ _ uF]; rfl, frozen_of_row uF, frozen_of_row uF⟩

/-- The same, where it is made ahead of the empty row, too. -/
theorem step_apS3 {ops : Array Oper} {o : Oper} {a : Act} {W : World} {K : Act → World → Prop} {Q : Exit → Act → World → Prop} {E : Prop} (i1 : TypeInfo) (hi1 : Try.prog.info? 76 = some i1) (hz : i1.zero = some (.agg #[.string ⟨#[]⟩, .int .i64 0, .int .i64 0, .int .i64 0])) (hs : i1.size = 4) (hb : i1.bytes = 40)
    (hgd : o.guard = none) (s x : Operand) (ho : o.op = .call { callee := .builtin .append, args := #[s, x], argTypes := #[22, 22] }) (ss : List Stp) {u : Value} (hs' : a.eval s = .slice (some ⟨W.heap.size + 1, 0, none⟩) 0 0) (hx : a.eval x = u) (hu : Rd W 4 u (stpRows ss)) (hlen : ss.length ≤ 10)
    (hpos : 0 < ss.length) (h : ∀ (g2 cap2 : Nat) w', Rd w' 4 (.slice (some ⟨g2, 0, none⟩) ss.length cap2) (stpRows ss) → (∀ o, w'.frozen? ⟨g2, o, none⟩ = false) → W.heap.size ≤ g2 → g2 < w'.heap.size → Below W.heap.size W w' → W.heap.size ≠ g2 →
      w'.cell? ⟨W.heap.size, 0, none⟩ = some (.int .i64 0) → w'.cell? ⟨W.heap.size, 1, none⟩ = some (.slice none 0 0) → w'.frozen? ⟨W.heap.size, 0, none⟩ = false → w'.frozen? ⟨W.heap.size, 1, none⟩ = false → K (a.put o.dst (.slice (some ⟨g2, 0, none⟩) ss.length cap2)) w') :
    if Region.wanted o (yielded ops a.tmps) = true then Oper.wp Try.prog o a ((W.alloc (.cells #[.int .i64 0, .slice none 0 0] 24)).alloc (.cells #[] 76)).drew K Q else E := by
  refine step_apS W i1 hi1 hz hs hb hgd s x ho _ ss hs' hx hu hlen (owns3 W) (Below.drew (belAlloc (below_alloc1 _ _) _)) hpos ?_
  intro g2 cap2 w' r1 r2 r3 r4 r5 r6 r7
  obtain ⟨t0, t1, t2, t3, t4⟩ := aft3 r6
  refine h g2 cap2 w' r1 r2 r3 r4 r5 ?_ t1 t2 t3 t4
  intro e
  obtain ⟨cur, hc⟩ := r7
  rw [← e, t0] at hc
  simp at hc

end Go.Proofs.Ytnombgiacfeloaa
