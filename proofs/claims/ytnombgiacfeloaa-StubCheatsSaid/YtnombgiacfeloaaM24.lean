/- Plain facts: one wrong reading of a truth: what Cheats and Off return; lists of numbers in which one is replaced. No program is in sight. -/
import Derived.Test.YtnombgiacfeloaaM21
namespace Go.Proofs.Ytnombgiacfeloaa
set_option linter.unusedVariables false
set_option linter.unusedSimpArgs false
open Go.RowKit

theorem rdSetInt {w : World} {g c : Nat} {zs : List Int} (h : Rd w 1 (.slice (some ⟨g, 0, none⟩) zs.length c) (ints zs)) {k : Nat} (hk : k < zs.length) (x : Int) :
    Rd (w.setCell ⟨g, k, none⟩ (.int .i64 x)) 1 (.slice (some ⟨g, 0, none⟩) zs.length c) (ints (zs.set k x)) := by
  obtain ⟨a, c', hv, hc, hm, hl, hr⟩ := h
  simp only [Value.slice.injEq] at hv
  obtain ⟨rfl, hlen, rfl⟩ := hv
  obtain ⟨b, off, ha, hlt, hcell⟩ := hr (by rw [ints_length]; omega)
  simp only [Option.some.injEq, Addr.mk.injEq, and_true] at ha
  obtain ⟨rfl, rfl⟩ := ha
  rw [ints_length] at hc hm
  refine ⟨_, _, by rw [ints_length, List.length_set], by rw [ints_length, List.length_set]; exact hc, by rw [ints_length, List.length_set]; exact hm, fun r hr => by obtain ⟨z, -, rfl⟩ := List.mem_map.1 hr; rfl, fun _ => ⟨g, 0, rfl, by simpa using hlt, ?_⟩⟩
  intro j r hj i y hi
  rw [ints, List.getElem?_map] at hj
  obtain ⟨z, hz, rfl⟩ := Option.map_eq_some_iff.1 hj
  have hi1 : i = 0 := by
    have := (List.getElem?_eq_some_iff.1 hi).1
    simpa using this
  subst hi1
  have hold : ∀ j (hj : j < zs.length), w.cell? ⟨g, j, none⟩ = some (.int .i64 zs[j]) := fun j hj => by
    have := hcell j [.int .i64 zs[j]] (by simp [ints, hj]) 0 _ rfl
    simpa using this
  have e0 : 0 + j * 1 + 0 = j := by omega
  rw [e0]
  by_cases e : k = j
  · subst e
    rw [List.getElem?_set_self hk] at hz
    obtain rfl := Option.some.inj hz
    rw [World.cell?_setCell_same _ _ _ (hold k hk)]
    exact hi
  · rw [List.getElem?_set_ne e] at hz
    obtain ⟨hjl, rfl⟩ := List.getElem?_eq_some_iff.1 hz
    rw [World.cell?_setCell_other _ _ _ _ (by intro h; simp only [Addr.mk.injEq] at h; omega), hold j hjl]
    exact hi

theorem readOk_set {ss : List Stp} {rs : List Int} (hR : ReadOk ss rs) {k : Nat} {x : Int} (hx : x = -1 ∨ 0 ≤ x ∧ x ≤ 1000000) : ReadOk ss (rs.set k x) := by
  refine ⟨by rw [List.length_set]; exact hR.len, fun r hr => ?_⟩
  rcases List.mem_or_eq_of_mem_set hr with hr | rfl
  · exact hR.rd r hr
  · exact hx

/-- A truth is one without a reading, too. -/
theorem truth_without {err : Int} {ss : List Stp} {rs : List Int} {w : Nat → Int} (hL : LineOk err ss) (hR : ReadOk ss rs) (h : Truth err ss rs w) (k : Nat) : Truth err ss (rs.set k (-1)) w := by
  refine ⟨fun i hi => ?_, h.st⟩
  rw [List.length_set] at hi
  have hd := h.rd i hi
  have hb := h.bd hL hR i hi
  unfold loAt hiAt at hd ⊢
  by_cases e : k = i
  · subst e
    rw [List.getElem?_set_self hi]
    unfold rdLo rdHi
    simp only [Option.getD_some, if_true]
    exact hb
  · rw [List.getElem?_set_ne e]
    exact hd

/-- One reading of a truth replaced. -/
theorem cheat_facts {err : Int} {ss : List Stp} {rs : List Int} {w : Nat → Int} (hc : (chk err ss).2.2 = 0) (hL : LineOk err ss) (hR : ReadOk ss rs) (h : Truth err ss rs w) {k : Nat} (hk : k ≤ ss.length) {x : Int} (hx : 0 ≤ x ∧ x ≤ 1000000) :
    offErr err ss (rs.set k x) k = 0 ∧ (offAt err ss (rs.set k x) k).1 ≤ x - w k ∧ x - w k ≤ (offAt err ss (rs.set k x) k).2 ∧
    (sound (closed err ss (rs.set k x)) = true → wErr err ss (rs.set k x) = 0 ∧ cErr err ss (rs.set k x) = 4 ∧ cAt err ss (rs.set k x) = []) ∧
    (sound (closed err ss (rs.set k x)) = false → wErr err ss (rs.set k x) = 9 ∧ cErr err ss (rs.set k x) = 0 ∧ (k : Int) ∈ cAt err ss (rs.set k x)) := by
  have hl := hR.len
  have hR' := readOk_set hR (k := k) (x := x) (.inr hx)
  have hA : askErr err ss (rs.set k x) = 0 := ask_ok hc (rdErr_of_ok hR')
  have hT := truth_without hL hR h k
  have hRm := readOk_set hR (k := k) (x := -1) (.inl rfl)
  have hs := hT.sound hL hRm
  obtain ⟨ti, -⟩ := truth_in hL hRm hT
  have ss' : (rs.set k x).set k (-1) = rs.set k (-1) := List.set_set ..
  have hlen : (rs.set k x).length = ss.length + 1 := by rw [List.length_set]; exact hl
  have hgk : (rs.set k x)[k]? = some x := List.getElem?_set_self (by omega)
  have ho : offErr err ss (rs.set k x) k = 0 := by
    unfold offErr
    rw [if_neg (by omega), Int.toNat_natCast, ss', hs, if_neg, if_pos rfl]
    rintro (h1 | h1)
    · rw [anyOut1] at h1
      simp at h1
      omega
    · rw [hgk] at h1
      simp at h1
      omega
  have tk := ti k hk
  refine ⟨ho, ?_, ?_, fun hsd => ?_, fun hsd => ?_⟩
  · unfold offAt
    rw [ho, if_pos rfl, Int.toNat_natCast, ss', hgk, Option.getD_some]
    dsimp only
    omega
  · unfold offAt
    rw [ho, if_pos rfl, Int.toNat_natCast, ss', hgk, Option.getD_some]
    dsimp only
    omega
  · have e1 : wErr err ss (rs.set k x) = 0 := by rw [(weights_at hA).1, if_pos hsd]
    have e2 : cErr err ss (rs.set k x) = 4 := by unfold cErr; rw [if_neg (by omega), if_pos hsd]
    refine ⟨e1, e2, ?_⟩
    unfold cAt
    rw [e2, if_neg (by decide)]
  · have e1 : wErr err ss (rs.set k x) = 9 := by rw [(weights_at hA).1, hsd, if_neg Bool.false_ne_true]
    have hm : (k : Int) ∈ cheatsTo err ss (rs.set k x) (rs.set k x).length := by
      unfold cheatsTo
      rw [List.mem_map]
      refine ⟨k, ?_, rfl⟩
      rw [List.mem_filter, List.mem_range, ss']
      exact ⟨by omega, hs⟩
    have e2 : cErr err ss (rs.set k x) = 0 := by
      unfold cErr
      rw [if_neg (by omega), hsd, if_neg Bool.false_ne_true, if_neg]
      intro e
      rw [e] at hm
      simp at hm
    refine ⟨e1, e2, ?_⟩
    unfold cAt
    rw [e2, if_pos rfl]
    exact hm

theorem cAt_len {err : Int} {ss : List Stp} {rs : List Int} : (cAt err ss rs).length ≤ rs.length := by
  unfold cAt
  split
  · unfold cheatsTo
    rw [List.length_map]
    exact Nat.le_trans (List.length_filter_le _ _) (by simp)
  · simp

theorem offAt_bd {err : Int} {ss : List Stp} {rs : List Int} (hL : LineOk err ss) (hR : ReadOk ss rs) (p : Nat) (hp : p < rs.length) : (-5000000000000 ≤ (offAt err ss rs p).1 ∧ (offAt err ss rs p).1 ≤ 5000000000000) ∧ (-5000000000000 ≤ (offAt err ss rs p).2 ∧ (offAt err ss rs p).2 ≤ 5000000000000) := by
  unfold offAt
  split
  · rw [Int.toNat_natCast, List.getElem?_eq_getElem hp, Option.getD_some]
    have h1 := closed_bd hL (readOk_set hR (k := p) (x := -1) (.inl rfl)) p 7
    have h2 := closed_bd hL (readOk_set hR (k := p) (x := -1) (.inl rfl)) 7 p
    have h3 := hR.rd rs[p] (List.getElem_mem _)
    dsimp only
    omega
  · dsimp only
    omega

end Go.Proofs.Ytnombgiacfeloaa
