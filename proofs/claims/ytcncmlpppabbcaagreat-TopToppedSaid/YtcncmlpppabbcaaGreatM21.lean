/- Plain facts: truths of a line as potentials; they keep the tightened table; tables that say less stay so; the tightened table is closed, and each of its entries is reached by a truth. No program is in sight. Plain facts: what Lost, Weights and Off return where a line and readings have no error; sums along a line. No program is in sight. Plain facts: what Worked makes of a line: weights and readings of a truth. No program is in sight. -/
import Derived.Test.YtcncmlpppabbcaaGreatM11
namespace Go.Proofs.YtcncmlpppabbcaaGreat
set_option linter.unusedVariables false
set_option linter.unusedSimpArgs false
open Go.RowKit

theorem ifc {α : Type} {p q : Prop} [Decidable p] [Decidable q] {x y u v : α} (h : p ↔ q) (h1 : x = u) (h2 : y = v) : (if p then x else y) = (if q then u else v) := by
  subst h1 h2
  by_cases hp : p
  · rw [if_pos hp, if_pos (h.1 hp)]
  · rw [if_neg hp, if_neg (fun hq => hp (h.2 hq))]

/-- A potential keeps a table. -/
def Pot (w : Nat → Int) (M : Tab) : Prop := ∀ a b, a < 8 → b < 8 → w a - w b ≤ M a b

theorem Pot.upd {w : Nat → Int} {M : Tab} (h : Pot w M) {j i k : Nat} (hj : j < 8) : Pot w (upd M j i k) := by
  intro a b ha hb
  unfold YtcncmlpppabbcaaGreat.upd put
  split
  · rename_i e
    obtain ⟨rfl, rfl⟩ := e
    have h1 := h a b ha hb
    have h2 := h a j ha hj
    have h3 := h j b hj hb
    omega
  · exact h a b ha hb

theorem Pot.row {w : Nat → Int} {M : Tab} (h : Pot w M) {j i : Nat} (hj : j < 8) : ∀ k, Pot w (rowTo M j i k)
  | 0 => h
  | k + 1 => (Pot.row h hj k).upd hj

theorem Pot.col {w : Nat → Int} {M : Tab} (h : Pot w M) {j : Nat} (live : Nat → Bool) (hj : j < 8) : ∀ i, Pot w (colTo live M j i)
  | 0 => h
  | i + 1 => by
    unfold colTo
    split
    · exact (Pot.col h live hj i).row hj 8
    · exact Pot.col h live hj i

theorem Pot.fw {w : Nat → Int} {M : Tab} (h : Pot w M) (live : Nat → Bool) : ∀ j, j ≤ 8 → Pot w (fwTo live M j)
  | 0, _ => h
  | j + 1, hj => (Pot.fw h live j (by omega)).col live (by omega) 8

theorem Pot.sound {w : Nat → Int} {M : Tab} (h : Pot w M) : sound M = true := sound_true fun i hi => by have := h i i hi hi; omega

/-- A table that says no less. -/
def Le (M N : Tab) : Prop := ∀ a b, a < 8 → b < 8 → M a b ≤ N a b

theorem Le.upd {M N : Tab} (h : Le M N) {j i k : Nat} (hj : j < 8) : Le (upd M j i k) (upd N j i k) := by
  intro a b ha hb
  unfold YtcncmlpppabbcaaGreat.upd put
  by_cases e : a = i ∧ b = k
  · rw [if_pos e, if_pos e]
    obtain ⟨rfl, rfl⟩ := e
    have h1 := h a b ha hb
    have h2 := h a j ha hj
    have h3 := h j b hj hb
    omega
  · rw [if_neg e, if_neg e]
    exact h a b ha hb

theorem Le.row {M N : Tab} (h : Le M N) {j i : Nat} (hj : j < 8) : ∀ k, Le (rowTo M j i k) (rowTo N j i k)
  | 0 => h
  | k + 1 => (Le.row h hj k).upd hj

theorem Le.col {M N : Tab} (h : Le M N) {j : Nat} (live : Nat → Bool) (hj : j < 8) : ∀ i, Le (colTo live M j i) (colTo live N j i)
  | 0 => h
  | i + 1 => by
    unfold colTo
    split
    · exact (Le.col h live hj i).row hj 8
    · exact Le.col h live hj i

theorem Le.fw {M N : Tab} (h : Le M N) (live : Nat → Bool) : ∀ j, j ≤ 8 → Le (fwTo live M j) (fwTo live N j)
  | 0, _ => h
  | j + 1, hj => (Le.fw h live j (by omega)).col live (by omega) 8

/-- A tightened table says no less. -/
theorem upd_le (M : Tab) (j i k a b : Nat) : upd M j i k a b ≤ M a b := by
  unfold upd put
  split
  · rename_i e
    obtain ⟨rfl, rfl⟩ := e
    omega
  · omega

theorem row_le (M : Tab) (j i a b : Nat) : ∀ k, rowTo M j i k a b ≤ M a b
  | 0 => Int.le_refl _
  | k + 1 => Int.le_trans (upd_le _ j i k a b) (row_le M j i a b k)

theorem col_le (live : Nat → Bool) (M : Tab) (j a b : Nat) : ∀ i, colTo live M j i a b ≤ M a b
  | 0 => Int.le_refl _
  | i + 1 => by
    unfold colTo
    split
    · exact Int.le_trans (row_le _ j i a b 8) (col_le live M j a b i)
    · exact col_le live M j a b i

theorem fw_le (live : Nat → Bool) (M : Tab) (a b t : Nat) : ∀ u, fwTo live M (t + u) a b ≤ fwTo live M t a b
  | 0 => Int.le_refl _
  | u + 1 => Int.le_trans (col_le live _ (t + u) a b 8) (fw_le live M a b t u)

/-- Where the diagonal is sound, a round tightens all places at once. -/
theorem row_sim (M : Tab) (j i : Nat) (hjj : 0 ≤ M j j) (k a b : Nat) : rowTo M j i k a b = if a = i ∧ b < k then min (M i b) (M i j + M j b) else M a b := by
  induction k generalizing a b with
  | zero => rw [if_neg (by omega)]; rfl
  | succ k ih =>
    have e1 : rowTo M j i k i k = M i k := by rw [ih, if_neg (by omega)]
    have e2 : rowTo M j i k i j = M i j := by
      rw [ih]
      split
      · omega
      · rfl
    have e3 : rowTo M j i k j k = M j k := by rw [ih, if_neg (by omega)]
    rw [rowTo]
    unfold upd put
    by_cases h : a = i ∧ b = k
    · obtain ⟨rfl, rfl⟩ := h
      rw [if_pos ⟨rfl, rfl⟩, e1, e2, e3, if_pos (by omega)]
    · rw [if_neg h, ih]
      exact ifc (by omega) rfl rfl

theorem col_sim (live : Nat → Bool) (M : Tab) (j : Nat) (hjj : 0 ≤ M j j) (i a b : Nat) : colTo live M j i a b = if (a < i ∧ live a = true) ∧ b < 8 then min (M a b) (M a j + M j b) else M a b := by
  induction i generalizing a b with
  | zero => rw [if_neg (by omega)]; rfl
  | succ i ih =>
    unfold colTo
    split
    · rename_i hl
      have jj : colTo live M j i j j = M j j := by
        rw [ih]
        split
        · omega
        · rfl
      rw [row_sim _ j i (by rw [jj]; exact hjj) 8 a b]
      by_cases h : a = i ∧ b < 8
      · obtain ⟨rfl, hb⟩ := h
        have e1 : ∀ c, colTo live M j a a c = M a c := fun c => by rw [ih, if_neg (by omega)]
        have e3 : colTo live M j a j b = M j b := by
          rw [ih]
          split
          · omega
          · rfl
        rw [if_pos ⟨rfl, hb⟩, if_pos ⟨⟨by omega, hl⟩, hb⟩, e1, e1, e3]
      · rw [if_neg h, ih]
        refine ifc ⟨?_, ?_⟩ rfl rfl
        · rintro ⟨⟨h1, h2⟩, h3⟩
          exact ⟨⟨by omega, h2⟩, h3⟩
        · rintro ⟨⟨h1, h2⟩, h3⟩
          exact ⟨⟨by omega, h2⟩, h3⟩
    · rename_i hl
      rw [ih]
      refine ifc ⟨?_, ?_⟩ rfl rfl
      · rintro ⟨⟨h1, h2⟩, h3⟩
        exact ⟨⟨by omega, h2⟩, h3⟩
      · rintro ⟨⟨h1, h2⟩, h3⟩
        refine ⟨⟨?_, h2⟩, h3⟩
        rcases Nat.lt_or_ge a i with h4 | h4
        · exact h4
        · obtain rfl : a = i := by omega
          exact absurd h2 hl

/-- What the table is ahead of the tightening. -/
theorem tabR_eq (lo hi : Nat → Int) (n : Nat) (hn : n ≤ 7) (a b : Nat) : tabR lo hi n a b = if b = 7 ∧ a < n then hi a else if a = 7 ∧ b < n then -lo b else tab0 a b := by
  induction n with
  | zero => rw [if_neg (by omega), if_neg (by omega)]; rfl
  | succ n ih =>
    rw [tabR]
    unfold put
    rw [ih (by omega)]
    by_cases h1 : a = 7 ∧ b = n
    · obtain ⟨rfl, rfl⟩ := h1
      rw [if_pos ⟨rfl, rfl⟩, if_neg (by omega), if_pos (by omega)]
    · rw [if_neg h1]
      by_cases h2 : a = n ∧ b = 7
      · obtain ⟨rfl, rfl⟩ := h2
        rw [if_pos ⟨rfl, rfl⟩, if_pos (by omega)]
      · rw [if_neg h2]
        exact ifc (by omega) rfl (ifc (by omega) rfl rfl)

theorem tabS_eq (M : Tab) (lo hi : Nat → Int) (n a b : Nat) : tabS M lo hi n a b = if b = a + 1 ∧ a < n then hi a else if a = b + 1 ∧ b < n then -lo b else M a b := by
  induction n with
  | zero => rw [if_neg (by omega), if_neg (by omega)]; rfl
  | succ n ih =>
    rw [tabS]
    unfold put
    rw [ih]
    by_cases h1 : a = n + 1 ∧ b = n
    · obtain ⟨rfl, rfl⟩ := h1
      rw [if_pos ⟨rfl, rfl⟩, if_neg (by omega), if_pos (by omega)]
    · rw [if_neg h1]
      by_cases h2 : a = n ∧ b = n + 1
      · obtain ⟨rfl, rfl⟩ := h2
        rw [if_pos ⟨rfl, rfl⟩, if_pos (by omega)]
      · rw [if_neg h2]
        exact ifc (by omega) rfl (ifc (by omega) rfl rfl)

theorem tabOf_eq {err : Int} {ss : List Stp} {rs : List Int} (hL : LineOk err ss) (hR : ReadOk ss rs) (a b : Nat) : tabOf err ss rs a b =
    if b = a + 1 ∧ a < ss.length then shi ss a else if a = b + 1 ∧ b < ss.length then -slo ss b else if b = 7 ∧ a < rs.length then hiAt err ss rs a else if a = 7 ∧ b < rs.length then -loAt err ss rs b else if a = b then 0 else 2000000 := by
  unfold tabOf
  rw [tabS_eq, tabR_eq _ _ _ (by have := hL.len; have := hR.len; omega)]
  rfl

/-- A truth of a line and readings: the weights at the points. -/
structure Truth (err : Int) (ss : List Stp) (rs : List Int) (w : Nat → Int) : Prop where
  rd : ∀ i, i < rs.length → loAt err ss rs i ≤ w i ∧ w i ≤ hiAt err ss rs i
  st : ∀ i, i < ss.length → slo ss i ≤ w i - w (i + 1) ∧ w i - w (i + 1) ≤ shi ss i

/-- The weights, and 0 behind them. -/
def ext (n : Nat) (w : Nat → Int) : Nat → Int := fun a => if a < n then w a else 0

theorem Truth.bd {err : Int} {ss : List Stp} {rs : List Int} {w : Nat → Int} (hL : LineOk err ss) (hR : ReadOk ss rs) (h : Truth err ss rs w) (i : Nat) (hi : i < rs.length) : 0 ≤ w i ∧ w i ≤ 1000000 := by
  have h1 := h.rd i hi
  have h2 := lo_bd hL hR i hi
  have h3 := hi_bd hL hR i hi
  omega

theorem Truth.ext_bd {err : Int} {ss : List Stp} {rs : List Int} {w : Nat → Int} (hL : LineOk err ss) (hR : ReadOk ss rs) (h : Truth err ss rs w) (i : Nat) : 0 ≤ ext rs.length w i ∧ ext rs.length w i ≤ 1000000 := by
  unfold ext
  split
  · rename_i hi
    exact h.bd hL hR i hi
  · omega

theorem Truth.pot {err : Int} {ss : List Stp} {rs : List Int} {w : Nat → Int} (hL : LineOk err ss) (hR : ReadOk ss rs) (h : Truth err ss rs w) : Pot (ext rs.length w) (tabOf err ss rs) := by
  intro a b ha hb
  rw [tabOf_eq hL hR]
  have hl := hR.len
  have hl6 := hL.len
  by_cases c1 : b = a + 1 ∧ a < ss.length
  · rw [if_pos c1]
    obtain ⟨rfl, c⟩ := c1
    have := h.st a c
    unfold ext
    rw [if_pos (by omega), if_pos (by omega)]
    omega
  · rw [if_neg c1]
    by_cases c2 : a = b + 1 ∧ b < ss.length
    · rw [if_pos c2]
      obtain ⟨rfl, c⟩ := c2
      have := h.st b c
      unfold ext
      rw [if_pos (by omega), if_pos (by omega)]
      omega
    · rw [if_neg c2]
      by_cases c3 : b = 7 ∧ a < rs.length
      · rw [if_pos c3]
        obtain ⟨rfl, c⟩ := c3
        have := h.rd a c
        unfold ext
        rw [if_pos c, if_neg (by omega)]
        omega
      · rw [if_neg c3]
        by_cases c4 : a = 7 ∧ b < rs.length
        · rw [if_pos c4]
          obtain ⟨rfl, c⟩ := c4
          have := h.rd b c
          unfold ext
          rw [if_neg (by omega), if_pos c]
          omega
        · rw [if_neg c4]
          have h1 := h.ext_bd hL hR a
          have h2 := h.ext_bd hL hR b
          split
          · rename_i e
            subst e
            omega
          · omega

theorem Truth.closed {err : Int} {ss : List Stp} {rs : List Int} {w : Nat → Int} (hL : LineOk err ss) (hR : ReadOk ss rs) (h : Truth err ss rs w) : Pot (ext rs.length w) (YtcncmlpppabbcaaGreat.closed err ss rs) :=
  (h.pot hL hR).fw _ 8 (Nat.le_refl _)

theorem Truth.sound {err : Int} {ss : List Stp} {rs : List Int} {w : Nat → Int} (hL : LineOk err ss) (hR : ReadOk ss rs) (h : Truth err ss rs w) : YtcncmlpppabbcaaGreat.sound (YtcncmlpppabbcaaGreat.closed err ss rs) = true :=
  (h.closed hL hR).sound

/-- How a round keeps what is closed. -/
theorem tri_step {F G : Tab} {live : Nat → Bool} {j p : Nat} (hst : ∀ a b, a < 8 → b < 8 → live a = true → G a b = min (F a b) (F a j + F j b)) (hj : j < 8) (lj : live j = true) (hjj : 0 ≤ F j j) (hp : p < 8) (lp : live p = true)
    (h : ∀ i k, i < 8 → k < 8 → live i = true → F i k ≤ F i p + F p k) : ∀ i k, i < 8 → k < 8 → live i = true → G i k ≤ G i p + G p k := by
  intro i k hi hk li
  rw [hst i k hi hk li, hst i p hi hp li, hst p k hp hk lp]
  have h1 := h i k hi hk li
  have h2 := h j k hj hk lj
  have h3 := h i j hi hj li
  have h4 := h j j hj hj lj
  omega

theorem tri_self {F G : Tab} {live : Nat → Bool} {j : Nat} (hst : ∀ a b, a < 8 → b < 8 → live a = true → G a b = min (F a b) (F a j + F j b)) (hj : j < 8) (lj : live j = true) (hjj : 0 ≤ F j j) :
    ∀ i k, i < 8 → k < 8 → live i = true → G i k ≤ G i j + G j k := by
  intro i k hi hk li
  rw [hst i k hi hk li, hst i j hi hj li, hst j k hj hk lj]
  omega

theorem live_iff {ss : List Stp} {i : Nat} (hi : i < 8) : liveOf ss i = true ↔ i ≤ ss.length ∨ i = 7 := by
  unfold liveOf
  rw [Bool.or_eq_true, decide_eq_true_eq, decide_eq_true_eq]
  omega

/-- A sound table is closed. -/
theorem closed_tri {err : Int} {ss : List Stp} {rs : List Int} (hL : LineOk err ss) (hR : ReadOk ss rs) (hs : sound (closed err ss rs) = true) {i p k : Nat} (hi : i < 8) (hp : p < 8) (hk : k < 8) (li : liveOf ss i = true) (lp : liveOf ss p = true) :
    closed err ss rs i k ≤ closed err ss rs i p + closed err ss rs p k := by
  have hl := hR.len
  have hl6 := hL.len
  have hd : ∀ t, t ≤ 8 → ∀ a, a < 8 → 0 ≤ fwTo (liveOf ss) (tabOf err ss rs) t a a := by
    intro t ht a ha
    have h1 := sound_iff.1 hs a ha
    have h2 := fw_le (liveOf ss) (tabOf err ss rs) a a t (8 - t)
    rw [show t + (8 - t) = 8 by omega] at h2
    unfold closed at h1
    omega
  have hup : ∀ t a b, fwTo (liveOf ss) (tabOf err ss rs) t a b ≤ 2000000 := by
    intro t a b
    have h1 := fw_le (liveOf ss) (tabOf err ss rs) a b 0 t
    have h2 := (tabOf_bd hL hR a b).2
    rw [Nat.zero_add] at h1
    exact Int.le_trans h1 h2
  have hst : ∀ t, t < 8 → ∀ a b, a < 8 → b < 8 → liveOf ss a = true → fwTo (liveOf ss) (tabOf err ss rs) (t + 1) a b = min (fwTo (liveOf ss) (tabOf err ss rs) t a b) (fwTo (liveOf ss) (tabOf err ss rs) t a t + fwTo (liveOf ss) (tabOf err ss rs) t t b) := by
    intro t ht a b ha hb la
    rw [fwTo, col_sim _ _ _ (hd t (by omega) t ht), if_pos ⟨⟨ha, la⟩, hb⟩]
  have hdead : ∀ t, t ≤ 8 → ∀ a b, ¬ liveOf ss a = true → fwTo (liveOf ss) (tabOf err ss rs) t a b = tabOf err ss rs a b := by
    intro t
    induction t with
    | zero => intro _ a b _; rfl
    | succ t ih =>
      intro ht a b la
      rw [fwTo, col_sim _ _ _ (hd t (by omega) t (by omega)), if_neg (fun h => la h.1.2), ih (by omega) a b la]
  have htd : ∀ j b, ss.length < j → j < 7 → tabOf err ss rs j b = if j = b then 0 else 2000000 := by
    intro j b h1 h2
    rw [tabOf_eq hL hR, if_neg (by omega), if_neg (by omega), if_neg (by omega), if_neg (by omega)]
  unfold closed
  generalize hF : fwTo (liveOf ss) (tabOf err ss rs) = F at *
  have s1 : ∀ t, t ≤ ss.length + 1 → (∀ p, p < t → ∀ i k, i < 8 → k < 8 → liveOf ss i = true → F t i k ≤ F t i p + F t p k)
      ∧ (∀ j, ss.length < j → j < 7 → ∀ i, i < 8 → liveOf ss i = true → ∃ q, q < 8 ∧ liveOf ss q = true ∧ F t i q + 2000000 ≤ F t i j) := by
    intro t
    induction t with
    | zero =>
      intro _
      refine ⟨fun p hp => by omega, fun j h1 h2 i hi li => ⟨i, hi, li, ?_⟩⟩
      have e : F 0 = tabOf err ss rs := by rw [← hF]; rfl
      have hne : i ≠ j := by
        rintro rfl
        rw [live_iff hi] at li
        omega
      rw [e, tabOf_eq hL hR, tabOf_eq hL hR, live_iff hi] at *
      rw [if_neg (by omega), if_neg (by omega), if_neg (by omega), if_neg (by omega), if_pos rfl, if_neg (by omega), if_neg (by omega), if_neg (by omega), if_neg (by omega), if_neg hne]
      omega
    | succ t ih =>
      intro ht
      obtain ⟨ih1, ih2⟩ := ih (by omega)
      have lt : liveOf ss t = true := (live_iff (by omega)).2 (by omega)
      refine ⟨?_, ?_⟩
      · intro p hp
        rcases Nat.lt_or_ge p t with hp' | hp'
        · exact tri_step (hst t (by omega)) (by omega) lt (hd t (by omega) t (by omega)) (by omega) ((live_iff (by omega)).2 (by omega)) (ih1 p hp')
        · obtain rfl : p = t := by omega
          exact tri_self (hst p (by omega)) (by omega) lt (hd p (by omega) p (by omega))
      · intro j h1 h2 i hi li
        obtain ⟨q, hq, lq, e⟩ := ih2 j h1 h2 i hi li
        obtain ⟨q', hq', lq', e'⟩ := ih2 j h1 h2 t (by omega) lt
        by_cases c : F t i j ≤ F t i t + F t t j
        · refine ⟨q, hq, lq, ?_⟩
          rw [hst t (by omega) i j hi (by omega) li, hst t (by omega) i q hi hq li]
          omega
        · refine ⟨q', hq', lq', ?_⟩
          rw [hst t (by omega) i j hi (by omega) li, hst t (by omega) i q' hi hq' li]
          omega
  obtain ⟨t1, t2⟩ := s1 (ss.length + 1) (Nat.le_refl _)
  have hpos : ∀ j, ss.length < j → j < 7 → ∀ i, i < 8 → liveOf ss i = true → 0 ≤ F (ss.length + 1) i j := by
    intro j h1 h2 i hi li
    obtain ⟨q, hq, lq, e⟩ := t2 j h1 h2 i hi li
    have low : -2000000 ≤ F (ss.length + 1) i q := by
      rcases (live_iff hq).1 lq with h3 | rfl
      · have h4 := t1 q (by omega) i i hi hi li
        have h5 := hup (ss.length + 1) q i
        have h6 := hd (ss.length + 1) (by omega) i hi
        omega
      · rcases (live_iff hi).1 li with h3 | rfl
        · have h4 := t1 i (by omega) 7 7 (by omega) (by omega) ((live_iff (by omega)).2 (.inr rfl))
          have h5 := hup (ss.length + 1) 7 i
          have h6 := hd (ss.length + 1) (by omega) 7 (by omega)
          omega
        · have h6 := hd (ss.length + 1) (by omega) 7 (by omega)
          omega
    omega
  have s2 : ∀ u, ss.length + 1 + u ≤ 7 → ∀ i k, i < 8 → k < 8 → liveOf ss i = true → F (ss.length + 1 + u) i k = F (ss.length + 1) i k := by
    intro u
    induction u with
    | zero => intro _ i k _ _ _; rfl
    | succ u ih =>
      intro hu i k hi hk li
      have ih' := ih (by omega)
      have hnl : ¬ liveOf ss (ss.length + 1 + u) = true := by rw [live_iff (by omega)]; omega
      rw [← Nat.add_assoc, hst _ (by omega) i k hi hk li, hdead _ (by omega) _ _ hnl, htd _ _ (by omega) (by omega), ih' i k hi hk li, ih' i _ hi (by omega) li]
      have h1 := hpos (ss.length + 1 + u) (by omega) (by omega) i hi li
      have h2 := hup (ss.length + 1) i k
      split
      · rename_i e
        subst e
        omega
      · omega
  have e7 : ∀ i k, i < 8 → k < 8 → liveOf ss i = true → F 7 i k = F (ss.length + 1) i k := by
    intro i k hi hk li
    have := s2 (7 - (ss.length + 1)) (by omega) i k hi hk li
    rw [show ss.length + 1 + (7 - (ss.length + 1)) = 7 by omega] at this
    exact this
  have l7 : liveOf ss 7 = true := (live_iff (by omega)).2 (.inr rfl)
  rcases (live_iff hp).1 lp with hp' | rfl
  · refine tri_step (hst 7 (by omega)) (by omega) l7 (hd 7 (by omega) 7 (by omega)) hp lp ?_ i k hi hk li
    intro i k hi hk li
    rw [e7 i k hi hk li, e7 i p hi hp li, e7 p k hp hk lp]
    exact t1 p (by omega) i k hi hk li
  · exact tri_self (hst 7 (by omega)) (by omega) l7 (hd 7 (by omega) 7 (by omega)) i k hi hk li

theorem closed_le {err : Int} {ss : List Stp} {rs : List Int} (a b : Nat) : closed err ss rs a b ≤ tabOf err ss rs a b := by
  have := fw_le (liveOf ss) (tabOf err ss rs) a b 0 8
  exact this

theorem closed_diag {err : Int} {ss : List Stp} {rs : List Int} (hL : LineOk err ss) (hR : ReadOk ss rs) (hs : sound (closed err ss rs) = true) {a : Nat} (ha : a < 8) : closed err ss rs a a = 0 := by
  have h1 := sound_iff.1 hs a ha
  have h2 := closed_le (err := err) (ss := ss) (rs := rs) a a
  have hl := hR.len
  have hl6 := hL.len
  rw [tabOf_eq hL hR, if_neg (by omega), if_neg (by omega), if_neg (by omega), if_neg (by omega), if_pos rfl] at h2
  omega

/-- What keeps the tightened table on the points is a truth. -/
theorem truth_of_keeps {err : Int} {ss : List Stp} {rs : List Int} (hL : LineOk err ss) (hR : ReadOk ss rs) (w : Nat → Int) (h0 : w 7 = 0) (h : ∀ a b, a < 8 → b < 8 → liveOf ss a = true → liveOf ss b = true → w a - w b ≤ closed err ss rs a b) : Truth err ss rs w := by
  have hl := hR.len
  have hl6 := hL.len
  have lv : ∀ i, i ≤ ss.length → liveOf ss i = true := fun i hi => (live_iff (by omega)).2 (.inl hi)
  have l7 : liveOf ss 7 = true := (live_iff (by omega)).2 (.inr rfl)
  have hk : ∀ a b, a < 8 → b < 8 → liveOf ss a = true → liveOf ss b = true → w a - w b ≤ tabOf err ss rs a b := fun a b ha hb la lb => Int.le_trans (h a b ha hb la lb) (closed_le a b)
  refine ⟨?_, ?_⟩
  · intro i hi
    have h1 := hk i 7 (by omega) (by omega) (lv i (by omega)) l7
    have h2 := hk 7 i (by omega) (by omega) l7 (lv i (by omega))
    rw [tabOf_eq hL hR, if_neg (by omega), if_neg (by omega), if_pos ⟨rfl, hi⟩] at h1
    rw [tabOf_eq hL hR, if_neg (by omega), if_neg (by omega), if_neg (by omega), if_pos ⟨rfl, hi⟩] at h2
    omega
  · intro i hi
    have h1 := hk i (i + 1) (by omega) (by omega) (lv i (by omega)) (lv _ (by omega))
    have h2 := hk (i + 1) i (by omega) (by omega) (lv _ (by omega)) (lv i (by omega))
    rw [tabOf_eq hL hR, if_pos ⟨rfl, hi⟩] at h1
    rw [tabOf_eq hL hR, if_neg (by omega), if_pos ⟨rfl, hi⟩] at h2
    omega

/-- Each entry is reached. -/
theorem reach {err : Int} {ss : List Stp} {rs : List Int} (hL : LineOk err ss) (hR : ReadOk ss rs) (hs : sound (closed err ss rs) = true) {b : Nat} (hb : b < 8) (lb : liveOf ss b = true) :
    Truth err ss rs (fun x => closed err ss rs x b - closed err ss rs 7 b) := by
  refine truth_of_keeps hL hR _ (by omega) ?_
  intro a c ha hc la lc
  have := closed_tri hL hR hs ha hc hb la lc
  omega

theorem sound_truth {err : Int} {ss : List Stp} {rs : List Int} (hL : LineOk err ss) (hR : ReadOk ss rs) : sound (closed err ss rs) = true ↔ ∃ w, Truth err ss rs w :=
  ⟨fun hs => ⟨_, reach hL hR hs (b := 7) (by omega) ((live_iff (by omega)).2 (.inr rfl))⟩, fun ⟨_, h⟩ => h.sound hL hR⟩

/-- What some points have within the table, is part of a truth. -/
theorem extend {err : Int} {ss : List Stp} {rs : List Int} (hL : LineOk err ss) (hR : ReadOk ss rs) (hs : sound (closed err ss rs) = true) {a b : Nat} (ha : a ≤ ss.length) (hb : b ≤ ss.length) {x y : Int}
    (h1 : x - y ≤ closed err ss rs a b) (h2 : y - x ≤ closed err ss rs b a) (h3 : x ≤ closed err ss rs a 7) (h4 : -x ≤ closed err ss rs 7 a) (h5 : y ≤ closed err ss rs b 7) (h6 : -y ≤ closed err ss rs 7 b) :
    ∃ w, Truth err ss rs w ∧ w a = x ∧ w b = y := by
  have hl6 := hL.len
  have lv : ∀ i, i ≤ ss.length → liveOf ss i = true := fun i hi => (live_iff (by omega)).2 (.inl hi)
  have l7 : liveOf ss 7 = true := (live_iff (by omega)).2 (.inr rfl)
  have dg : ∀ i, i < 8 → closed err ss rs i i = 0 := fun i hi => closed_diag hL hR hs hi
  refine ⟨fun v => min (closed err ss rs v 7) (min (closed err ss rs v a + x) (closed err ss rs v b + y)), truth_of_keeps hL hR _ ?_ ?_, ?_, ?_⟩
  · have := dg 7 (by omega)
    show min (closed err ss rs 7 7) _ = 0
    omega
  · intro v u hv hu lv' lu
    have t1 := closed_tri hL hR hs hv hu (by omega : 7 < 8) lv' lu
    have t2 := closed_tri hL hR hs hv hu (by omega : a < 8) lv' lu
    have t3 := closed_tri hL hR hs hv hu (by omega : b < 8) lv' lu
    show min _ _ - min _ _ ≤ _
    omega
  · have := dg a (by omega)
    show min (closed err ss rs a 7) _ = x
    omega
  · have := dg b (by omega)
    show min (closed err ss rs b 7) _ = y
    omega

end Go.Proofs.YtcncmlpppabbcaaGreat

namespace Go.Proofs.YtcncmlpppabbcaaGreat
set_option linter.unusedVariables false
set_option linter.unusedSimpArgs false
open Go.RowKit

/-- What some numbers from a on give together. -/
def accTo (f : Nat → Int) (a : Nat) : Nat → Int
  | 0 => 0
  | k + 1 => accTo f a k + f (a + k)

theorem accTo_bd (f : Nat → Int) (a n : Nat) (h : ∀ i, i < n → 0 ≤ f i ∧ f i ≤ 1000000) : ∀ k, a + k ≤ n → 0 ≤ accTo f a k ∧ accTo f a k ≤ k * 1000000
  | 0, _ => by simp [accTo]
  | k + 1, hk => by
    have h1 := accTo_bd f a n h k (by omega)
    have h2 := h (a + k) (by omega)
    rw [accTo]
    omega

theorem lost_at {err : Int} {ss : List Stp} {rs : List Int} (hA : askErr err ss rs = 0) {x y : Nat} (hx : x < y) (hy : y ≤ ss.length) :
    lostErr err ss rs x y = (if sound (closed err ss rs) = true then 0 else 9) ∧ lostAt err ss rs x y = if sound (closed err ss rs) = true then (-closed err ss rs y x, closed err ss rs x y) else (0, 0) := by
  have e : lostErr err ss rs x y = (if sound (closed err ss rs) = true then 0 else 9) := by
    unfold lostErr
    rw [if_neg (by omega), if_neg]
    rw [anyOut2]
    simp
    omega
  refine ⟨e, ?_⟩
  unfold lostAt
  rw [e]
  by_cases h : sound (closed err ss rs) = true
  · rw [if_pos h, if_pos rfl, if_pos h, Int.toNat_natCast, Int.toNat_natCast]
  · rw [if_neg h, if_neg h, if_neg (by decide)]

theorem ask_ok {err : Int} {ss : List Stp} {rs : List Int} (h1 : (chk err ss).2.2 = 0) (h2 : rdErr ss rs = 0) : askErr err ss rs = 0 := by
  unfold askErr
  rw [if_neg (by omega), h2]

theorem live_pt {ss : List Stp} {i : Nat} (hi : i ≤ ss.length) (h6 : ss.length ≤ 6) : liveOf ss i = true := (live_iff (by omega)).2 (.inl hi)

/-- A way along the line is no shorter than the table says. -/
theorem along {err : Int} {ss : List Stp} {rs : List Int} (hL : LineOk err ss) (hR : ReadOk ss rs) (hs : sound (closed err ss rs) = true) (a : Nat) : ∀ k, a + k ≤ ss.length →
    closed err ss rs a (a + k) ≤ accTo (shi ss) a k ∧ closed err ss rs (a + k) a ≤ -accTo (slo ss) a k
  | 0, h => by
    have := hL.len
    have := closed_diag hL hR hs (a := a) (by omega)
    simp [accTo]
    omega
  | k + 1, h => by
    have h6 := hL.len
    have ih := along hL hR hs a k (by omega)
    have t1 := closed_tri hL hR hs (i := a) (p := a + k) (k := a + (k + 1)) (by omega) (by omega) (by omega) (live_pt (by omega) h6.2) (live_pt (by omega) h6.2)
    have t2 := closed_tri hL hR hs (i := a + (k + 1)) (p := a + k) (k := a) (by omega) (by omega) (by omega) (live_pt (by omega) h6.2) (live_pt (by omega) h6.2)
    have c1 := closed_le (err := err) (ss := ss) (rs := rs) (a + k) (a + (k + 1))
    have c2 := closed_le (err := err) (ss := ss) (rs := rs) (a + (k + 1)) (a + k)
    rw [tabOf_eq hL hR, if_pos ⟨by omega, by omega⟩] at c1
    rw [tabOf_eq hL hR, if_neg (by omega), if_pos ⟨by omega, by omega⟩] at c2
    rw [accTo, accTo]
    omega

/-- What is lost from a point to a third one. -/
theorem conserved {err : Int} {ss : List Stp} {rs : List Int} (hL : LineOk err ss) (hR : ReadOk ss rs) (hs : sound (closed err ss rs) = true) {a b c : Nat} (hab : a < b) (hbc : b < c) (hc : c ≤ ss.length) :
    -closed err ss rs b a + -closed err ss rs c b ≤ -closed err ss rs c a ∧ closed err ss rs a c ≤ closed err ss rs a b + closed err ss rs b c ∧
    accTo (slo ss) a (c - a) ≤ -closed err ss rs c a ∧ closed err ss rs a c ≤ accTo (shi ss) a (c - a) ∧ -closed err ss rs c a ≤ closed err ss rs a c := by
  have h6 := hL.len
  have t1 := closed_tri hL hR hs (i := c) (p := b) (k := a) (by omega) (by omega) (by omega) (live_pt (by omega) h6.2) (live_pt (by omega) h6.2)
  have t2 := closed_tri hL hR hs (i := a) (p := b) (k := c) (by omega) (by omega) (by omega) (live_pt (by omega) h6.2) (live_pt (by omega) h6.2)
  have t3 := closed_tri hL hR hs (i := a) (p := c) (k := a) (by omega) (by omega) (by omega) (live_pt (by omega) h6.2) (live_pt (by omega) h6.2)
  have d := closed_diag hL hR hs (a := a) (by omega)
  have al := along hL hR hs a (c - a) (by omega)
  rw [show a + (c - a) = c by omega] at al
  omega

end Go.Proofs.YtcncmlpppabbcaaGreat

namespace Go.Proofs.YtcncmlpppabbcaaGreat
set_option linter.unusedVariables false
set_option linter.unusedSimpArgs false
open Go.RowKit

/-- The weights that numbers make, by turns. -/
def wkAt (s0 : Int) (ss : List Stp) (t : Nat → Int) : Nat → Int
  | 0 => s0 % 1000001
  | i + 1 => wkAt s0 ss t i - (slo ss i + t i % (shi ss i - slo ss i + 1))

/-- The readings of them. -/
def rdgAt (err s0 s2 : Int) (ss : List Stp) (t : Nat → Int) (i : Nat) : Int :=
  if s2 / 2 ^ i % 2 = 1 then -1 else max 0 (min 1000000 (wkAt s0 ss t i + (-wrongAt err ss i + t (i + 7) % (wrongAt err ss i - -wrongAt err ss i + 1))))

def valsTo (f : Nat → Int) (n : Nat) : List Int := (List.range n).map f

theorem valsTo_succ (f : Nat → Int) (n : Nat) : valsTo f (n + 1) = valsTo f n ++ [f n] := by simp [valsTo, List.range_succ]
theorem valsTo_len (f : Nat → Int) (n : Nat) : (valsTo f n).length = n := by simp [valsTo]
theorem valsTo_get (f : Nat → Int) (n i : Nat) (h : i < (valsTo f n).length) : (valsTo f n)[i] = f i := by simp [valsTo]
theorem valsTo_get? (f : Nat → Int) (n i : Nat) (h : i < n) : (valsTo f n)[i]? = some (f i) := by simp [valsTo, h]

theorem wk_low {err s0 : Int} {ss : List Stp} {t : Nat → Int} (hL : LineOk err ss) (h0 : 0 ≤ s0) (ht : ∀ i, 0 ≤ t i) : ∀ i, i ≤ ss.length → wkAt s0 ss t i ≤ 1000000 ∧ -(i * 1000000) ≤ wkAt s0 ss t i
  | 0, _ => by
    have h1 := Int.emod_nonneg s0 (by decide : (1000001 : Int) ≠ 0)
    have h2 := Int.emod_lt_of_pos s0 (by decide : (0 : Int) < 1000001)
    unfold wkAt
    omega
  | i + 1, hi => by
    have ih := wk_low hL h0 ht i (by omega)
    have hs := s_bd hL i (by omega)
    have h1 := Int.emod_nonneg (t i) (by omega : shi ss i - slo ss i + 1 ≠ 0)
    have h2 := Int.emod_lt_of_pos (t i) (by omega : 0 < shi ss i - slo ss i + 1)
    rw [wkAt]
    omega

/-- Worked weights are a truth of the worked readings. -/
theorem worked_truth {err s0 s2 : Int} {ss : List Stp} {t : Nat → Int} (hL : LineOk err ss) (h0 : 0 ≤ s0) (ht : ∀ i, 0 ≤ t i) (hw : ∀ i, i ≤ ss.length → 0 ≤ wkAt s0 ss t i) :
    ReadOk ss (valsTo (rdgAt err s0 s2 ss t) (ss.length + 1)) ∧ Truth err ss (valsTo (rdgAt err s0 s2 ss t) (ss.length + 1)) (wkAt s0 ss t) := by
  refine ⟨⟨valsTo_len _ _, ?_⟩, ⟨?_, ?_⟩⟩
  · intro r hr
    obtain ⟨i, -, rfl⟩ := List.mem_map.1 hr
    unfold rdgAt
    split
    · exact .inl rfl
    · refine .inr ?_
      omega
  · intro i hi
    rw [valsTo_len] at hi
    have b := wk_low hL h0 ht i (by omega)
    have p := hw i (by omega)
    have e := wrong_bd hL i
    have h1 := Int.emod_nonneg (t (i + 7)) (by omega : wrongAt err ss i - -wrongAt err ss i + 1 ≠ 0)
    have h2 := Int.emod_lt_of_pos (t (i + 7)) (by omega : 0 < wrongAt err ss i - -wrongAt err ss i + 1)
    unfold loAt hiAt
    rw [valsTo_get? _ _ _ (by omega), Option.getD_some]
    unfold rdgAt rdLo rdHi
    split
    · rw [if_pos rfl, if_pos rfl]
      omega
    · split
      · omega
      · omega
  · intro i hi
    have hs := s_bd hL i hi
    have h1 := Int.emod_nonneg (t i) (by omega : shi ss i - slo ss i + 1 ≠ 0)
    have h2 := Int.emod_lt_of_pos (t i) (by omega : 0 < shi ss i - slo ss i + 1)
    rw [wkAt]
    omega

theorem rdErr_of_ok {ss : List Stp} {rs : List Int} (h : ReadOk ss rs) : rdErr ss rs = 0 := by
  unfold rdErr
  rw [if_neg (by have := h.len; omega), firstErr_miss]
  intro j hj
  have := h.rd rs[j] (List.getElem_mem _)
  unfold rdErr1
  rw [anyOut1]
  rcases this with h1 | h1
  · rw [if_neg (by rw [h1]; simp)]
  · rw [if_neg]
    rintro ⟨-, h2⟩
    simp only [Bool.not_eq_true', Bool.and_eq_false_iff, decide_eq_false_iff_not] at h2
    omega

theorem weights_at {err : Int} {ss : List Stp} {rs : List Int} (hA : askErr err ss rs = 0) :
    wErr err ss rs = (if sound (closed err ss rs) = true then 0 else 9) ∧ wAt err ss rs = if sound (closed err ss rs) = true then wList err ss rs rs.length else [] := by
  have e : wErr err ss rs = (if sound (closed err ss rs) = true then 0 else 9) := by
    unfold wErr
    rw [if_neg (by omega)]
  refine ⟨e, ?_⟩
  unfold wAt
  rw [e]
  by_cases h : sound (closed err ss rs) = true
  · rw [if_pos h, if_pos rfl, if_pos h]
  · rw [if_neg h, if_neg (by decide), if_neg h]

theorem wList_len (err : Int) (ss : List Stp) (rs : List Int) (k : Nat) : (wList err ss rs k).length = k := by simp [wList]
theorem wList_get (err : Int) (ss : List Stp) (rs : List Int) (k i : Nat) (h : i < (wList err ss rs k).length) : (wList err ss rs k)[i] = (-closed err ss rs 7 i, closed err ss rs i 7) := by simp [wList]

/-- A truth lies in the ranges. -/
theorem truth_in {err : Int} {ss : List Stp} {rs : List Int} {w : Nat → Int} (hL : LineOk err ss) (hR : ReadOk ss rs) (h : Truth err ss rs w) :
    (∀ i, i ≤ ss.length → -closed err ss rs 7 i ≤ w i ∧ w i ≤ closed err ss rs i 7) ∧ (∀ i k, i ≤ ss.length → k ≤ ss.length → -closed err ss rs k i ≤ w i - w k ∧ w i - w k ≤ closed err ss rs i k) := by
  have hp := h.closed hL hR
  have hl := hR.len
  have h6 := hL.len
  have e7 : ext rs.length w 7 = 0 := by unfold ext; rw [if_neg (by omega)]
  have ei : ∀ i, i ≤ ss.length → ext rs.length w i = w i := fun i hi => by unfold ext; rw [if_pos (by omega)]
  refine ⟨fun i hi => ?_, fun i k hi hk => ?_⟩
  · have h1 := hp i 7 (by omega) (by omega)
    have h2 := hp 7 i (by omega) (by omega)
    rw [ei i hi, e7] at h1 h2
    omega
  · have h1 := hp i k (by omega) (by omega)
    have h2 := hp k i (by omega) (by omega)
    rw [ei i hi, ei k hk] at h1 h2
    omega

end Go.Proofs.YtcncmlpppabbcaaGreat
