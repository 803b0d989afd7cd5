/- Plain facts: what the reference's 'most' makes of a line and readings: passes over a table until nothing is tightened; what is then there is the tightened table of the program. No program is in sight. -/
import Derived.Test.YtnombgiacfeloaaM21
namespace Go.Proofs.Ytnombgiacfeloaa
set_option linter.unusedVariables false
set_option linter.unusedSimpArgs false
open Go.RowKit

/-- What the first k entries of a row, and the first i rows, are together. -/
def rowSum (M : Tab) (a : Nat) : Nat → Int
  | 0 => 0
  | k + 1 => rowSum M a k + M a k
def tabSum (M : Tab) (n : Nat) : Nat → Int
  | 0 => 0
  | i + 1 => tabSum M n i + rowSum M i n

theorem rowSum_put (M : Tab) (i k : Nat) (v : Int) (a : Nat) : ∀ m, rowSum (put M i k v) a m = rowSum M a m + if a = i ∧ k < m then v - M i k else 0
  | 0 => by simp [rowSum]
  | m + 1 => by
    rw [rowSum, rowSum, rowSum_put M i k v a m]
    unfold put
    by_cases ha : a = i
    · subst ha
      by_cases hk : m = k
      · subst hk
        rw [if_neg (c := a = a ∧ m < m) (by omega), if_pos (c := a = a ∧ m = m) ⟨rfl, rfl⟩, if_pos (c := a = a ∧ m < m + 1) ⟨rfl, by omega⟩]
        omega
      · rw [if_neg (c := a = a ∧ m = k) (by omega)]
        by_cases h2 : k < m
        · rw [if_pos (c := a = a ∧ k < m) ⟨rfl, h2⟩, if_pos (c := a = a ∧ k < m + 1) ⟨rfl, by omega⟩]
          omega
        · rw [if_neg (c := a = a ∧ k < m) (by omega), if_neg (c := a = a ∧ k < m + 1) (by omega)]
          omega
    · rw [if_neg (c := a = i ∧ k < m) (by omega), if_neg (c := a = i ∧ m = k) (by omega), if_neg (c := a = i ∧ k < m + 1) (by omega)]
      omega

theorem tabSum_put (M : Tab) (i k : Nat) (v : Int) (n : Nat) (hk : k < n) : ∀ m, tabSum (put M i k v) n m = tabSum M n m + if i < m then v - M i k else 0
  | 0 => by simp [tabSum]
  | m + 1 => by
    rw [tabSum, tabSum, tabSum_put M i k v n hk m, rowSum_put]
    by_cases h : m = i
    · subst h
      rw [if_neg (by omega), if_pos ⟨rfl, hk⟩, if_pos (by omega)]
      omega
    · rw [if_neg (c := m = i ∧ k < n) (by omega)]
      by_cases h2 : i < m
      · rw [if_pos h2, if_pos (by omega)]
        omega
      · rw [if_neg h2, if_neg (by omega)]
        omega

theorem rowSum_ge (M : Tab) (a : Nat) (B : Int) : ∀ k, (∀ b, b < k → -B ≤ M a b) → -(B * k) ≤ rowSum M a k
  | 0, _ => by simp [rowSum]
  | k + 1, h => by
    have ih := rowSum_ge M a B k (fun b hb => h b (by omega))
    have hk := h k (by omega)
    have e : B * ((k + 1 : Nat) : Int) = B * k + B := by rw [Int.natCast_succ, Int.mul_add, Int.mul_one]
    rw [rowSum, e]
    omega

theorem tabSum_ge (M : Tab) (n : Nat) (hn : n ≤ 8) : ∀ i, (∀ a b, a < i → b < n → -2000000 ≤ M a b) → -(16000000 * i) ≤ tabSum M n i
  | 0, _ => by simp [tabSum]
  | i + 1, h => by
    have ih := tabSum_ge M n hn i (fun a b ha hb => h a b (by omega) hb)
    have hr := rowSum_ge M i 2000000 n (fun b hb => h i b (by omega) hb)
    rw [tabSum]
    omega

/-- The least that is there when row i begins, and when column k of it does. -/
def rowB (i : Nat) : Int := 2000000 * 10 ^ i
def colB (i k : Nat) : Int := rowB i * (1 + k)
theorem rowB_pos (i : Nat) : 0 < rowB i := by
  unfold rowB
  have : (0 : Int) < 10 ^ i := Int.pow_pos (by decide)
  omega
theorem colB_zero (i : Nat) : colB i 0 = rowB i := by simp [colB]
theorem colB_succ (i k : Nat) : colB i (k + 1) = colB i k + rowB i := by
  unfold colB
  rw [Int.natCast_succ, ← Int.add_assoc, Int.mul_add (rowB i) (1 + k) 1, Int.mul_one]
theorem colB_mono (i : Nat) : ∀ k, rowB i ≤ colB i k
  | 0 => by rw [colB_zero]; omega
  | k + 1 => by
    have := colB_mono i k
    have := rowB_pos i
    rw [colB_succ]
    omega
theorem rowB_succ (i : Nat) : rowB (i + 1) = 10 * rowB i := by
  unfold rowB
  rw [Int.pow_succ]
  omega
theorem colB_le (i k : Nat) (hk : k ≤ 8) : colB i k ≤ rowB (i + 1) := by
  have hp := rowB_pos i
  rw [rowB_succ]
  have h : ∀ m, m ≤ 8 → colB i m ≤ (9 : Int) * rowB i := by
    intro m hm
    have : m = 0 ∨ m = 1 ∨ m = 2 ∨ m = 3 ∨ m = 4 ∨ m = 5 ∨ m = 6 ∨ m = 7 ∨ m = 8 := by omega
    unfold colB
    rcases this with rfl | rfl | rfl | rfl | rfl | rfl | rfl | rfl | rfl <;> simp <;> omega
  have := h k hk
  omega
theorem rowB_le (i : Nat) (hi : i ≤ 8) : rowB i ≤ 200000000000000 := by
  have : i = 0 ∨ i = 1 ∨ i = 2 ∨ i = 3 ∨ i = 4 ∨ i = 5 ∨ i = 6 ∨ i = 7 ∨ i = 8 := by omega
  unfold rowB
  rcases this with rfl | rfl | rfl | rfl | rfl | rfl | rfl | rfl | rfl <;> decide

/-- What is always so: the table says no more than the first one, and what keeps the first one, keeps it. -/
structure Tight (T : Tab) (n : Nat) (M : Tab) : Prop where
  up : ∀ a b, a ≤ n → b ≤ n → M a b ≤ T a b
  pot : ∀ w : Nat → Int, (∀ a b, a ≤ n → b ≤ n → w a - w b ≤ T a b) → ∀ a b, a ≤ n → b ≤ n → w a - w b ≤ M a b

/-- Ahead of a pass. -/
structure Top (T : Tab) (n : Nat) (M : Tab) : Prop where
  t : Tight T n M
  diag : ∀ a, a ≤ n → 0 ≤ M a a
  lo : ∀ a b, a ≤ n → b ≤ n → -2000000 ≤ M a b

/-- In a pass: ahead of column k of row i. -/
structure Mid (T : Tab) (n : Nat) (S : Int) (i k : Nat) (ag : Bool) (M : Tab) : Prop where
  t : Tight T n M
  diag : ∀ a, a ≤ n → 0 ≤ M a a
  lo : ∀ a b, a ≤ n → b ≤ n → a ≠ i → -rowB i ≤ M a b
  loi : ∀ b, i ≤ n → b ≤ n → -colB i k ≤ M i b
  pair : ∀ a b, a < b → b ≤ n → (b < i ∨ b = i ∧ b < k) → 0 ≤ M a b + M b a
  tri : ag = false → ∀ a b, a ≤ n → b ≤ n → (a < i ∨ a = i ∧ b < k) → ∀ j, j ≤ n → M a b ≤ M a j + M j b
  sum : tabSum M (n + 1) (n + 1) ≤ S ∧ (ag = true → tabSum M (n + 1) (n + 1) < S)

/-- In a column: ahead of number j. -/
structure Inn (T : Tab) (n : Nat) (S : Int) (i k j : Nat) (ag : Bool) (M : Tab) : Prop where
  t : Tight T n M
  diag : ∀ a, a ≤ n → ¬ (a = i ∧ a = k) → 0 ≤ M a a
  lo : ∀ a b, a ≤ n → b ≤ n → a ≠ i → -rowB i ≤ M a b
  loi : ∀ b, b ≤ n → b ≠ k → -colB i k ≤ M i b
  lok : (k ≠ i ∨ j ≤ i → -(rowB i + colB i k) ≤ M i k) ∧ -(2 * (rowB i + colB i k)) ≤ M i k
  pair : ∀ a b, a < b → b ≤ n → (b < i ∨ b = i ∧ b < k) → 0 ≤ M a b + M b a
  col : ∀ a, a < j → a ≤ n → a ≠ i → a ≠ k → M i k ≤ M i a + M a k
  tri : ag = false → ∀ a b, a ≤ n → b ≤ n → (a < i ∨ a = i ∧ b < k) → ∀ j, j ≤ n → M a b ≤ M a j + M j b
  sum : tabSum M (n + 1) (n + 1) ≤ S ∧ (ag = true → tabSum M (n + 1) (n + 1) < S)

/-- Behind all passes. -/
structure Done (T : Tab) (n : Nat) (M : Tab) : Prop where
  t : Tight T n M
  diag : ∀ a, a ≤ n → 0 ≤ M a a
  tri : ∀ a b, a ≤ n → b ≤ n → ∀ j, j ≤ n → M a b ≤ M a j + M j b

theorem Top.mid {T M : Tab} {n : Nat} (h : Top T n M) : Mid T n (tabSum M (n + 1) (n + 1)) 0 0 false M where
  t := h.t
  diag := h.diag
  lo a b ha hb _ := by have := h.lo a b ha hb; have : rowB 0 = 2000000 := by decide
                       omega
  loi b _ hb := by have := h.lo 0 b (by omega) hb; have : rowB 0 = 2000000 := by decide
                   rw [colB_zero]; omega
  pair a b h1 _ h2 := by omega
  tri _ a b _ _ h2 := by omega
  sum := ⟨Int.le_refl _, fun h => by cases h⟩

theorem Mid.inn {T M : Tab} {n i k : Nat} {S : Int} {ag : Bool} (h : Mid T n S i k ag M) (hi : i ≤ n) (hk : k ≤ n) : Inn T n S i k 0 ag M where
  t := h.t
  diag a ha _ := h.diag a ha
  lo := h.lo
  loi b hb _ := h.loi b hi hb
  lok := by
    have h1 := h.loi k hi hk
    have h2 := rowB_pos i
    have h3 := colB_mono i k
    exact ⟨fun _ => by omega, by omega⟩
  pair := h.pair
  col a ha := by omega
  tri := h.tri
  sum := h.sum

theorem Inn.keep {T M : Tab} {n i k j : Nat} {S : Int} {ag : Bool} (h : Inn T n S i k j ag M) (hj : j ≤ n) (hc : ¬ M i j + M j k < M i k) : Inn T n S i k (j + 1) ag M where
  t := h.t
  diag := h.diag
  lo := h.lo
  loi := h.loi
  lok := ⟨fun h' => h.lok.1 (by omega), h.lok.2⟩
  pair := h.pair
  col a ha hn h1 h2 := by
    by_cases e : a = j
    · subst e
      omega
    · exact h.col a (by omega) hn h1 h2
  tri := h.tri
  sum := h.sum

theorem put_at (M : Tab) (i k : Nat) (v : Int) (a b : Nat) : put M i k v a b = if a = i ∧ b = k then v else M a b := rfl

theorem Inn.upd {T M : Tab} {n i k j : Nat} {S : Int} {ag : Bool} (h : Inn T n S i k j ag M) (hi : i ≤ n) (hk : k ≤ n) (hj : j ≤ n) (hc : M i j + M j k < M i k) : Inn T n S i k (j + 1) true (put M i k (M i j + M j k)) where
  t := by
    refine ⟨fun a b ha hb => ?_, fun w hw a b ha hb => ?_⟩
    · rw [put_at]
      have := h.t.up a b ha hb
      split
      · rename_i e
        obtain ⟨rfl, rfl⟩ := e
        omega
      · exact this
    · rw [put_at]
      split
      · rename_i e
        obtain ⟨rfl, rfl⟩ := e
        have h1 := h.t.pot w hw a j ha hj
        have h2 := h.t.pot w hw j b hj hb
        omega
      · exact h.t.pot w hw a b ha hb
  diag a ha hn := by
    rw [put_at, if_neg (by omega)]
    exact h.diag a ha hn
  lo a b ha hb hn := by
    rw [put_at, if_neg (by omega)]
    exact h.lo a b ha hb hn
  loi b hb hn := by
    rw [put_at, if_neg (by omega)]
    exact h.loi b hb hn
  lok := by
    rw [put_at, if_pos ⟨rfl, rfl⟩]
    have hp := rowB_pos i
    have hm := colB_mono i k
    by_cases e1 : j = i
    · subst e1
      by_cases e2 : k = j
      · subst e2
        have := h.lok.1 (.inr (Nat.le_refl _))
        exact ⟨fun h' => by omega, by omega⟩
      · have := h.diag j hj (by omega)
        omega
    · by_cases e2 : j = k
      · subst e2
        have := h.diag j hj (by omega)
        omega
      · have h1 := h.loi j hj e2
        have h2 := h.lo j k hj hk e1
        exact ⟨fun _ => by omega, by omega⟩
  pair a b hab hb hp := by
    rw [put_at, put_at]
    rw [if_neg (by omega), if_neg (by omega)]
    exact h.pair a b hab hb hp
  col a ha hn h1 h2 := by
    rw [put_at, put_at, put_at, if_pos ⟨rfl, rfl⟩, if_neg (by omega), if_neg (by omega)]
    by_cases e : a = j
    · subst e
      omega
    · have := h.col a (by omega) hn h1 h2
      omega
  tri hf := by cases hf
  sum := by
    have e := tabSum_put M i k (M i j + M j k) (n + 1) (by omega) (n + 1)
    rw [if_pos (by omega)] at e
    rw [e]
    have := h.sum.1
    exact ⟨by omega, fun _ => by omega⟩

theorem Inn.next {T M : Tab} {n i k : Nat} {S : Int} {ag : Bool} (h : Inn T n S i k (n + 1) ag M) (hi : i ≤ n) (hk : k ≤ n) (hd : i = k → ¬ M i k < 0) : Mid T n S i (k + 1) ag M := by
  have dg : ∀ a, a ≤ n → 0 ≤ M a a := by
    intro a ha
    by_cases e : a = i ∧ a = k
    · obtain ⟨rfl, rfl⟩ := e
      have := hd rfl
      omega
    · exact h.diag a ha e
  have hp := rowB_pos i
  have hm := colB_mono i k
  refine ⟨h.t, dg, h.lo, fun b _ hb => ?_, fun a b hab hb hc => ?_, fun hf a b ha hb hc j hj => ?_, h.sum⟩
  · rw [colB_succ]
    by_cases e : b = k
    · subst e
      by_cases e2 : b = i
      · subst e2
        have := dg b hb
        omega
      · have := h.lok.1 (.inl e2)
        omega
    · have := h.loi b hb e
      omega
  · by_cases e : b < i ∨ b = i ∧ b < k
    · exact h.pair a b hab hb e
    · obtain ⟨rfl, rfl⟩ : b = i ∧ b = k := by omega
      have h1 := h.col a (by omega) (by omega) (by omega) (by omega)
      have h2 := dg b hb
      omega
  · by_cases e : a < i ∨ a = i ∧ b < k
    · exact h.tri hf a b ha hb e j hj
    · obtain ⟨rfl, rfl⟩ : a = i ∧ b = k := by omega
      by_cases e1 : j = a
      · subst e1
        have := dg j hj
        omega
      · by_cases e2 : j = b
        · subst e2
          have := dg j hj
          omega
        · exact h.col j (by omega) hj e1 e2

theorem Mid.row {T M : Tab} {n i : Nat} {S : Int} {ag : Bool} (h : Mid T n S i (n + 1) ag M) (hi : i ≤ n) (hn : n ≤ 7) : Mid T n S (i + 1) 0 ag M := by
  have hp := rowB_pos i
  have hs := rowB_succ i
  have hl := colB_le i (n + 1) (by omega)
  refine ⟨h.t, h.diag, fun a b ha hb _ => ?_, fun b h1 hb => ?_, fun a b hab hb hc => h.pair a b hab hb (by omega), fun hf a b ha hb hc => h.tri hf a b ha hb (by omega), h.sum⟩
  · by_cases e : a = i
    · subst e
      have := h.loi b ha hb
      omega
    · have := h.lo a b ha hb e
      omega
  · have := h.lo (i + 1) b h1 hb (by omega)
    rw [colB_zero]
    omega

theorem Mid.again {T M : Tab} {n : Nat} {S : Int} (h : Mid T n S (n + 1) 0 true M) (hT : ∀ a b, a ≤ n → b ≤ n → T a b ≤ 2000000) : Top T n M ∧ tabSum M (n + 1) (n + 1) < S := by
  refine ⟨⟨h.t, h.diag, fun a b ha hb => ?_⟩, h.sum.2 rfl⟩
  rcases Nat.lt_trichotomy a b with h1 | h1 | h1
  · have h2 := h.pair a b h1 hb (by omega)
    have h3 := h.t.up b a hb ha
    have h4 := hT b a hb ha
    omega
  · subst h1
    have := h.diag a ha
    omega
  · have h2 := h.pair b a h1 ha (by omega)
    have h3 := h.t.up b a hb ha
    have h4 := hT b a hb ha
    omega

theorem Mid.done {T M : Tab} {n : Nat} {S : Int} (h : Mid T n S (n + 1) 0 false M) : Done T n M :=
  ⟨h.t, h.diag, fun a b ha hb j hj => h.tri rfl a b ha hb (by omega) j hj⟩

/-- How far apart the numbers can be in a pass. -/
theorem Inn.bd {T M : Tab} {n i k j : Nat} {S : Int} {ag : Bool} (h : Inn T n S i k j ag M) (hT : ∀ a b, a ≤ n → b ≤ n → T a b ≤ 2000000) (hn : n ≤ 7) (hi : i ≤ n) (hk : k ≤ n) : ∀ a b, a ≤ n → b ≤ n → -1000000000000000 ≤ M a b ∧ M a b ≤ 2000000 := by
  intro a b ha hb
  have h1 := rowB_pos i
  have h2 := colB_le i k (by omega)
  have h3 := rowB_le (i + 1) (by omega)
  have h4 := rowB_le i (by omega)
  have h5 := h.t.up a b ha hb
  have h6 := hT a b ha hb
  by_cases e : a = i
  · subst e
    by_cases e2 : b = k
    · subst e2
      have := h.lok.2
      omega
    · have := h.loi b hb e2
      omega
  · have := h.lo a b ha hb e
    omega

/-- The reference's index in the program's table: 0 lies at 7. -/
def sx (n a : Nat) : Nat := if a = n then 7 else a
/-- The reference's first table. -/
def tabQ (err : Int) (ss : List Stp) (rs : List Int) : Tab := fun a b => tabOf err ss rs (sx rs.length a) (sx rs.length b)

theorem sx_lt {n a : Nat} (h : a < n) : sx n a = a := by unfold sx; rw [if_neg (by omega)]
theorem sx_self (n : Nat) : sx n n = 7 := by unfold sx; rw [if_pos rfl]
theorem sx_bd {n a : Nat} (hn : n ≤ 7) (h : a ≤ n) : sx n a < 8 := by unfold sx; split <;> omega

theorem tabQ_bd {err : Int} {ss : List Stp} {rs : List Int} (hL : LineOk err ss) (hR : ReadOk ss rs) (a b : Nat) : -2000000 ≤ tabQ err ss rs a b ∧ tabQ err ss rs a b ≤ 2000000 := tabOf_bd hL hR _ _

theorem tabQ_diag {err : Int} {ss : List Stp} {rs : List Int} (hL : LineOk err ss) (hR : ReadOk ss rs) (a : Nat) (ha : a ≤ rs.length) : tabQ err ss rs a a = 0 := by
  have hl := hR.len
  have h6 := hL.len
  unfold tabQ
  rw [tabOf_eq hL hR]
  have : sx rs.length a = a ∧ a < rs.length ∨ sx rs.length a = 7 := by unfold sx; split <;> omega
  rw [if_neg (by omega), if_neg (by omega), if_neg (by omega), if_neg (by omega), if_pos rfl]

/-- How the reference makes it. -/
theorem tabQ_eq {err : Int} {ss : List Stp} {rs : List Int} (hL : LineOk err ss) (hR : ReadOk ss rs) (a b : Nat) (ha : a ≤ rs.length) (hb : b ≤ rs.length) : tabQ err ss rs a b =
    if a < rs.length ∧ (b : Int) = (a : Int) - 1 then -slo ss b else if a < rs.length ∧ b = a + 1 ∧ b < rs.length then shi ss a else if a = rs.length ∧ b < rs.length then -loAt err ss rs b else if a < rs.length ∧ b = rs.length then hiAt err ss rs a else if a = b then 0 else 2000000 := by
  have hl := hR.len
  have h6 := hL.len
  unfold tabQ
  rw [tabOf_eq hL hR]
  have h1 : sx rs.length a = a ∧ a < rs.length ∨ sx rs.length a = 7 ∧ a = rs.length := by unfold sx; split <;> omega
  have h2 : sx rs.length b = b ∧ b < rs.length ∨ sx rs.length b = 7 ∧ b = rs.length := by unfold sx; split <;> omega
  by_cases c1 : a < rs.length ∧ (b : Int) = (a : Int) - 1
  · rw [if_pos c1]
    have e1 : sx rs.length a = a := by omega
    have e2 : sx rs.length b = b := by omega
    rw [e1, e2, if_neg (by omega), if_pos (by omega)]
  · rw [if_neg c1]
    by_cases c2 : a < rs.length ∧ b = a + 1 ∧ b < rs.length
    · rw [if_pos c2]
      have e1 : sx rs.length a = a := by omega
      have e2 : sx rs.length b = b := by omega
      rw [e1, e2, if_pos (by omega)]
    · rw [if_neg c2]
      by_cases c3 : a = rs.length ∧ b < rs.length
      · rw [if_pos c3]
        have e1 : sx rs.length a = 7 := by omega
        have e2 : sx rs.length b = b := by omega
        rw [e1, e2, if_neg (by omega), if_neg (by omega), if_neg (by omega), if_pos (by omega)]
      · rw [if_neg c3]
        by_cases c4 : a < rs.length ∧ b = rs.length
        · rw [if_pos c4]
          have e1 : sx rs.length a = a := by omega
          have e2 : sx rs.length b = 7 := by omega
          rw [e1, e2, if_neg (by omega), if_neg (by omega), if_pos (by omega)]
        · rw [if_neg c4, if_neg (by omega), if_neg (by omega), if_neg (by omega), if_neg (by omega)]
          exact ifc (by omega) rfl rfl

theorem tabQ_top {err : Int} {ss : List Stp} {rs : List Int} (hL : LineOk err ss) (hR : ReadOk ss rs) : Top (tabQ err ss rs) rs.length (tabQ err ss rs) :=
  ⟨⟨fun _ _ _ _ => Int.le_refl _, fun _ h => h⟩, fun a ha => by rw [tabQ_diag hL hR a ha]; omega, fun a b _ _ => (tabQ_bd hL hR a b).1⟩

/-- A truth keeps the first table. -/
theorem truth_keeps {err : Int} {ss : List Stp} {rs : List Int} (hL : LineOk err ss) (hR : ReadOk ss rs) {w : Nat → Int} (hT : Truth err ss rs w) : ∀ a b, a ≤ rs.length → b ≤ rs.length → ext rs.length w a - ext rs.length w b ≤ tabQ err ss rs a b := by
  intro a b ha hb
  have hl := hR.len
  have h6 := hL.len
  have e : ∀ c, c ≤ rs.length → ext rs.length w (sx rs.length c) = ext rs.length w c := by
    intro c hc
    unfold sx
    split
    · unfold ext
      rw [if_neg (by omega), if_neg (by omega)]
    · rfl
  have := hT.pot hL hR (sx rs.length a) (sx rs.length b) (sx_bd (by omega) ha) (sx_bd (by omega) hb)
  rw [e a ha, e b hb] at this
  exact this

/-- If a number would be above itself by less than 0, there is no truth. -/
theorem tight_none {err : Int} {ss : List Stp} {rs : List Int} (hL : LineOk err ss) (hR : ReadOk ss rs) {M : Tab} (h : Tight (tabQ err ss rs) rs.length M) {i : Nat} (hi : i ≤ rs.length) (hd : M i i < 0) : sound (closed err ss rs) = false := by
  rw [Bool.eq_false_iff]
  intro hs
  obtain ⟨w, hT⟩ := (sound_truth hL hR).1 hs
  have := h.pot _ (truth_keeps hL hR hT) i i hi hi
  omega

theorem done_truth {err : Int} {ss : List Stp} {rs : List Int} (hL : LineOk err ss) (hR : ReadOk ss rs) {M : Tab} (h : Done (tabQ err ss rs) rs.length M) {b : Nat} (hb : b ≤ rs.length) : Truth err ss rs (fun x => M x b - M rs.length b) := by
  have hl := hR.len
  have h6 := hL.len
  refine ⟨fun i hi => ?_, fun i hi => ?_⟩
  · have t1 := h.tri i b (by omega) hb rs.length (Nat.le_refl _)
    have t2 := h.tri rs.length b (Nat.le_refl _) hb i (by omega)
    have u1 := h.t.up i rs.length (by omega) (Nat.le_refl _)
    have u2 := h.t.up rs.length i (Nat.le_refl _) (by omega)
    rw [tabQ_eq hL hR _ _ (by omega) (by omega), if_neg (by omega), if_neg (by omega), if_neg (by omega), if_pos (by omega)] at u1
    rw [tabQ_eq hL hR _ _ (by omega) (by omega), if_neg (by omega), if_neg (by omega), if_pos (by omega)] at u2
    show _ ≤ M i b - M rs.length b ∧ M i b - M rs.length b ≤ _
    omega
  · have t1 := h.tri i b (by omega) hb (i + 1) (by omega)
    have t2 := h.tri (i + 1) b (by omega) hb i (by omega)
    have u1 := h.t.up i (i + 1) (by omega) (by omega)
    have u2 := h.t.up (i + 1) i (by omega) (by omega)
    rw [tabQ_eq hL hR _ _ (by omega) (by omega), if_neg (by omega), if_pos (by omega)] at u1
    rw [tabQ_eq hL hR _ _ (by omega) (by omega), if_pos (by omega)] at u2
    show _ ≤ M i b - M rs.length b - (M (i + 1) b - M rs.length b) ∧ M i b - M rs.length b - (M (i + 1) b - M rs.length b) ≤ _
    omega

/-- Behind all passes the table is the program's. -/
theorem done_eq {err : Int} {ss : List Stp} {rs : List Int} (hL : LineOk err ss) (hR : ReadOk ss rs) {M : Tab} (h : Done (tabQ err ss rs) rs.length M) :
    sound (closed err ss rs) = true ∧ ∀ a b, a ≤ rs.length → b ≤ rs.length → M a b = closed err ss rs (sx rs.length a) (sx rs.length b) := by
  have hl := hR.len
  have h6 := hL.len
  have hs : sound (closed err ss rs) = true := (sound_truth hL hR).2 ⟨_, done_truth hL hR h (Nat.le_refl _)⟩
  have z : ∀ a, a ≤ rs.length → M a a = 0 := by
    intro a ha
    have h1 := h.diag a ha
    have h2 := h.t.up a a ha ha
    rw [tabQ_diag hL hR a ha] at h2
    omega
  have l7 : liveOf ss 7 = true := (live_iff (by omega)).2 (.inr rfl)
  have lv : ∀ a, a ≤ rs.length → liveOf ss (sx rs.length a) = true := by
    intro a ha
    refine (live_iff (sx_bd (by omega) ha)).2 ?_
    unfold sx
    split
    · exact .inr rfl
    · exact .inl (by omega)
  refine ⟨hs, fun a b ha hb => ?_⟩
  have ge : closed err ss rs (sx rs.length a) (sx rs.length b) ≤ M a b := by
    have hT := reach hL hR hs (b := sx rs.length b) (sx_bd (by omega) hb) (lv b hb)
    have hk := h.t.pot _ (truth_keeps hL hR hT) a b ha hb
    have e : ∀ c, c ≤ rs.length → ext rs.length (fun x => closed err ss rs x (sx rs.length b) - closed err ss rs 7 (sx rs.length b)) c = closed err ss rs (sx rs.length c) (sx rs.length b) - closed err ss rs 7 (sx rs.length b) := by
      intro c hc
      unfold ext
      by_cases hcl : c < rs.length
      · rw [if_pos hcl, sx_lt hcl]
      · obtain rfl : c = rs.length := by omega
        rw [if_neg hcl, sx_self]
        omega
    rw [e a ha, e b hb, closed_diag hL hR hs (sx_bd (by omega) hb)] at hk
    omega
  have le : M a b ≤ closed err ss rs (sx rs.length a) (sx rs.length b) := by
    have hT := done_truth hL hR h hb
    obtain ⟨t1, t2⟩ := truth_in hL hR hT
    by_cases ha' : a < rs.length
    · rw [sx_lt ha']
      by_cases hb' : b < rs.length
      · rw [sx_lt hb']
        have := (t2 a b (by omega) (by omega)).2
        have := z b hb
        omega
      · obtain rfl : b = rs.length := by omega
        rw [sx_self]
        have := (t1 a (by omega)).2
        have := z rs.length hb
        omega
    · obtain rfl : a = rs.length := by omega
      rw [sx_self]
      by_cases hb' : b < rs.length
      · rw [sx_lt hb']
        have := (t1 b (by omega)).1
        have := z b hb
        omega
      · obtain rfl : b = rs.length := by omega
        rw [sx_self, z _ hb, closed_diag hL hR hs (by omega)]
        omega
  omega

end Go.Proofs.Ytnombgiacfeloaa
