/- Plain facts: the tightened table reckoned as a list of 64 numbers, and what the program returns for the laws' examples. No program is in sight. -/
import Derived.Test.YtcncmlpppabbcaaGreatR8
import Derived.Test.YtcncmlpppabbcaaGreatW18
import Derived.Test.YtcncmlpppabbcaaGreatW6
namespace Go.Proofs.YtcncmlpppabbcaaGreat
set_option linter.unusedVariables false
set_option linter.unusedSimpArgs false
open Go.RowKit

/-- A list of 64 numbers bears what a table has at its 8 rows. -/
def Bears (M : Tab) (l : List Int) : Prop := l.length = 64 ∧ ∀ a b, a < 8 → b < 8 → M a b = l.getD (a * 8 + b) 0

def updL (l : List Int) (j i k : Nat) : List Int := l.set (i * 8 + k) (min (l.getD (i * 8 + k) 0) (l.getD (i * 8 + j) 0 + l.getD (j * 8 + k) 0))
def rowL (l : List Int) (j i : Nat) : Nat → List Int
  | 0 => l
  | k + 1 => updL (rowL l j i k) j i k
def colL (live : Nat → Bool) (l : List Int) (j : Nat) : Nat → List Int
  | 0 => l
  | i + 1 => if live i then rowL (colL live l j i) j i 8 else colL live l j i
def fwL (live : Nat → Bool) (l : List Int) : Nat → List Int
  | 0 => l
  | j + 1 => colL live (fwL live l j) j 8
def listOf (M : Tab) : List Int := (List.range 64).map fun n => M (n / 8) (n % 8)

theorem bears_listOf (M : Tab) : Bears M (listOf M) := by
  refine ⟨by simp [listOf], fun a b ha hb => ?_⟩
  have h : a * 8 + b < 64 := by omega
  have h1 : (a * 8 + b) / 8 = a := by omega
  have h2 : (a * 8 + b) % 8 = b := by omega
  simp [listOf, List.getD_eq_getElem?_getD, h, h1, h2]

theorem Bears.upd {M : Tab} {l : List Int} (h : Bears M l) {j i k : Nat} (hj : j < 8) (hi : i < 8) (hk : k < 8) : Bears (upd M j i k) (updL l j i k) := by
  refine ⟨by simp [updL, h.1], fun a b ha hb => ?_⟩
  have hl := h.1
  rw [YtcncmlpppabbcaaGreat.upd, put, updL, List.getD_eq_getElem?_getD, List.getElem?_set]
  by_cases e : a = i ∧ b = k
  · obtain ⟨rfl, rfl⟩ := e
    rw [if_pos ⟨rfl, rfl⟩, if_pos rfl, if_pos (by omega), h.2 a b ha hb, h.2 a j ha hj, h.2 j b hj hb]
    rfl
  · rw [if_neg e, if_neg (by omega), h.2 a b ha hb, List.getD_eq_getElem?_getD]

theorem Bears.row {M : Tab} {l : List Int} (h : Bears M l) {j i : Nat} (hj : j < 8) (hi : i < 8) : ∀ k, k ≤ 8 → Bears (rowTo M j i k) (rowL l j i k)
  | 0, _ => h
  | k + 1, hk => (Bears.row h hj hi k (by omega)).upd hj hi hk
theorem Bears.col {live : Nat → Bool} {M : Tab} {l : List Int} (h : Bears M l) {j : Nat} (hj : j < 8) : ∀ i, i ≤ 8 → Bears (colTo live M j i) (colL live l j i)
  | 0, _ => h
  | i + 1, hi => by
    have := Bears.col (live := live) h hj i (by omega)
    simp only [colTo, colL]
    split
    · exact this.row hj hi 8 (Nat.le_refl _)
    · exact this
theorem Bears.fw {live : Nat → Bool} {M : Tab} {l : List Int} (h : Bears M l) : ∀ j, j ≤ 8 → Bears (fwTo live M j) (fwL live l j)
  | 0, _ => h
  | j + 1, hj => by
    have := Bears.fw (live := live) h j (by omega)
    exact this.col hj 8 (Nat.le_refl _)

def closedL (err : Int) (ss : List Stp) (rs : List Int) : List Int := fwL (liveOf ss) (listOf (tabOf err ss rs)) 8
theorem closed_eval (err : Int) (ss : List Stp) (rs : List Int) (a b : Nat) (ha : a < 8) (hb : b < 8) : closed err ss rs a b = (closedL err ss rs).getD (a * 8 + b) 0 :=
  ((bears_listOf _).fw 8 (Nat.le_refl _)).2 a b ha hb
theorem sound_eval (err : Int) (ss : List Stp) (rs : List Int) : sound (closed err ss rs) = (List.range 8).all fun i => decide (0 ≤ (closedL err ss rs).getD (i * 8 + i) 0) := by
  rw [Bool.eq_iff_iff, sound_iff, List.all_eq_true]
  refine forall_congr' fun i => ?_
  rw [List.mem_range, decide_eq_true_eq]
  refine forall_congr' fun hi => ?_
  rw [closed_eval _ _ _ _ _ hi hi]

theorem names_ex : NamesFit exLine := by
  intro x hx
  simp only [exLine, List.mem_cons, List.not_mem_nil, or_false] at hx
  rcases hx with rfl | rfl | rfl <;> decide

theorem ask1 : askErr 50 exLine [1000, -1, 820, 805] = 0 := by decide +kernel
theorem ask2 : askErr 50 exLine [1000, -1, 820, 900] = 0 := by decide +kernel
theorem ask3 : askErr 50 exLine [1300, -1, 820, 805] = 0 := by decide +kernel
theorem snd1 : sound (closed 50 exLine [1000, -1, 820, 805]) = true := by rw [sound_eval]; decide +kernel
theorem snd2 : sound (closed 50 exLine [1000, -1, 820, 900]) = false := by rw [sound_eval]; decide +kernel
theorem snd3 : sound (closed 50 exLine [1300, -1, 820, 805]) = false := by rw [sound_eval]; decide +kernel
theorem snd4 : sound (closed 50 exLine [-1, -1, 820, 805]) = true := by rw [sound_eval]; decide +kernel

theorem wErr1 : wErr 50 exLine [1000, -1, 820, 805] = 0 := by simp [wErr, ask1, snd1]
theorem wAt1 : wAt 50 exLine [1000, -1, 820, 805] = [(950, 1050), (850, 990), (800, 840), (795, 815)] := by
  rw [wAt, if_pos wErr1]
  simp only [wList, List.length_cons, List.length_nil, List.range_succ, List.range_zero, List.map_append, List.map_nil, List.map_cons, List.nil_append, List.cons_append]
  simp (discharger := decide) only [closed_eval]
  decide +kernel
theorem lost1 : lostErr 50 exLine [1000, -1, 820, 805] 0 3 = 0 ∧ lostAt 50 exLine [1000, -1, 820, 805] 0 3 = (135, 255) := by
  have h : lostErr 50 exLine [1000, -1, 820, 805] 0 3 = 0 := by rw [lostErr, ask1, snd1]; decide +kernel
  refine ⟨h, ?_⟩
  rw [lostAt, if_pos h]
  simp (discharger := decide) only [closed_eval]
  decide +kernel
theorem lost2 : lostErr 50 exLine [1000, -1, 820, 805] 1 2 = 0 ∧ lostAt 50 exLine [1000, -1, 820, 805] 1 2 = (50, 150) := by
  have h : lostErr 50 exLine [1000, -1, 820, 805] 1 2 = 0 := by rw [lostErr, ask1, snd1]; decide +kernel
  refine ⟨h, ?_⟩
  rw [lostAt, if_pos h]
  simp (discharger := decide) only [closed_eval]
  decide +kernel
theorem none1 : cErr 50 exLine [1000, -1, 820, 805] = 4 ∧ cAt 50 exLine [1000, -1, 820, 805] = [] := by
  have h : cErr 50 exLine [1000, -1, 820, 805] = 4 := by simp [cErr, ask1, snd1]
  exact ⟨h, by rw [cAt, h]; rfl⟩
theorem che2 : cheatsTo 50 exLine [1000, -1, 820, 900] 4 = [2, 3] := by
  simp only [cheatsTo, sound_eval]
  decide +kernel
theorem che3 : cheatsTo 50 exLine [1300, -1, 820, 805] 4 = [0] := by
  simp only [cheatsTo, sound_eval]
  decide +kernel
theorem cheat2 : cErr 50 exLine [1000, -1, 820, 900] = 0 ∧ cAt 50 exLine [1000, -1, 820, 900] = [2, 3] := by
  have h : cErr 50 exLine [1000, -1, 820, 900] = 0 := by
    have e : cheatsTo 50 exLine [1000, -1, 820, 900] ([1000, -1, 820, 900] : List Int).length ≠ [] := by
      rw [show ([1000, -1, 820, 900] : List Int).length = 4 from rfl, che2]
      exact List.cons_ne_nil _ _
    rw [cErr, if_neg (by rw [ask2]; exact fun h => h rfl), if_neg (by rw [snd2]; exact Bool.false_ne_true), if_neg e]
  exact ⟨h, by rw [cAt, if_pos h]; exact che2⟩
theorem cheat3 : cErr 50 exLine [1300, -1, 820, 805] = 0 ∧ cAt 50 exLine [1300, -1, 820, 805] = [0] := by
  have h : cErr 50 exLine [1300, -1, 820, 805] = 0 := by
    have e : cheatsTo 50 exLine [1300, -1, 820, 805] ([1300, -1, 820, 805] : List Int).length ≠ [] := by
      rw [show ([1300, -1, 820, 805] : List Int).length = 4 from rfl, che3]
      exact List.cons_ne_nil _ _
    rw [cErr, if_neg (by rw [ask3]; exact fun h => h rfl), if_neg (by rw [snd3]; exact Bool.false_ne_true), if_neg e]
  exact ⟨h, by rw [cAt, if_pos h]; exact che3⟩
theorem off3 : offErr 50 exLine [1300, -1, 820, 805] 0 = 0 ∧ offAt 50 exLine [1300, -1, 820, 805] 0 = (210, 450) := by
  have h : offErr 50 exLine [1300, -1, 820, 805] 0 = 0 := by
    rw [offErr, ask3]
    have : ([1300, -1, 820, 805] : List Int).set (0 : Int).toNat (-1) = [-1, -1, 820, 805] := rfl
    rw [this, snd4]; decide +kernel
  refine ⟨h, ?_⟩
  rw [offAt, if_pos h]
  simp (discharger := decide) only [closed_eval]
  decide +kernel

theorem beg2 : beginErr 1 100 (exBags.take 2) = 0 := by decide +kernel
theorem beg3 : beginErr 1 150 exBags = 0 := by decide +kernel
theorem ver2 : verdict 1 100 (exBags.take 2) = 2 := by decide +kernel
theorem bes3 : bestIdx 1 150 exBags = [0, 1] := by decide +kernel

end Go.Proofs.YtcncmlpppabbcaaGreat
