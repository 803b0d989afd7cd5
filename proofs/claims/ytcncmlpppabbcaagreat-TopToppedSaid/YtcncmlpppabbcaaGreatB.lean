/- Base: a slice that reads as rows of cells ('Rd'), and what becomes of it. No program is in sight. -/
import Derived.WalkKit
import Derived.WalkSpells
import Derived.WalkLawsBesides
import Derived.Lib.Hide
namespace Go.Proofs.YtcncmlpppabbcaaGreat
set_option linter.unusedVariables false
set_option linter.unusedSimpArgs false
open Go.RowKit

/-- v is a slice that reads as rows of k cells in w. -/
def Rd (w : World) (k : Nat) (v : Value) (rows : List (List Value)) : Prop :=
  ∃ a c, v = .slice a rows.length c ∧ rows.length ≤ c ∧ rows.length ≤ 9223372036854775807 ∧ (∀ r ∈ rows, r.length = k) ∧
    (0 < rows.length → ∃ b off, a = some ⟨b, off, none⟩ ∧ b < w.heap.size ∧ ∀ j r, rows[j]? = some r → ∀ i x, r[i]? = some x → w.cell? ⟨b, off + j * k + i, none⟩ = some x)

theorem Rd.below {w w' : World} {k : Nat} {v : Value} {rows : List (List Value)} (h : Rd w k v rows) (hb : Below w.heap.size w w') : Rd w' k v rows := by
  obtain ⟨a, c, hv, hc, hm, hl, hr⟩ := h
  refine ⟨a, c, hv, hc, hm, hl, fun h0 => ?_⟩
  obtain ⟨b, off, ha, hlt, hcell⟩ := hr h0
  exact ⟨b, off, ha, Nat.lt_of_lt_of_le hlt hb.size, fun j r hj i x hi => by rw [hb.cell (p := ⟨b, off + j * k + i, none⟩) hlt]; exact hcell j r hj i x hi⟩

def ints (zs : List Int) : List (List Value) := zs.map fun z => [.int .i64 z]

theorem ints_length (zs : List Int) : (ints zs).length = zs.length := by simp [ints]

theorem cell_new_lit (w : World) (xs : List Value) (t : TypeId) (i : Nat) : (w.alloc (.cells xs.toArray t)).cell? ⟨w.heap.size, i, none⟩ = xs[i]? := by
  simp only [World.cell?, heap_alloc_new]
  simp

theorem Rd.made (w : World) (xs : List Value) (t : TypeId) (hx : xs.length ≤ 9223372036854775807) :
    Rd (w.alloc (.cells xs.toArray t)) 1 (.slice (some ⟨w.heap.size, 0, none⟩) xs.length xs.length) (xs.map fun x => [x]) := by
  refine ⟨_, _, by rw [List.length_map], by simp, by simpa using hx, by simp, fun _ => ⟨_, _, rfl, by simp, ?_⟩⟩
  intro j r hj i x hi
  simp only [List.getElem?_map, Option.map_eq_some_iff] at hj
  obtain ⟨y, hy, rfl⟩ := hj
  have hi0 : i = 0 := by
    have := (List.getElem?_eq_some_iff.1 hi).1
    simpa using this
  subst hi0
  simp at hi
  subst hi
  rw [cell_new_lit]
  simpa using hy

/-- The three parts of a slice of numbers. -/
theorem Rd.ints {w : World} {v : Value} {zs : List Int} (h : Rd w 1 v (ints zs)) :
    ∃ a c, v = .slice a zs.length c ∧ zs.length ≤ c ∧ zs.length ≤ 9223372036854775807 ∧ (0 < zs.length → ∃ b off, a = some ⟨b, off, none⟩ ∧ b < w.heap.size ∧ ∀ j (hj : j < zs.length), w.cell? ⟨b, off + j, none⟩ = some (.int .i64 zs[j])) := by
  obtain ⟨a, c, hv, hc, hm, hl, hr⟩ := h
  rw [ints_length] at hv hc hm hr
  refine ⟨a, c, hv, hc, hm, fun h0 => ?_⟩
  obtain ⟨b, off, ha, hlt, hcell⟩ := hr h0
  exact ⟨b, off, ha, hlt, fun j hj => by
    have := hcell j [.int .i64 zs[j]] (by simp [YtcncmlpppabbcaaGreat.ints, hj]) 0 (.int .i64 zs[j]) rfl
    simpa using this⟩

theorem bcell {W w1 : World} (hb : Below W.heap.size W w1) : (∀ b o, b < W.heap.size → w1.cell? ⟨b, o, none⟩ = W.cell? ⟨b, o, none⟩) ∧ (∀ b o, b < W.heap.size → w1.frozen? ⟨b, o, none⟩ = W.frozen? ⟨b, o, none⟩) :=
  ⟨fun b o h => hb.cell (p := ⟨b, o, none⟩) h, fun b o h => hb.frozen (p := ⟨b, o, none⟩) h⟩

theorem ret_int {k : IntKind} {a b : Int} (h : a = b) : Ending.returned (.int k a) = .returned (.int k b) := by rw [h]
theorem ret_bool {a b : Bool} (h : a = b) : Ending.returned (.bool a) = .returned (.bool b) := by rw [h]

/-- The place of the first element with p, or -1. -/
def idx {α : Type} (p : α → Bool) : List α → Nat → Int
  | [], _ => -1
  | x :: l, n => if p x then n else idx p l (n + 1)

theorem idx_hit {α : Type} (p : α → Bool) (l : List α) (n k : Nat) (hk : k < l.length) (h : p l[k] = true) (hn : ∀ j (hj : j < k), p (l[j]'(by omega)) = false) : idx p l n = (n + k : Nat) := by
  induction l generalizing n k with
  | nil => simp at hk
  | cons x l ih =>
    cases k with
    | zero => simp at h; simp [idx, h]
    | succ k =>
      have h0 := hn 0 (by omega)
      simp at h0
      have := ih (n + 1) k (by simpa using hk) (by simpa using h) (fun j hj => by have := hn (j + 1) (by omega); simpa using this)
      simp [idx, h0, this]
      omega

theorem idx_miss {α : Type} (p : α → Bool) (l : List α) (n : Nat) (hn : ∀ j (hj : j < l.length), p l[j] = false) : idx p l n = -1 := by
  induction l generalizing n with
  | nil => rfl
  | cons x l ih =>
    have h0 := hn 0 (by simp)
    simp at h0
    have := ih (n + 1) (fun j hj => by have := hn (j + 1) (by simpa using hj); simpa using this)
    simp [idx, h0, this]

theorem idx_any {α : Type} (p : α → Bool) (l : List α) (n : Nat) : decide (0 ≤ idx p l n) = l.any p := by
  induction l generalizing n with
  | nil => simp [idx]
  | cons x l ih =>
    by_cases hx : p x
    · simp [idx, hx]
    · simp [idx, hx, ih]

theorem Rd.made1 (w : World) (H : Nat) (x : Value) (t : TypeId) (hH : w.heap.size = H) : Rd (w.alloc (.cells #[x] t)) 1 (.slice (some ⟨H, 0, none⟩) 1 1) [[x]] := by subst hH; exact Rd.made w [x] t (by simp)
theorem Rd.made2 (w : World) (H : Nat) (x y : Value) (t : TypeId) (hH : w.heap.size = H) : Rd (w.alloc (.cells #[x, y] t)) 1 (.slice (some ⟨H, 0, none⟩) 2 2) [[x], [y]] := by subst hH; exact Rd.made w [x, y] t (by simp)
theorem Rd.made3 (w : World) (H : Nat) (x y z : Value) (t : TypeId) (hH : w.heap.size = H) : Rd (w.alloc (.cells #[x, y, z] t)) 1 (.slice (some ⟨H, 0, none⟩) 3 3) [[x], [y], [z]] := by subst hH; exact Rd.made w [x, y, z] t (by simp)
theorem Rd.made4 (w : World) (H : Nat) (x y z u : Value) (t : TypeId) (hH : w.heap.size = H) : Rd (w.alloc (.cells #[x, y, z, u] t)) 1 (.slice (some ⟨H, 0, none⟩) 4 4) [[x], [y], [z], [u]] := by subst hH; exact Rd.made w [x, y, z, u] t (by simp)

theorem below_alloc1 (w : World) (o : Obj) : Below w.heap.size w (w.alloc o) := (Below.refl _ _).alloc (Nat.le_refl _) _
theorem below_alloc2 (w : World) (o o' : Obj) : Below w.heap.size w ((w.alloc o).alloc o') := (below_alloc1 w o).alloc (by simp) _
theorem below_drewN {B : Nat} {a w : World} (h : Below B a w) (n : Nat) : Below B a (w.drewN n) := ⟨h.os, h.tape, h.output, h.size, h.block⟩

/-- A bag: the ends of its grams, and its kinds. -/
structure Bag where
  lo : Int
  hi : Int
  kinds : Int

def Bag.row (b : Bag) : List Value := [.int .i64 b.lo, .int .i64 b.hi, .int .i64 b.kinds]
def bagRows (bs : List Bag) : List (List Value) := bs.map Bag.row
theorem bagRows_length (bs : List Bag) : (bagRows bs).length = bs.length := by simp [bagRows]

theorem Rd.bags {w : World} {v : Value} {bs : List Bag} (h : Rd w 3 v (bagRows bs)) :
    ∃ a c, v = .slice a bs.length c ∧ bs.length ≤ c ∧ bs.length ≤ 9223372036854775807 ∧ (0 < bs.length → ∃ b off, a = some ⟨b, off, none⟩ ∧ b < w.heap.size ∧ ∀ j (hj : j < bs.length),
      w.cell? ⟨b, off + j * 3, none⟩ = some (.int .i64 bs[j].lo) ∧ w.cell? ⟨b, off + j * 3 + 1, none⟩ = some (.int .i64 bs[j].hi) ∧ w.cell? ⟨b, off + j * 3 + 2, none⟩ = some (.int .i64 bs[j].kinds)) := by
  obtain ⟨a, c, hv, hc, hm, hl, hr⟩ := h
  rw [bagRows_length] at hv hc hm hr
  refine ⟨a, c, hv, hc, hm, fun h0 => ?_⟩
  obtain ⟨b, off, ha, hlt, hcell⟩ := hr h0
  refine ⟨b, off, ha, hlt, fun j hj => ?_⟩
  have hrow : (bagRows bs)[j]? = some bs[j].row := by simp [bagRows, hj]
  exact ⟨hcell j _ hrow 0 _ rfl, hcell j _ hrow 1 _ rfl, hcell j _ hrow 2 _ rfl⟩

/-- A step: its name, the ends of its loss, and by how much the scales behind it can be wrong. -/
structure Stp where
  name : ByteArray
  lo : Int
  hi : Int
  err : Int

def Stp.row (s : Stp) : List Value := [.string s.name, .int .i64 s.lo, .int .i64 s.hi, .int .i64 s.err]
def stpRows (ss : List Stp) : List (List Value) := ss.map Stp.row
theorem stpRows_length (ss : List Stp) : (stpRows ss).length = ss.length := by simp [stpRows]

theorem Rd.stps {w : World} {v : Value} {ss : List Stp} (h : Rd w 4 v (stpRows ss)) :
    ∃ a c, v = .slice a ss.length c ∧ ss.length ≤ c ∧ ss.length ≤ 9223372036854775807 ∧ (0 < ss.length → ∃ b off, a = some ⟨b, off, none⟩ ∧ b < w.heap.size ∧ ∀ j (hj : j < ss.length),
      w.cell? ⟨b, off + j * 4, none⟩ = some (.string ss[j].name) ∧ w.cell? ⟨b, off + j * 4 + 1, none⟩ = some (.int .i64 ss[j].lo) ∧ w.cell? ⟨b, off + j * 4 + 2, none⟩ = some (.int .i64 ss[j].hi) ∧ w.cell? ⟨b, off + j * 4 + 3, none⟩ = some (.int .i64 ss[j].err)) := by
  obtain ⟨a, c, hv, hc, hm, hl, hr⟩ := h
  rw [stpRows_length] at hv hc hm hr
  refine ⟨a, c, hv, hc, hm, fun h0 => ?_⟩
  obtain ⟨b, off, ha, hlt, hcell⟩ := hr h0
  refine ⟨b, off, ha, hlt, fun j hj => ?_⟩
  have hrow : (stpRows ss)[j]? = some ss[j].row := by simp [stpRows, hj]
  exact ⟨hcell j _ hrow 0 _ rfl, hcell j _ hrow 1 _ rfl, hcell j _ hrow 2 _ rfl, hcell j _ hrow 3 _ rfl⟩

/-- A span: its ends. -/
def spanRows (ss : List (Int × Int)) : List (List Value) := ss.map fun s => [.int .i64 s.1, .int .i64 s.2]
theorem spanRows_length (ss : List (Int × Int)) : (spanRows ss).length = ss.length := by simp [spanRows]

theorem Rd.spans {w : World} {v : Value} {ss : List (Int × Int)} (h : Rd w 2 v (spanRows ss)) :
    ∃ a c, v = .slice a ss.length c ∧ ss.length ≤ c ∧ ss.length ≤ 9223372036854775807 ∧ (0 < ss.length → ∃ b off, a = some ⟨b, off, none⟩ ∧ b < w.heap.size ∧ ∀ j (hj : j < ss.length),
      w.cell? ⟨b, off + j * 2, none⟩ = some (.int .i64 ss[j].1) ∧ w.cell? ⟨b, off + j * 2 + 1, none⟩ = some (.int .i64 ss[j].2)) := by
  obtain ⟨a, c, hv, hc, hm, hl, hr⟩ := h
  rw [spanRows_length] at hv hc hm hr
  refine ⟨a, c, hv, hc, hm, fun h0 => ?_⟩
  obtain ⟨b, off, ha, hlt, hcell⟩ := hr h0
  refine ⟨b, off, ha, hlt, fun j hj => ?_⟩
  have hrow : (spanRows ss)[j]? = some [.int .i64 ss[j].1, .int .i64 ss[j].2] := by simp [spanRows, hj]
  exact ⟨hcell j _ hrow 0 _ rfl, hcell j _ hrow 1 _ rfl⟩

/-- The place and the error of the first thing with one; 0 and 0 if there is none. -/
def firstErr {α : Type} (f : α → Int) : List α → Nat → Int × Int
  | [], _ => (0, 0)
  | x :: l, n => if f x = 0 then firstErr f l (n + 1) else ((n : Int), f x)

theorem firstErr_hit {α : Type} (f : α → Int) (l : List α) (n k : Nat) (hk : k < l.length) (h : f l[k] ≠ 0) (hn : ∀ j (hj : j < k), f (l[j]'(by omega)) = 0) : firstErr f l n = (((n + k : Nat) : Int), f l[k]) := by
  induction l generalizing n k with
  | nil => simp at hk
  | cons x l ih =>
    cases k with
    | zero => simp at h; simp [firstErr, h]
    | succ k =>
      have h0 := hn 0 (by omega)
      simp at h0
      have := ih (n + 1) k (by simpa using hk) (by simpa using h) (fun j hj => by have := hn (j + 1) (by omega); simpa using this)
      simp [firstErr, h0, this]
      omega

theorem firstErr_miss {α : Type} (f : α → Int) (l : List α) (n : Nat) (hn : ∀ j (hj : j < l.length), f l[j] = 0) : firstErr f l n = (0, 0) := by
  induction l generalizing n with
  | nil => rfl
  | cons x l ih =>
    have h0 := hn 0 (by simp)
    simp at h0
    have := ih (n + 1) (fun j hj => by have := hn (j + 1) (by simpa using hj); simpa using this)
    simp [firstErr, h0, this]

/-- What is known behind a call that left all old blocks as they were. -/
theorem after {W w1 : World} {H : Nat} (hb : Below W.heap.size W w1) (hH : W.heap.size = H) :
    (∀ b o, b < H → w1.cell? ⟨b, o, none⟩ = W.cell? ⟨b, o, none⟩) ∧ (∀ b o, b < H → w1.frozen? ⟨b, o, none⟩ = W.frozen? ⟨b, o, none⟩) ∧ H ≤ w1.heap.size := by
  subst hH
  exact ⟨(bcell hb).1, (bcell hb).2, hb.size⟩

/-- A cell that was there is there still, and holds what it held. -/
theorem keep {W w1 : World} (hb : Below W.heap.size W w1) {b o : Nat} {v : Value} (h : W.cell? ⟨b, o, none⟩ = some v) : w1.cell? ⟨b, o, none⟩ = some v := by
  rw [hb.cell (p := ⟨b, o, none⟩) (World.block_lt_of_cell? W _ h)]; exact h
theorem keepF {W w1 : World} (hb : Below W.heap.size W w1) {b o : Nat} {x : Bool} (hl : b < W.heap.size) (h : W.frozen? ⟨b, o, none⟩ = x) : w1.frozen? ⟨b, o, none⟩ = x := by
  rw [hb.frozen (p := ⟨b, o, none⟩) hl]; exact h
theorem lt_of_cell {w : World} {b o : Nat} {v : Value} (h : w.cell? ⟨b, o, none⟩ = some v) : b < w.heap.size := World.block_lt_of_cell? w _ h

def outB (lo hi n : Int) : Bool := decide (n < lo) || decide (n > hi)
def anyOut (lo hi : Int) (zs : List Int) : Bool := zs.any (outB lo hi)

theorem anyOut1 (lo hi x : Int) : anyOut lo hi [x] = !(decide (lo ≤ x) && decide (x ≤ hi)) := by
  unfold anyOut outB
  by_cases h1 : lo ≤ x <;> by_cases h2 : x ≤ hi <;> simp [h1, h2] <;> omega
theorem anyOut2 (lo hi x y : Int) : anyOut lo hi [x, y] = (!(decide (lo ≤ x) && decide (x ≤ hi)) || !(decide (lo ≤ y) && decide (y ≤ hi))) := by
  rw [← anyOut1, ← anyOut1]; simp [anyOut]
theorem anyOut3 (lo hi x y z : Int) : anyOut lo hi [x, y, z] = (!(decide (lo ≤ x) && decide (x ≤ hi)) || !(decide (lo ≤ y) && decide (y ≤ hi)) || !(decide (lo ≤ z) && decide (z ≤ hi))) := by
  rw [← anyOut1, ← anyOut1, ← anyOut1]; simp [anyOut, Bool.or_assoc]

/-- The error of a bag. -/
def bagErr (b : Bag) : Int := if anyOut 0 1000000 [b.lo, b.hi] || anyOut 1 255 [b.kinds] then 7 else if b.hi < b.lo then 2 else 0

/-- What a plain function gives for the first k things, together. -/
def sumTo {α : Type} (f : α → Int) (l : List α) (k : Nat) : Int := ((l.take k).map f).sum

theorem sumTo_zero {α : Type} (f : α → Int) (l : List α) : sumTo f l 0 = 0 := by simp [sumTo]
theorem sumTo_succ {α : Type} (f : α → Int) (l : List α) (k : Nat) (h : k < l.length) : sumTo f l (k + 1) = sumTo f l k + f l[k] := by
  unfold sumTo
  rw [List.take_succ_eq_append_getElem h, List.map_append, List.sum_append]
  simp only [List.map_cons, List.map_nil, List.sum_cons, List.sum_nil, Int.add_zero]
theorem sumTo_bd {α : Type} (f : α → Int) (l : List α) (M : Int) (h : ∀ x ∈ l, 0 ≤ f x ∧ f x ≤ M) (k : Nat) (hk : k ≤ l.length) : 0 ≤ sumTo f l k ∧ sumTo f l k ≤ k * M := by
  induction k with
  | zero => simp [sumTo_zero]
  | succ k ih =>
    have := ih (by omega)
    rw [sumTo_succ f l k (by omega)]
    have hx := h l[k] (List.getElem_mem _)
    have : ((k + 1 : Nat) : Int) * M = k * M + M := by rw [Int.natCast_add, Int.add_mul]; simp
    omega


theorem getElem?_flatten_const {rows : List (List Value)} {k : Nat} (hl : ∀ r ∈ rows, r.length = k) : ∀ (j : Nat) (r : List Value), rows[j]? = some r → ∀ (i : Nat) (x : Value), r[i]? = some x → rows.flatten[j * k + i]? = some x := by
  induction rows with
  | nil => intro j r hj; simp at hj
  | cons a rows ih =>
    intro j r hj i x hi
    have ha := hl a (by simp)
    cases j with
    | zero =>
      simp at hj
      subst hj
      have hlt := (List.getElem?_eq_some_iff.1 hi).1
      simp only [Nat.zero_mul, Nat.zero_add, List.flatten_cons]
      rw [List.getElem?_append_left hlt]; exact hi
    | succ j =>
      simp at hj
      simp only [List.flatten_cons]
      rw [List.getElem?_append_right (by rw [ha, Nat.add_mul]; omega)]
      have := ih (fun r hr => hl r (by simp [hr])) j r hj i x hi
      rw [← this, ha]
      congr 1
      rw [Nat.add_mul]
      omega

theorem length_flatten_const {rows : List (List Value)} {k : Nat} (hl : ∀ r ∈ rows, r.length = k) : rows.flatten.length = rows.length * k := by
  induction rows with
  | nil => simp
  | cons a rows ih =>
    have ha := hl a (by simp)
    have := ih (fun r hr => hl r (by simp [hr]))
    simp only [List.flatten_cons, List.length_append, List.length_cons, this, ha, Nat.add_mul]
    omega

/-- What the call has appended to a slice of its own reads as rows. -/
theorem Rd.of_owns {w : World} {base e k : Nat} {v : Value} {rows : List (List Value)} (h : w.ownsRow base e k v rows.length rows.flatten) (hl : ∀ r ∈ rows, r.length = k) : Rd w k v rows := by
  obtain ⟨-, h2⟩ := h
  rcases h2 with ⟨rfl, h0⟩ | ⟨g, cap, cur, rfl, hb, hg, hn, hm, hs, ht⟩
  · refine ⟨none, 0, by rw [h0], by omega, by omega, hl, fun h => by omega⟩
  · refine ⟨_, cap, rfl, hn, by unfold maxLen at hm; omega, hl, fun h0 => ⟨g, 0, rfl, (Array.getElem?_eq_some_iff.1 hg).1, ?_⟩⟩
    intro j r hj i x hi
    have h1 := getElem?_flatten_const hl j r hj i x hi
    rw [cell_of_row w g (0 + j * k + i) cur e (0, 0) hg]
    rw [← ht, List.getElem?_take] at h1
    split at h1
    · simpa using h1
    · cases h1

theorem bagRows_len (bs : List Bag) : ∀ r ∈ bagRows bs, r.length = 3 := by
  intro r hr
  obtain ⟨b, -, rfl⟩ := List.mem_map.1 hr
  rfl

/-! ### Choices of bags -/

/-- Whether the bag i of n is in a choice: the first one is the highest bit. -/
def hasBit (n bits i : Nat) : Bool := bits / 2 ^ (n - 1 - i) % 2 == 1

/-- The first k bags that are in a choice. -/
def chosenTo (bs : List Bag) (bits : Nat) : Nat → List Bag
  | 0 => []
  | k + 1 => match bs[k]? with
    | some b => if hasBit bs.length bits k then chosenTo bs bits k ++ [b] else chosenTo bs bits k
    | none => chosenTo bs bits k

theorem chosenTo_len (bs : List Bag) (bits k : Nat) : (chosenTo bs bits k).length ≤ k := by
  induction k with
  | zero => simp [chosenTo]
  | succ k ih =>
    unfold chosenTo
    split
    · split
      · simp; omega
      · omega
    · omega

theorem chosenTo_mem (bs : List Bag) (bits k : Nat) : ∀ b ∈ chosenTo bs bits k, b ∈ bs := by
  induction k with
  | zero => intro b hb; simp [chosenTo] at hb
  | succ k ih =>
    intro b hb
    unfold chosenTo at hb
    split at hb
    · rename_i x hx
      split at hb
      · rcases List.mem_append.1 hb with h | h
        · exact ih b h
        · simp at h; subst h; exact List.mem_of_getElem? hx
      · exact ih b hb
    · exact ih b hb

/-- How heavy bags are at least. -/
def leastG (bs : List Bag) : Int := (bs.map Bag.lo).sum

theorem leastG_snoc (bs : List Bag) (b : Bag) : leastG (bs ++ [b]) = leastG bs + b.lo := by
  unfold leastG
  rw [List.map_append, List.sum_append]
  simp only [List.map_cons, List.map_nil, List.sum_cons, List.sum_nil, Int.add_zero]

theorem leastG_bd (bs : List Bag) (h : ∀ b ∈ bs, 0 ≤ b.lo ∧ b.lo ≤ 1000000) : 0 ≤ leastG bs ∧ leastG bs ≤ bs.length * 1000000 := by
  induction bs with
  | nil => simp [leastG]
  | cons x l ih =>
    have h1 := h x (by simp)
    have h2 := ih (fun b hb => h b (by simp [hb]))
    have : leastG (x :: l) = x.lo + leastG l := by simp [leastG]
    rw [this]
    simp only [List.length_cons]
    omega

def cmpI (a b : Int) : Int := if a < b then -1 else if b < a then 1 else 0

/-- A choice: how heavy it is at least, how many bags, and which ones. -/
structure Choice where
  grams : Int
  many : Int
  bits : Int

def sameC (x y : Choice) : Bool := x.grams == y.grams && x.many == y.many && x.bits == y.bits

def candOf (bs : List Bag) (bits : Nat) : Choice := ⟨leastG (chosenTo bs bits bs.length), (chosenTo bs bits bs.length).length, bits⟩

/-- The first number that is not 0. -/
def orI : List Int → Int
  | [] => 0
  | x :: l => if x = 0 then orI l else x

def ord1 (x y : Choice) : Int := orI [0, cmpI (-x.grams) (-y.grams)]
def ord2 (x y : Choice) : Int := orI [ord1 x y, cmpI x.many y.many]
def ord3 (x y : Choice) : Int := orI [ord2 x y, cmpI (-x.bits) (-y.bits)]

/-- The better one of the best choice so far and another one; 'sure' is whether the bags of the other one surely make the sort. -/
def stepC (sure : Bool) (first x : Choice) : Choice := if sameC x first || !sure then first else if ord3 x first < 0 then x else first

end Go.Proofs.YtcncmlpppabbcaaGreat
