/- Plain facts: bits, and cells of new blocks. No program is in sight. Plain facts: names. No program is in sight. Plain facts: lines, their steps and readings. No program is in sight. Plain facts: blocks that are known whole. No program is in sight. Plain facts: what a weight can be by its reading alone. No program is in sight. Plain facts: the tightening of differences ('close'). No program is in sight. Plain facts: a table of 8 by 8 numbers that lies in a block. No program is in sight. -/
import Derived.Test.YtcncmlpppabbcaaGreatB
namespace Go.Proofs.YtcncmlpppabbcaaGreat
set_option linter.unusedVariables false
set_option linter.unusedSimpArgs false
open Go.RowKit

theorem wrap_i64_nat (n : Nat) (h : n < 9223372036854775808) : IntKind.i64.wrap (n : Int) = (n : Int) := IntWalk.i64_in _ (by omega)

theorem bits_and_i64_nat (a b : Nat) (ha : a < 9223372036854775808) (hb : b < 9223372036854775808) : bits .and .i64 (a : Int) (b : Int) = ((a &&& b : Nat) : Int) := by
  have hx : a &&& b < 2 ^ 63 := Nat.and_lt_two_pow _ (by omega)
  have h1 : (BitVec.ofInt 64 (a : Int)).toNat = a := by
    rw [BitVec.ofInt_natCast, BitVec.toNat_ofNat]; exact Nat.mod_eq_of_lt (by omega)
  have h2 : (BitVec.ofInt 64 (b : Int)).toNat = b := by
    rw [BitVec.ofInt_natCast, BitVec.toNat_ofNat]; exact Nat.mod_eq_of_lt (by omega)
  show IntKind.i64.wrap ((BitVec.ofInt 64 (a : Int) &&& BitVec.ofInt 64 (b : Int)).toNat : Int) = _
  rw [BitVec.toNat_and, h1, h2]
  exact wrap_i64_nat _ (by omega)

theorem bits_andNot_i64_nat (a b : Nat) (ha : a < 9223372036854775808) (hb : b < 9223372036854775808) : bits .andNot .i64 (a : Int) (b : Int) = ((a &&& (18446744073709551615 - b) : Nat) : Int) := by
  have hx : a &&& (18446744073709551615 - b) ≤ a := Nat.and_le_left
  have h1 : (BitVec.ofInt 64 (a : Int)).toNat = a := by
    rw [BitVec.ofInt_natCast, BitVec.toNat_ofNat]; exact Nat.mod_eq_of_lt (by omega)
  have h2 : (BitVec.ofInt 64 (b : Int)).toNat = b := by
    rw [BitVec.ofInt_natCast, BitVec.toNat_ofNat]; exact Nat.mod_eq_of_lt (by omega)
  show IntKind.i64.wrap ((BitVec.ofInt 64 (a : Int) &&& ~~~ BitVec.ofInt 64 (b : Int)).toNat : Int) = _
  have h3 : (2 : Nat) ^ 64 - 1 - b = 18446744073709551615 - b := by simp
  rw [BitVec.toNat_and, BitVec.toNat_not, h1, h2, h3]
  exact wrap_i64_nat _ (by omega)

/-- '(k >> e) & 1'. -/
theorem bit_and_one (k e : Nat) (hk : k < 9223372036854775808) : bits .and .i64 ((k : Int) / 2 ^ e) 1 = ((k / 2 ^ e % 2 : Nat) : Int) := by
  have hle : k / 2 ^ e ≤ k := Nat.div_le_self _ _
  have h := bits_and_i64_nat (k / 2 ^ e) 1 (by omega) (by omega)
  rw [Nat.and_one_is_mod] at h
  have e1 : ((k / 2 ^ e : Nat) : Int) = (k : Int) / 2 ^ e := by simp
  rw [e1] at h
  exact h

theorem bit_test (n k j : Nat) (hk : k < 9223372036854775808) : (bits .and .i64 ((k : Int) / 2 ^ (n - 1 - j)) 1 == 1) = hasBit n k j := by
  rw [bit_and_one _ _ hk]
  unfold hasBit
  have h2 : k / 2 ^ (n - 1 - j) % 2 < 2 := Nat.mod_lt _ (by omega)
  generalize k / 2 ^ (n - 1 - j) % 2 = m at h2
  have : m = 0 ∨ m = 1 := by omega
  rcases this with rfl | rfl <;> rfl

theorem cells_new (w : World) (H : Nat) (xs : List Value) (t : TypeId) (hH : w.heap.size = H) : ∀ j u, xs[j]? = some u → (w.alloc (.cells xs.toArray t)).cell? ((⟨H, 0, none⟩ : Addr).add j) = some u := by
  intro j u hu
  subst hH
  rw [Addr.add_lit, Nat.zero_add, cell_new_lit]
  exact hu

theorem below_size {B : Nat} {w w' : World} (h : Below B w w') : w.heap.size ≤ w'.heap.size := h.size

theorem grown_below {W w1 : World} {row : Option Nat} {B : Nat} (hg : W.grownBy w1 row) (hB : B ≤ W.heap.size) (hr : ∀ k, row = some k → B ≤ k) : Below B W w1 :=
  (Below.refl B W).grown hg hB hr

theorem grown_keep {W w1 : World} {row : Option Nat} (hg : W.grownBy w1 row) {b o : Nat} {v : Value} (h : W.cell? ⟨b, o, none⟩ = some v) (hne : some b ≠ row) : w1.cell? ⟨b, o, none⟩ = some v := hg.cell h hne
theorem grown_keepF {W w1 : World} {row : Option Nat} (hg : W.grownBy w1 row) {b o : Nat} {x : Bool} (hl : b < W.heap.size) (h : W.frozen? ⟨b, o, none⟩ = x) (hne : some b ≠ row) : w1.frozen? ⟨b, o, none⟩ = x := by
  rw [World.frozen?_of_block (w := W) (hg.block b hl hne)]; exact h

end Go.Proofs.YtcncmlpppabbcaaGreat

namespace Go.Proofs.YtcncmlpppabbcaaGreat
set_option linter.unusedVariables false
set_option linter.unusedSimpArgs false
open Go.RowKit

/-- Whether letters go on as a name, where the one before is a dash (or there is none). -/
def nameGo : Bool → List UInt8 → Bool
  | last, [] => !last
  | last, c :: l => if c.toNat = 45 then (if last then false else nameGo true l) else if 97 ≤ c.toNat ∧ c.toNat ≤ 122 then nameGo false l else false

/-- Whether a string is a name. -/
def nameOk (s : ByteArray) : Bool := nameGo true s.data.toList && decide (s.size ≤ 20)

theorem nameGo_dash (l : List UInt8) (c : UInt8) (h : c.toNat = 45) (last : Bool) : nameGo last (c :: l) = if last then false else nameGo true l := by
  simp [nameGo, h]
theorem nameGo_letter (l : List UInt8) (c : UInt8) (h : 97 ≤ c.toNat) (h' : c.toNat ≤ 122) (last : Bool) : nameGo last (c :: l) = nameGo false l := by
  have : ¬ c.toNat = 45 := by omega
  simp [nameGo, this, h, h']
theorem nameGo_bad (l : List UInt8) (c : UInt8) (h : ¬ c.toNat = 45) (h' : ¬ (97 ≤ c.toNat ∧ c.toNat ≤ 122)) (last : Bool) : nameGo last (c :: l) = false := by
  simp only [nameGo, if_neg h, if_neg h']

theorem drop_cons (s : ByteArray) (p : Nat) (h : p < s.size) : s.data.toList.drop p = s[p] :: s.data.toList.drop (p + 1) := by
  have h' : p < s.data.toList.length := by simpa using h
  rw [List.drop_eq_getElem_cons h']
  rfl

/-- The same, asked letter by letter. -/
theorem nameGo_iff (l : List UInt8) (last : Bool) : nameGo last l = true ↔
    ((l = [] → last = false) ∧ (∀ c l', l = c :: l' → last = true → c.toNat ≠ 45) ∧ (∀ c, l.getLast? = some c → c.toNat ≠ 45) ∧
      (∀ i (h : i < l.length), (l[i].toNat = 45 ∨ 97 ≤ l[i].toNat ∧ l[i].toNat ≤ 122) ∧ (∀ hi : 0 < i, ¬ (l[i].toNat = 45 ∧ l[i - 1].toNat = 45)))) := by
  induction l generalizing last with
  | nil => simp [nameGo]
  | cons c l ih =>
    have hlast : (c :: l).getLast? = some (l.getLast?.getD c) := by
      cases l with
      | nil => rfl
      | cons a l => simp [List.getLast?_cons]
    by_cases h45 : c.toNat = 45
    · rw [nameGo_dash _ _ h45]
      cases last with
      | true =>
        simp only [if_true, Bool.false_eq_true, false_iff]
        intro h
        exact h.2.1 c l rfl trivial h45
      | false =>
        simp only [Bool.false_eq_true, if_false]
        rw [ih]
        constructor
        · rintro ⟨h1, h2, h3, h4⟩
          refine ⟨by simp, by simp, ?_, ?_⟩
          · intro c' hc'
            rw [hlast] at hc'
            cases l with
            | nil => simp at h1
            | cons a l =>
              obtain rfl := Option.some.inj hc'
              cases hl : (a :: l).getLast? with
              | none => simp at hl
              | some z => exact h3 z hl
          · intro i hi
            cases i with
            | zero => exact ⟨.inl h45, fun h => absurd h (by omega)⟩
            | succ i =>
              have := h4 i (by simpa using hi)
              refine ⟨by simpa using this.1, fun _ => ?_⟩
              cases i with
              | zero =>
                cases l with
                | nil => simp at hi
                | cons a l =>
                  rintro ⟨g1, -⟩
                  exact h2 a l rfl rfl (by simpa using g1)
              | succ i => simpa using this.2 (by omega)
        · rintro ⟨h1, h2, h3, h4⟩
          refine ⟨?_, ?_, ?_, ?_⟩
          · rintro rfl
            exact absurd h45 (h3 c rfl)
          · rintro a l' rfl _ ha
            have := (h4 1 (by simp)).2 (by omega)
            exact this ⟨by simpa using ha, by simpa using h45⟩
          · intro z hz
            apply h3 z
            rw [hlast, hz]; rfl
          · intro i hi
            have := h4 (i + 1) (by simpa using hi)
            refine ⟨by simpa using this.1, fun h0 => ?_⟩
            have h5 := this.2 (by omega)
            cases i with
            | zero => omega
            | succ i => simpa using h5
    · by_cases hr : 97 ≤ c.toNat ∧ c.toNat ≤ 122
      · rw [nameGo_letter _ _ hr.1 hr.2, ih]
        constructor
        · rintro ⟨h1, h2, h3, h4⟩
          refine ⟨by simp, ?_, ?_, ?_⟩
          · rintro a l' h _
            obtain ⟨rfl, rfl⟩ := List.cons.inj h
            exact h45
          · intro z hz
            rw [hlast] at hz
            obtain rfl := Option.some.inj hz
            cases hl : l.getLast? with
            | none => exact h45
            | some z => exact h3 z hl
          · intro i hi
            cases i with
            | zero => exact ⟨.inr hr, fun h => absurd h (by omega)⟩
            | succ i =>
              have := h4 i (by simpa using hi)
              refine ⟨by simpa using this.1, fun _ => ?_⟩
              cases i with
              | zero => rintro ⟨-, g2⟩; exact h45 (by simpa using g2)
              | succ i => simpa using this.2 (by omega)
        · rintro ⟨h1, h2, h3, h4⟩
          refine ⟨fun _ => rfl, by simp, ?_, ?_⟩
          · intro z hz
            apply h3 z
            rw [hlast, hz]; rfl
          · intro i hi
            have := h4 (i + 1) (by simpa using hi)
            refine ⟨by simpa using this.1, fun h0 => ?_⟩
            have h5 := this.2 (by omega)
            cases i with
            | zero => omega
            | succ i => simpa using h5
      · rw [nameGo_bad _ _ h45 hr]
        simp only [Bool.false_eq_true, false_iff]
        rintro ⟨h1, h2, h3, h4⟩
        rcases (h4 0 (by simp)).1 with h | h
        · exact h45 (by simpa using h)
        · exact hr (by simpa using h)

end Go.Proofs.YtcncmlpppabbcaaGreat

namespace Go.Proofs.YtcncmlpppabbcaaGreat
set_option linter.unusedVariables false
set_option linter.unusedSimpArgs false
open Go.RowKit

def eqN (x y : ByteArray) : Bool := x.toList == y.toList

/-- The error of a step, by those before it. -/
def stepErr (before : List Stp) (x : Stp) : Int :=
  if !nameOk x.name then 6 else if before.any (fun y => eqN y.name x.name) then 5 else if anyOut 0 1000000 [x.lo, x.hi, x.err] then 7 else if x.hi < x.lo then 2 else 0

def stepErrAt (ss : List Stp) (i : Nat) : Int := match ss[i]? with
  | some x => stepErr (ss.take i) x
  | none => 0

/-- The first place (of r from i on) with an error, and the error. -/
def firstAt (f : Nat → Int) : Nat → Nat → Int × Int
  | 0, _ => (0, 0)
  | r + 1, i => if f i = 0 then firstAt f r (i + 1) else ((i : Int), f i)

theorem firstAt_hit (f : Nat → Int) (r i k : Nat) (hk : k < r) (h : f (i + k) ≠ 0) (hn : ∀ j, j < k → f (i + j) = 0) : firstAt f r i = (((i + k : Nat) : Int), f (i + k)) := by
  induction r generalizing i k with
  | zero => omega
  | succ r ih =>
    cases k with
    | zero => simp at h; simp [firstAt, h]
    | succ k =>
      have h0 := hn 0 (by omega)
      simp at h0
      have := ih (i + 1) k (by omega) (by rw [Nat.add_assoc, Nat.add_comm 1 k]; exact h) (fun j hj => by have := hn (j + 1) (by omega); rw [Nat.add_assoc, Nat.add_comm 1 j]; exact this)
      simp [firstAt, h0, this]
      rw [show i + 1 + k = i + (k + 1) from by omega]
      constructor
      · omega
      · trivial

theorem firstAt_miss (f : Nat → Int) (r i : Nat) (hn : ∀ j, j < r → f (i + j) = 0) : firstAt f r i = (0, 0) := by
  induction r generalizing i with
  | zero => rfl
  | succ r ih =>
    have h0 := hn 0 (by omega)
    simp at h0
    have := ih (i + 1) (fun j hj => by have := hn (j + 1) (by omega); rw [Nat.add_assoc, Nat.add_comm 1 j]; exact this)
    simp [firstAt, h0, this]

/-- The part, the index in it and the error of a line. -/
def chk (err : Int) (ss : List Stp) : Int × Int × Int :=
  if anyOut 0 1000000 [err] then (1, 0, 7) else if anyOut 1 6 [(ss.length : Int)] then (2, 0, 3) else
    let r := firstAt (stepErrAt ss) ss.length 0
    if r.2 = 0 then (0, 0, 0) else (2, r.1, r.2)

/-- The error of a reading, and of readings. -/
def rdErr1 (r : Int) : Int := if r ≠ -1 ∧ anyOut 0 1000000 [r] = true then 7 else 0
def rdErr (ss : List Stp) (rs : List Int) : Int := if rs.length ≠ ss.length + 1 then 3 else (firstErr rdErr1 rs 0).2

/-- The error of a line and readings. -/
def askErr (err : Int) (ss : List Stp) (rs : List Int) : Int := if (chk err ss).2.2 ≠ 0 then (chk err ss).2.2 else rdErr ss rs

theorem Rd.take {w : World} {k n c : Nat} {a : Option Addr} {rows : List (List Value)} (h : Rd w k (.slice a n c) rows) (i : Nat) (hi : i ≤ rows.length) : Rd w k (.slice a i c) (rows.take i) := by
  obtain ⟨a', c', hv, hc, hm, hl, hr⟩ := h
  simp only [Value.slice.injEq] at hv
  obtain ⟨rfl, -, rfl⟩ := hv
  have hlen : (rows.take i).length = i := by simp; omega
  refine ⟨a, c, by rw [hlen], by omega, by omega, fun r hr => hl r (List.mem_of_mem_take hr), fun h0 => ?_⟩
  obtain ⟨b, off, ha, hlt, hcell⟩ := hr (by omega)
  refine ⟨b, off, ha, hlt, fun j r hj i' x hx => hcell j r ?_ i' x hx⟩
  rw [List.getElem?_take] at hj
  split at hj
  · exact hj
  · cases hj

/-- What a line without an error is like. -/
structure LineOk (err : Int) (ss : List Stp) : Prop where
  err : 0 ≤ err ∧ err ≤ 1000000
  len : 1 ≤ ss.length ∧ ss.length ≤ 6
  stp : ∀ x ∈ ss, 0 ≤ x.lo ∧ x.lo ≤ x.hi ∧ x.hi ≤ 1000000 ∧ 0 ≤ x.err ∧ x.err ≤ 1000000

theorem firstAt_zero (f : Nat → Int) (r i : Nat) (h : (firstAt f r i).2 = 0) : ∀ j, j < r → f (i + j) = 0 := by
  induction r generalizing i with
  | zero => intro j hj; omega
  | succ r ih =>
    unfold firstAt at h
    by_cases h0 : f i = 0
    · rw [if_pos h0] at h
      intro j hj
      cases j with
      | zero => exact h0
      | succ j =>
        have := ih (i + 1) h j (by omega)
        rw [show i + (j + 1) = i + 1 + j from by omega]; exact this
    · rw [if_neg h0] at h
      exact absurd h h0

theorem chk_ok {err : Int} {ss : List Stp} (h : (chk err ss).2.2 = 0) : LineOk err ss := by
  unfold chk at h
  by_cases h1 : anyOut 0 1000000 [err] = true
  · rw [if_pos h1] at h; simp at h
  · rw [if_neg h1] at h
    by_cases h2 : anyOut 1 6 [(ss.length : Int)] = true
    · rw [if_pos h2] at h; simp at h
    · rw [if_neg h2] at h
      have h3 : (firstAt (stepErrAt ss) ss.length 0).2 = 0 := by
        by_cases h4 : (firstAt (stepErrAt ss) ss.length 0).2 = 0
        · exact h4
        · simp only [if_neg h4] at h
          exact absurd h h4
      rw [anyOut1] at h1 h2
      simp only [Bool.not_eq_true', Bool.and_eq_false_iff, decide_eq_false_iff_not] at h1 h2
      refine ⟨by omega, by omega, fun x hx => ?_⟩
      obtain ⟨j, hj, rfl⟩ := List.getElem_of_mem hx
      have h5 := firstAt_zero _ _ _ h3 j hj
      rw [Nat.zero_add] at h5
      unfold stepErrAt at h5
      rw [List.getElem?_eq_getElem hj] at h5
      dsimp only at h5
      unfold stepErr at h5
      split at h5
      · simp at h5
      · split at h5
        · simp at h5
        · split at h5
          · simp at h5
          · rename_i h6
            split at h5
            · simp at h5
            · rw [anyOut3] at h6
              simp only [Bool.or_eq_true, Bool.not_eq_true', Bool.and_eq_false_iff, decide_eq_false_iff_not] at h6
              omega

end Go.Proofs.YtcncmlpppabbcaaGreat

namespace Go.Proofs.YtcncmlpppabbcaaGreat
set_option linter.unusedVariables false
set_option linter.unusedSimpArgs false
open Go.RowKit

theorem owns_block {w : World} {base e g n : Nat} {xs : List Value} (h : w.ownsRow base e 1 (.slice (some ⟨g, 0, none⟩) n n) n xs) : ∃ cur : List Value, w.heap[g]? = some (.cells cur.toArray e (0, 0)) ∧ cur.length = n := by
  obtain ⟨-, h2⟩ := h
  rcases h2 with ⟨h, -⟩ | ⟨g', cap, cur, hv, hb, hg, hn, hm, hs, ht⟩
  · simp at h
  · simp only [Value.slice.injEq, Option.some.injEq, Addr.mk.injEq, and_true, true_and] at hv
    obtain ⟨rfl, rfl⟩ := hv
    refine ⟨cur.toList, by simpa using hg, by simp; omega⟩

/-- A slice over a block that is known whole. -/
theorem Rd.of_block {w : World} {g : Nat} {zs : List Int} {t : TypeId} (h : w.heap[g]? = some (.cells (zs.map (Value.int .i64)).toArray t (0, 0))) (hm : zs.length ≤ 9223372036854775807) : Rd w 1 (.slice (some ⟨g, 0, none⟩) zs.length zs.length) (YtcncmlpppabbcaaGreat.ints zs) := by
  refine ⟨_, _, by rw [ints_length], by rw [ints_length]; omega, by rw [ints_length]; exact hm, ?_, fun _ => ⟨g, 0, rfl, (Array.getElem?_eq_some_iff.1 h).1, ?_⟩⟩
  · intro r hr
    obtain ⟨z, -, rfl⟩ := List.mem_map.1 hr
    rfl
  · intro j r hj i x hi
    unfold YtcncmlpppabbcaaGreat.ints at hj
    simp only [List.getElem?_map, Option.map_eq_some_iff] at hj
    obtain ⟨z, hz, rfl⟩ := hj
    have hi0 : i = 0 := by
      have := (List.getElem?_eq_some_iff.1 hi).1
      simpa using this
    subst hi0
    simp at hi
    subst hi
    rw [cell_of_row w g _ _ t (0, 0) h]
    simp [hz]

theorem heap_setCell_row {w : World} {g k : Nat} {zs : List Value} {t : TypeId} {v : Value} (h : w.heap[g]? = some (.cells zs.toArray t (0, 0))) : (w.setCell ⟨g, k, none⟩ v).heap[g]? = some (.cells (zs.set k v).toArray t (0, 0)) := by
  have hl := (Array.getElem?_eq_some_iff.1 h).1
  have he := (Array.getElem?_eq_some_iff.1 h).2
  simp only [World.setCell, Array.getElem?_modify, if_true, h, Option.map_some]
  simp [Array.setIfInBounds]
  intro hle
  rw [List.set_eq_of_length_le hle]

theorem heap_setCell_ne {w : World} {b o g : Nat} {v : Value} (h : b ≠ g) : (w.setCell ⟨b, o, none⟩ v).heap[g]? = w.heap[g]? := Below.heap_setCell _ _ _ _ (fun e => h e.symm)

theorem frozen_of_row {w : World} {g k : Nat} {zs : Array Value} {t : TypeId} (h : w.heap[g]? = some (.cells zs t (0, 0))) : w.frozen? ⟨g, k, none⟩ = false := by
  simp [World.frozen?, h]

end Go.Proofs.YtcncmlpppabbcaaGreat

namespace Go.Proofs.YtcncmlpppabbcaaGreat
set_option linter.unusedVariables false
set_option linter.unusedSimpArgs false
open Go.RowKit

/-- By how much the scales at a point can be wrong. -/
def wrongAt (err : Int) (ss : List Stp) : Nat → Int
  | 0 => err
  | i + 1 => match ss[i]? with
    | some x => x.err
    | none => 0

def rdLo (r e : Int) : Int := if r = -1 then 0 else max 0 (r - e)
def rdHi (r e : Int) : Int := if r = -1 then 1000000 else min 1000000 (r + e)

/-- What the weight at a point can be, by its reading alone. -/
def loAt (err : Int) (ss : List Stp) (rs : List Int) (i : Nat) : Int := rdLo (rs[i]?.getD 0) (wrongAt err ss i)
def hiAt (err : Int) (ss : List Stp) (rs : List Int) (i : Nat) : Int := rdHi (rs[i]?.getD 0) (wrongAt err ss i)

/-- Readings without an error. -/
structure ReadOk (ss : List Stp) (rs : List Int) : Prop where
  len : rs.length = ss.length + 1
  rd : ∀ r ∈ rs, r = -1 ∨ 0 ≤ r ∧ r ≤ 1000000

theorem rdErr_ok {ss : List Stp} {rs : List Int} (h : rdErr ss rs = 0) : ReadOk ss rs := by
  unfold rdErr at h
  by_cases h1 : rs.length ≠ ss.length + 1
  · rw [if_pos h1] at h; simp at h
  · rw [if_neg h1] at h
    refine ⟨by omega, ?_⟩
    have key : ∀ (l : List Int) (n : Nat), (firstErr rdErr1 l n).2 = 0 → ∀ r ∈ l, r = -1 ∨ 0 ≤ r ∧ r ≤ 1000000 := by
      intro l
      induction l with
      | nil => intro n _ r hr; simp at hr
      | cons x l ih =>
        intro n hn r hr
        unfold firstErr at hn
        by_cases h0 : rdErr1 x = 0
        · rw [if_pos h0] at hn
          rcases List.mem_cons.1 hr with rfl | hr
          · unfold rdErr1 at h0
            rw [anyOut1] at h0
            split at h0
            · simp at h0
            · rename_i h2
              simp only [not_and, Bool.not_eq_true', Bool.and_eq_false_iff, decide_eq_false_iff_not] at h2
              by_cases h3 : r = -1
              · exact .inl h3
              · have := h2 h3
                right
                omega
          · exact ih _ hn r hr
        · rw [if_neg h0] at hn
          exact absurd hn h0
    exact key rs 0 h

theorem askErr_ok {err : Int} {ss : List Stp} {rs : List Int} (h : askErr err ss rs = 0) : LineOk err ss ∧ ReadOk ss rs := by
  unfold askErr at h
  by_cases h1 : (chk err ss).2.2 ≠ 0
  · rw [if_pos h1] at h; exact absurd h h1
  · rw [if_neg h1] at h
    exact ⟨chk_ok (by omega), rdErr_ok h⟩

theorem wrong_bd {err : Int} {ss : List Stp} (h : LineOk err ss) (i : Nat) : 0 ≤ wrongAt err ss i ∧ wrongAt err ss i ≤ 1000000 := by
  cases i with
  | zero => exact h.err
  | succ i =>
    unfold wrongAt
    dsimp only
    split
    · rename_i x hx
      have := h.stp x (List.mem_of_getElem? hx)
      omega
    · omega

/-- Another reading, where it is struck, is as good. -/
theorem ReadOk.set {ss : List Stp} {rs : List Int} (h : ReadOk ss rs) (k : Nat) (r : Int) (hr : r = -1 ∨ 0 ≤ r ∧ r ≤ 1000000) : ReadOk ss (rs.set k r) :=
  ⟨by rw [List.length_set]; exact h.len, fun x hx => by
    rcases List.mem_or_eq_of_mem_set hx with h1 | rfl
    · exact h.rd x h1
    · exact hr⟩

end Go.Proofs.YtcncmlpppabbcaaGreat

namespace Go.Proofs.YtcncmlpppabbcaaGreat
set_option linter.unusedVariables false
set_option linter.unusedSimpArgs false
open Go.RowKit

/-- A table of differences: by how much the first is above the second, at most. -/
abbrev Tab := Nat → Nat → Int

def put (M : Tab) (i k : Nat) (v : Int) : Tab := fun a b => if a = i ∧ b = k then v else M a b

theorem put_same (M : Tab) (i k : Nat) (v : Int) : put M i k v i k = v := by simp [put]
theorem put_other (M : Tab) (i k : Nat) (v : Int) (a b : Nat) (h : ¬ (a = i ∧ b = k)) : put M i k v a b = M a b := by simp [put, h]

/-- One tightening: over j. -/
def upd (M : Tab) (j i k : Nat) : Tab := put M i k (min (M i k) (M i j + M j k))

/-- The first k places of row i. -/
def rowTo (M : Tab) (j i : Nat) : Nat → Tab
  | 0 => M
  | k + 1 => upd (rowTo M j i k) j i k

/-- The first i rows; those that are not live are skipped. -/
def colTo (live : Nat → Bool) (M : Tab) (j : Nat) : Nat → Tab
  | 0 => M
  | i + 1 => if live i then rowTo (colTo live M j i) j i 8 else colTo live M j i

/-- Over the first j. -/
def fwTo (live : Nat → Bool) (M : Tab) : Nat → Tab
  | 0 => M
  | j + 1 => colTo live (fwTo live M j) j 8

/-- The table before anything is known. -/
def tab0 : Tab := fun a b => if a = b then 0 else 2000000

/-- With what the readings of the first points say. -/
def tabR (lo hi : Nat → Int) : Nat → Tab
  | 0 => tab0
  | i + 1 => put (put (tabR lo hi i) i 7 (hi i)) 7 i (-lo i)

/-- With what the first steps lose. -/
def tabS (M : Tab) (slo shi : Nat → Int) : Nat → Tab
  | 0 => M
  | i + 1 => put (put (tabS M slo shi i) i (i + 1) (shi i)) (i + 1) i (-slo i)

end Go.Proofs.YtcncmlpppabbcaaGreat

namespace Go.Proofs.YtcncmlpppabbcaaGreat
set_option linter.unusedVariables false
set_option linter.unusedSimpArgs false
open Go.RowKit

def tabCells (M : Tab) : Array Value := Array.ofFn (n := 64) fun t => Value.int .i64 (M (t.val / 8) (t.val % 8))

theorem tabCells_size (M : Tab) : (tabCells M).size = 64 := by simp [tabCells]

theorem tabCells_get (M : Tab) (a b : Nat) (ha : a < 8) (hb : b < 8) : (tabCells M)[a * 8 + b]? = some (.int .i64 (M a b)) := by
  have h : a * 8 + b < 64 := by omega
  have h1 : (a * 8 + b) / 8 = a := by omega
  have h2 : (a * 8 + b) % 8 = b := by omega
  simp [tabCells, h, h1, h2]

theorem tabCells_put (M : Tab) (i k : Nat) (v : Int) (hi : i < 8) (hk : k < 8) : (tabCells M).setIfInBounds (i * 8 + k) (.int .i64 v) = tabCells (put M i k v) := by
  apply Array.ext
  · simp [tabCells]
  · intro t h1 h2
    have ht : t < 64 := by simpa [tabCells] using h2
    rw [Array.getElem_setIfInBounds]
    · by_cases h : i * 8 + k = t
      · rw [if_pos h]
        have e1 : t / 8 = i := by omega
        have e2 : t % 8 = k := by omega
        simp [tabCells, put, e1, e2]
      · rw [if_neg h]
        have e : ¬ (t / 8 = i ∧ t % 8 = k) := by omega
        simp [tabCells, put, e]
    · simpa [tabCells] using ht

/-- Block B holds the table M. -/
def TabAt (w : World) (B : Nat) (M : Tab) : Prop := w.heap[B]? = some (.cells (tabCells M) 104 (0, 0))

theorem TabAt.lt {w : World} {B : Nat} {M : Tab} (h : TabAt w B M) : B < w.heap.size := (Array.getElem?_eq_some_iff.1 h).1
theorem TabAt.cell {w : World} {B : Nat} {M : Tab} (h : TabAt w B M) (a b : Nat) (ha : a < 8) (hb : b < 8) : w.cell? ⟨B, a * 8 + b, none⟩ = some (.int .i64 (M a b)) := by
  rw [cell_of_row w B _ _ 104 (0, 0) h]
  exact tabCells_get M a b ha hb
theorem TabAt.frozen {w : World} {B : Nat} {M : Tab} (h : TabAt w B M) (o : Nat) : w.frozen? ⟨B, o, none⟩ = false := frozen_of_row h
theorem TabAt.set {w : World} {B : Nat} {M : Tab} (h : TabAt w B M) (i k : Nat) (v : Int) (hi : i < 8) (hk : k < 8) : TabAt (w.setCell ⟨B, i * 8 + k, none⟩ (.int .i64 v)) B (put M i k v) := by
  have h' : w.heap[B]? = some (.cells (tabCells M).toList.toArray 104 (0, 0)) := by rw [Array.toArray_toList]; exact h
  have := heap_setCell_row (k := i * 8 + k) (v := .int .i64 v) h'
  unfold TabAt
  rw [this, ← tabCells_put M i k v hi hk, ← Array.toList_setIfInBounds, Array.toArray_toList]
theorem TabAt.below {w w' : World} {B : Nat} {M : Tab} (h : TabAt w B M) (hb : Below w.heap.size w w') : TabAt w' B M := by
  unfold TabAt
  rw [hb.block B h.lt]; exact h
theorem TabAt.alloc {w : World} {B : Nat} {M : Tab} (h : TabAt w B M) (o : Obj) : TabAt (w.alloc o) B M := h.below (below_alloc1 w o)
theorem TabAt.drew {w : World} {B : Nat} {M : Tab} (h : TabAt w B M) : TabAt w.drew B M := h
theorem TabAt.congr {w : World} {B : Nat} {M M' : Tab} (h : TabAt w B M) (e : ∀ a b, a < 8 → b < 8 → M a b = M' a b) : TabAt w B M' := by
  have e' : tabCells M = tabCells M' := by
    apply Array.ext
    · simp [tabCells]
    · intro t h1 h2
      have ht : t < 64 := by simpa [tabCells] using h2
      simp [tabCells]
      exact e _ _ (by omega) (by omega)
  unfold TabAt
  rw [← e']
  exact h
theorem TabAt.other {w : World} {B b o : Nat} {v : Value} {M : Tab} (h : TabAt w B M) (hne : b ≠ B) : TabAt (w.setCell ⟨b, o, none⟩ v) B M := by
  unfold TabAt
  rw [heap_setCell_ne hne]; exact h

/-- While the table is laid out: all places before (i, k) have been met. -/
def initAt (i k : Nat) : Tab := fun a b => if (a < i ∨ a = i ∧ b < k) ∧ a ≠ b then 2000000 else 0

theorem init_step (i k : Nat) (h : i ≠ k) : put (initAt i k) i k 2000000 = initAt i (k + 1) := by
  funext a b
  unfold put initAt
  by_cases h1 : a = i ∧ b = k
  · rw [if_pos h1, if_pos]; omega
  · rw [if_neg h1]
    by_cases h2 : (a < i ∨ a = i ∧ b < k) ∧ a ≠ b
    · rw [if_pos h2, if_pos]; omega
    · rw [if_neg h2, if_neg]; omega
theorem init_skip (i : Nat) : initAt i i = initAt i (i + 1) := by
  funext a b
  unfold initAt
  by_cases h2 : (a < i ∨ a = i ∧ b < i) ∧ a ≠ b
  · rw [if_pos h2, if_pos]; omega
  · rw [if_neg h2, if_neg]; omega
theorem init_next (i a b : Nat) (hb : b < 8) : initAt i 8 a b = initAt (i + 1) 0 a b := by
  unfold initAt
  by_cases h2 : (a < i ∨ a = i ∧ b < 8) ∧ a ≠ b
  · rw [if_pos h2, if_pos]; omega
  · rw [if_neg h2, if_neg]; omega
theorem init_end (a b : Nat) (ha : a < 8) : initAt 8 0 a b = tab0 a b := by
  unfold initAt tab0
  by_cases h : a = b
  · rw [if_pos h, if_neg]; omega
  · rw [if_neg h, if_pos]; omega

/-- What stays about a call of 'close' while it runs: the line's box, what lay before, and how many blocks there are. -/
structure CloseCtx (w wr : World) (err : Int) (v rv : Value) : Prop where
  l0 : wr.cell? ⟨w.heap.size, 0, none⟩ = some (.int .i64 err)
  l1 : wr.cell? ⟨w.heap.size, 1, none⟩ = some v
  l2 : wr.cell? ⟨w.heap.size, 2, none⟩ = some rv
  B : Below w.heap.size w wr
  sz : w.heap.size + 2 ≤ wr.heap.size

theorem CloseCtx.below {w wr w' : World} {err : Int} {v rv : Value} (h : CloseCtx w wr err v rv) (hb : Below wr.heap.size wr w') : CloseCtx w w' err v rv :=
  ⟨keep hb h.l0, keep hb h.l1, keep hb h.l2, h.B.trans (hb.mono h.B.size), Nat.le_trans h.sz hb.size⟩
theorem CloseCtx.alloc {w wr : World} {err : Int} {v rv : Value} (h : CloseCtx w wr err v rv) (o : Obj) : CloseCtx w (wr.alloc o) err v rv := h.below (below_alloc1 wr o)
theorem CloseCtx.drew {w wr : World} {err : Int} {v rv : Value} (h : CloseCtx w wr err v rv) : CloseCtx w wr.drew err v rv := ⟨h.l0, h.l1, h.l2, h.B.drew, h.sz⟩
theorem CloseCtx.set {w wr : World} {err : Int} {v rv x : Value} (h : CloseCtx w wr err v rv) (b o : Nat) (hb : w.heap.size < b) : CloseCtx w (wr.setCell ⟨b, o, none⟩ x) err v rv := by
  have hk : ∀ {i : Nat} {y : Value}, wr.cell? ⟨w.heap.size, i, none⟩ = some y → (wr.setCell ⟨b, o, none⟩ x).cell? ⟨w.heap.size, i, none⟩ = some y := by
    intro i y hy
    rw [World.cell?_of_block (w := wr) (heap_setCell_ne (b := b) (g := w.heap.size) (by omega))]; exact hy
  exact ⟨hk h.l0, hk h.l1, hk h.l2, h.B.setCell (by simp; omega) _, by simp; exact h.sz⟩

end Go.Proofs.YtcncmlpppabbcaaGreat
