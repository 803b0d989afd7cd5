/- Plain facts: bits, and cells of new blocks. No program is in sight. -/
import Derived.Test.YtnombgiacfeloaaB
namespace Go.Proofs.Ytnombgiacfeloaa
set_option linter.unusedVariables false
set_option linter.unusedSimpArgs false
open Go.RowKit

theorem wrap_i64_nat (n : Nat) (h : n < 9223372036854775808) : IntKind.i64.wrap (n : Int) = (n : Int) := IntWalk.i64_in _ (by omega)

theorem bits_and_i64_nat (a b : Nat) (ha : a < 9223372036854775808) (hb : b < 9223372036854775808) : bits .and .i64 (a : Int) (b : Int) = ((a &&& b : Nat) : Int) := by
  have hx : a &&& b < 2 ^ 63 := Nat.and_lt_two_pow _ (by omega)
  have h1 : (BitVec.ofInt 64 (a : Int)).toNat = a := by
    rw [BitVec.ofInt_natCast, BitVec.toNat_ofNat]; exact Nat.mod_eq_of_lt (by omega)
  have h2 : (BitVec.ofInt 64 (b : Int)).toNat = b := by
    rw [BitVec.ofInt_natCast, BitVec.toNat_ofNat]; exact Nat.mod_eq_of_lt (by omega)
  show IntKind.i64.wrap ((BitVec.ofInt 64 (a : Int) &&& BitVec.ofInt 64 (b : Int)).toNat : Int) = _
  rw [BitVec.toNat_and, h1, h2]
  exact wrap_i64_nat _ (by omega)

theorem bits_andNot_i64_nat (a b : Nat) (ha : a < 9223372036854775808) (hb : b < 9223372036854775808) : bits .andNot .i64 (a : Int) (b : Int) = ((a &&& (18446744073709551615 - b) : Nat) : Int) := by
  have hx : a &&& (18446744073709551615 - b) ≤ a := Nat.and_le_left
  have h1 : (BitVec.ofInt 64 (a : Int)).toNat = a := by
    rw [BitVec.ofInt_natCast, BitVec.toNat_ofNat]; exact Nat.mod_eq_of_lt (by omega)
  have h2 : (BitVec.ofInt 64 (b : Int)).toNat = b := by
    rw [BitVec.ofInt_natCast, BitVec.toNat_ofNat]; exact Nat.mod_eq_of_lt (by omega)
  show IntKind.i64.wrap ((BitVec.ofInt 64 (a : Int) &&& ~~~ BitVec.ofInt 64 (b : Int)).toNat : Int) = _
  have h3 : (2 : Nat) ^ 64 - 1 - b = 18446744073709551615 - b := by simp
  rw [BitVec.toNat_and, BitVec.toNat_not, h1, h2, h3]
  exact wrap_i64_nat _ (by omega)

/-- '(k >> e) & 1'. -/
theorem bit_and_one (k e : Nat) (hk : k < 9223372036854775808) : bits .and .i64 ((k : Int) / 2 ^ e) 1 = ((k / 2 ^ e % 2 : Nat) : Int) := by
  have hle : k / 2 ^ e ≤ k := Nat.div_le_self _ _
  have h := bits_and_i64_nat (k / 2 ^ e) 1 (by omega) (by omega)
  rw [Nat.and_one_is_mod] at h
  have e1 : ((k / 2 ^ e : Nat) : Int) = (k : Int) / 2 ^ e := by simp
  rw [e1] at h
  exact h

theorem bit_test (n k j : Nat) (hk : k < 9223372036854775808) : (bits .and .i64 ((k : Int) / 2 ^ (n - 1 - j)) 1 == 1) = hasBit n k j := by
  rw [bit_and_one _ _ hk]
  unfold hasBit
  have h2 : k / 2 ^ (n - 1 - j) % 2 < 2 := Nat.mod_lt _ (by omega)
  generalize k / 2 ^ (n - 1 - j) % 2 = m at h2
  have : m = 0 ∨ m = 1 := by omega
  rcases this with rfl | rfl <;> rfl

theorem cells_new (w : World) (H : Nat) (xs : List Value) (t : TypeId) (hH : w.heap.size = H) : ∀ j u, xs[j]? = some u → (w.alloc (.cells xs.toArray t)).cell? ((⟨H, 0, none⟩ : Addr).add j) = some u := by
  intro j u hu
  subst hH
  rw [Addr.add_lit, Nat.zero_add, cell_new_lit]
  exact hu

theorem below_size {B : Nat} {w w' : World} (h : Below B w w') : w.heap.size ≤ w'.heap.size := h.size

theorem grown_below {W w1 : World} {row : Option Nat} {B : Nat} (hg : W.grownBy w1 row) (hB : B ≤ W.heap.size) (hr : ∀ k, row = some k → B ≤ k) : Below B W w1 :=
  (Below.refl B W).grown hg hB hr

theorem grown_keep {W w1 : World} {row : Option Nat} (hg : W.grownBy w1 row) {b o : Nat} {v : Value} (h : W.cell? ⟨b, o, none⟩ = some v) (hne : some b ≠ row) : w1.cell? ⟨b, o, none⟩ = some v := hg.cell h hne
theorem grown_keepF {W w1 : World} {row : Option Nat} (hg : W.grownBy w1 row) {b o : Nat} {x : Bool} (hl : b < W.heap.size) (h : W.frozen? ⟨b, o, none⟩ = x) (hne : some b ≠ row) : w1.frozen? ⟨b, o, none⟩ = x := by
  rw [World.frozen?_of_block (w := W) (hg.block b hl hne)]; exact h

end Go.Proofs.Ytnombgiacfeloaa
