/- Plain facts: all blocks below a number lie as they lay, but one. No program is in sight. -/
import Derived.Test.YtnombgiacfeloaaB
import Derived.RangeFuncFrom
namespace Go.Proofs.Ytnombgiacfeloaa
set_option linter.unusedVariables false
set_option linter.unusedSimpArgs false
open Go.RowKit

structure BelowBut (n X : Nat) (w w' : World) : Prop where
  size : w.heap.size ≤ w'.heap.size
  block : ∀ k, k < n → k ≠ X → w'.heap[k]? = w.heap[k]?

theorem BelowBut.refl (n X : Nat) (w : World) : BelowBut n X w w := ⟨Nat.le_refl _, fun _ _ _ => rfl⟩
theorem BelowBut.trans {n X : Nat} {a b c : World} (h : BelowBut n X a b) (k : BelowBut n X b c) : BelowBut n X a c :=
  ⟨Nat.le_trans h.size k.size, fun i hi hx => (k.block i hi hx).trans (h.block i hi hx)⟩
theorem BelowBut.of_below {n X : Nat} {a b : World} (h : Below n a b) : BelowBut n X a b := ⟨h.size, fun k hk _ => h.block k hk⟩
theorem BelowBut.alloc {n X : Nat} {a b : World} (h : BelowBut n X a b) (hn : n ≤ b.heap.size) (o : Obj) : BelowBut n X a (b.alloc o) :=
  h.trans (.of_below ((Below.refl _ b).alloc hn o))
theorem BelowBut.setCell {n X : Nat} {a b : World} (h : BelowBut n X a b) {B o : Nat} (hB : B = X ∨ n ≤ B) (v : Value) : BelowBut n X a (b.setCell ⟨B, o, none⟩ v) :=
  h.trans ⟨by simp, fun k hk hx => Below.heap_setCell _ _ _ _ (by dsimp; omega)⟩
theorem BelowBut.cell {n X : Nat} {a b : World} (h : BelowBut n X a b) {p : Addr} (hp : p.block < n) (hx : p.block ≠ X) : b.cell? p = a.cell? p := World.cell?_of_block (w := a) (h.block p.block hp hx)

/-- What is kept wherever all below B lies as it lay is the caller's own. -/
theorem ownFrom_of_below {β : Type} {B : Nat} {I : β → World → Prop} (hB : ∀ s W, I s W → B ≤ W.heap.size) (h : ∀ s W W', I s W → Below B W W' → I s W') : OwnFrom B I :=
  fun s W W' _ hs hg hr => h s W W' hs ((Below.refl B W).grown hg (hB s W hs) (fun k e => (hr k e).1))

theorem belowBut_b {n X : Nat} {w : World} (hn : n ≤ w.heap.size) (W : World) (l : Nat) (o o' : Obj) (hl : w.heap.size ≤ l) (h : W.heap[l]? = some o) (_ : o.isCells = false) (_ : o.isWalk = false) : BelowBut n X W (W.putObj l o') :=
  .of_below ((Below.refl n W).grown (grownBy_putObj' W l o') (by have := (Array.getElem?_eq_some_iff.1 h).1; omega) (fun k e => by cases e; omega))

end Go.Proofs.Ytnombgiacfeloaa
