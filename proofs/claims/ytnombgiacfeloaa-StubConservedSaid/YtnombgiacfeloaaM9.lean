/- The fourth law of loops over an iterator, where the frame of a round is written out of the caller's. No program is in sight. -/
import Derived.Test.YtnombgiacfeloaaM8
import Derived.RangeFuncNested
import Derived.RangeFuncOwn
namespace Go.Proofs.Ytnombgiacfeloaa
set_option linter.unusedVariables false
set_option linter.unusedSimpArgs false
open Go.RowKit

theorem BelowBut.drew {n X : Nat} {a b : World} (h : BelowBut n X a b) : BelowBut n X a b.drew := ⟨h.size, h.block⟩

theorem wpIn_rangeFunc_up {F : Fence} {n : Nat} {P : Program} {α : Type} {g : Operand} {ps : Array Tmp} {assign body : Code} {Q : Exit → Act → World → Prop} {a : Act} {w : World}
    (hro : F.round = none) (h1 : 1 ≤ n) {gf : Nat} {lb : Array Value} (hg : a.eval g = .func (.func gf) #[] lb) (hFg : F.fn gf) (eg : ∀ args w, (callFunc gf args).run P w = .ok (.enter gf args) w)
    {encs : α → Array Value} {Kp : World → World → Prop} {S Sp : List α → Prop} {N : Nat} (hseq : SeqStopsK F (n - 1) P gf lb encs Kp S Sp N w)
    (hKt : ∀ {A B C : World}, Kp A B → Kp B C → Kp A C) (hKb : ∀ (W : World) (l : Nat) (o o' : Obj), w.heap.size ≤ l → W.heap[l]? = some o → o.isCells = false → o.isWalk = false → Kp W (W.putObj l o')) (hps : ∀ x, (encs x).size = ps.size)
    (I : List α → World → Prop) (hI : OwnFrom w.heap.size I) (h0 : I [] w) (up : α → Nat → Array Value → Array Value) (cs : α → List Value)
    (hassign : ∀ (l : Nat) (pre : List α) (x : α) (W : World) (K : Act → World → Prop), I pre W →
      (∀ Bx W', w.heap.size ≤ Bx → KeepsFrom w.heap.size W W' → Kp W W' → I pre W' → (∀ i v, (cs x)[i]? = some v → W'.cell? ⟨Bx, i, none⟩ = some v) → K { tmps := up x Bx a.tmps, defers := [] } W') →
      assign.wpIn (F.inRound l) (n - 1 - 1) P (Exit.then K (fun _ _ _ => False)) { tmps := (ps.zip (encs x)).foldl (fun t (p, v) => t.setIfInBounds p v) a.tmps, defers := [] } W)
    (hbody : ∀ (l : Nat) (pre : List α) (x : α) (Bx : Nat) (W : World), w.heap.size ≤ l → (∃ r, W.heap[l]? = some (.loop r)) → w.heap.size ≤ Bx → (∀ i v, (cs x)[i]? = some v → W.cell? ⟨Bx, i, none⟩ = some v) → I pre W → pre.length < N →
      body.wpIn (F.inRound l) (n - 1 - 1) P (ownPostG w.heap.size Kp I (fun _ _ _ => False) (pre ++ [x]) W) { tmps := up x Bx a.tmps, defers := [] } W)
    (hdone : ∀ (D : Nat) (xs : List α) (W : World), w.heap.size ≤ D → S xs → I xs W → W.heap[D]? = some (.deferred (some [])) → Q .normal { a with defers := { target := .collected D, args := #[] } :: a.defers } W) :
    (Code.rangeFunc g ps assign body).wpIn F n P Q a w := by
  refine wpIn_rangeFunc_ownH hro h1 hg hFg eg hseq hKt hKb (Below.refl _ _) hps I (fun _ _ _ => False) hI (fun _ _ _ _ _ hs _ _ => hs) h0
    (fun x a' W => ∃ Bx, w.heap.size ≤ Bx ∧ (∀ i v, (cs x)[i]? = some v → W.cell? ⟨Bx, i, none⟩ = some v) ∧ a' = { tmps := up x Bx a.tmps, defers := [] })
    ?_ ?_ ?_ hdone (fun _ _ _ _ _ _ h _ => h.elim)
  · rintro x a' _ X Y row ⟨Bx, h1, h2, h3⟩ hg hr
    exact ⟨Bx, h1, fun i v hv => cell_kept (h2 i v hv) hg (fun r e => (hr r e).2), h3⟩
  · intro l pre x W K hi hK
    exact hassign l pre x W K hi fun Bx W' hB hk hp hi' hc => hK _ W' hk hp hi' ⟨Bx, hB, hc, rfl⟩
  · rintro l pre x a' W hl hr hi ⟨Bx, hB, hc, rfl⟩ hlt
    exact hbody l pre x Bx W hl hr hB hc hi hlt

end Go.Proofs.Ytnombgiacfeloaa
