/- Plain facts: all blocks below a number lie as they lay, but one. No program is in sight. The fourth law of loops over an iterator, where the frame of a round is written out of the caller's. No program is in sight. An append that grows a slice of its own, as one operation within a fence. No program is in sight. -/
import Derived.Test.YtcncmlpppabbcaaGreatB
import Derived.RangeFuncFrom
import Derived.RangeFuncNested
import Derived.RangeFuncOwn
import Derived.OwnWalkIn
import Derived.RangeFuncBox
namespace Go.Proofs.YtcncmlpppabbcaaGreat
set_option linter.unusedVariables false
set_option linter.unusedSimpArgs false
open Go.RowKit

structure BelowBut (n X : Nat) (w w' : World) : Prop where
  size : w.heap.size ≤ w'.heap.size
  block : ∀ k, k < n → k ≠ X → w'.heap[k]? = w.heap[k]?

theorem BelowBut.refl (n X : Nat) (w : World) : BelowBut n X w w := ⟨Nat.le_refl _, fun _ _ _ => rfl⟩
theorem BelowBut.trans {n X : Nat} {a b c : World} (h : BelowBut n X a b) (k : BelowBut n X b c) : BelowBut n X a c :=
  ⟨Nat.le_trans h.size k.size, fun i hi hx => (k.block i hi hx).trans (h.block i hi hx)⟩
theorem BelowBut.of_below {n X : Nat} {a b : World} (h : Below n a b) : BelowBut n X a b := ⟨h.size, fun k hk _ => h.block k hk⟩
theorem BelowBut.alloc {n X : Nat} {a b : World} (h : BelowBut n X a b) (hn : n ≤ b.heap.size) (o : Obj) : BelowBut n X a (b.alloc o) :=
  h.trans (.of_below ((Below.refl _ b).alloc hn o))
theorem BelowBut.setCell {n X : Nat} {a b : World} (h : BelowBut n X a b) {B o : Nat} (hB : B = X ∨ n ≤ B) (v : Value) : BelowBut n X a (b.setCell ⟨B, o, none⟩ v) :=
  h.trans ⟨by simp, fun k hk hx => Below.heap_setCell _ _ _ _ (by dsimp; omega)⟩
theorem BelowBut.cell {n X : Nat} {a b : World} (h : BelowBut n X a b) {p : Addr} (hp : p.block < n) (hx : p.block ≠ X) : b.cell? p = a.cell? p := World.cell?_of_block (w := a) (h.block p.block hp hx)

/-- What is kept wherever all below B lies as it lay is the caller's own. -/
theorem ownFrom_of_below {β : Type} {B : Nat} {I : β → World → Prop} (hB : ∀ s W, I s W → B ≤ W.heap.size) (h : ∀ s W W', I s W → Below B W W' → I s W') : OwnFrom B I :=
  fun s W W' _ hs hg hr => h s W W' hs ((Below.refl B W).grown hg (hB s W hs) (fun k e => (hr k e).1))

theorem belowBut_b {n X : Nat} {w : World} (hn : n ≤ w.heap.size) (W : World) (l : Nat) (o o' : Obj) (hl : w.heap.size ≤ l) (h : W.heap[l]? = some o) (_ : o.isCells = false) (_ : o.isWalk = false) : BelowBut n X W (W.putObj l o') :=
  .of_below ((Below.refl n W).grown (grownBy_putObj' W l o') (by have := (Array.getElem?_eq_some_iff.1 h).1; omega) (fun k e => by cases e; omega))

end Go.Proofs.YtcncmlpppabbcaaGreat

namespace Go.Proofs.YtcncmlpppabbcaaGreat
set_option linter.unusedVariables false
set_option linter.unusedSimpArgs false
open Go.RowKit

theorem BelowBut.drew {n X : Nat} {a b : World} (h : BelowBut n X a b) : BelowBut n X a b.drew := ⟨h.size, h.block⟩

theorem wpIn_rangeFunc_up {F : Fence} {n : Nat} {P : Program} {α : Type} {g : Operand} {ps : Array Tmp} {assign body : Code} {Q : Exit → Act → World → Prop} {a : Act} {w : World}
    (hro : F.round = none) (h1 : 1 ≤ n) {gf : Nat} {lb : Array Value} (hg : a.eval g = .func (.func gf) #[] lb) (hFg : F.fn gf) (eg : ∀ args w, (callFunc gf args).run P w = .ok (.enter gf args) w)
    {encs : α → Array Value} {Kp : World → World → Prop} {S Sp : List α → Prop} {N : Nat} (hseq : SeqStopsK F (n - 1) P gf lb encs Kp S Sp N w)
    (hKt : ∀ {A B C : World}, Kp A B → Kp B C → Kp A C) (hKb : ∀ (W : World) (l : Nat) (o o' : Obj), w.heap.size ≤ l → W.heap[l]? = some o → o.isCells = false → o.isWalk = false → Kp W (W.putObj l o')) (hps : ∀ x, (encs x).size = ps.size)
    (I : List α → World → Prop) (hI : OwnFrom w.heap.size I) (h0 : I [] w) (up : α → Nat → Array Value → Array Value) (cs : α → List Value)
    (hassign : ∀ (l : Nat) (pre : List α) (x : α) (W : World) (K : Act → World → Prop), I pre W →
      (∀ Bx W', w.heap.size ≤ Bx → KeepsFrom w.heap.size W W' → Kp W W' → I pre W' → (∀ i v, (cs x)[i]? = some v → W'.cell? ⟨Bx, i, none⟩ = some v) → K { tmps := up x Bx a.tmps, defers := [] } W') →
      assign.wpIn (F.inRound l) (n - 1 - 1) P (Exit.then K (fun _ _ _ => False)) { tmps := (ps.zip (encs x)).foldl (fun t (p, v) => t.setIfInBounds p v) a.tmps, defers := [] } W)
    (hbody : ∀ (l : Nat) (pre : List α) (x : α) (Bx : Nat) (W : World), w.heap.size ≤ l → (∃ r, W.heap[l]? = some (.loop r)) → w.heap.size ≤ Bx → (∀ i v, (cs x)[i]? = some v → W.cell? ⟨Bx, i, none⟩ = some v) → I pre W → pre.length < N →
      body.wpIn (F.inRound l) (n - 1 - 1) P (ownPostG w.heap.size Kp I (fun _ _ _ => False) (pre ++ [x]) W) { tmps := up x Bx a.tmps, defers := [] } W)
    (hdone : ∀ (D : Nat) (xs : List α) (W : World), w.heap.size ≤ D → S xs → I xs W → W.heap[D]? = some (.deferred (some [])) → Q .normal { a with defers := { target := .collected D, args := #[] } :: a.defers } W) :
    (Code.rangeFunc g ps assign body).wpIn F n P Q a w := by
  refine wpIn_rangeFunc_ownH hro h1 hg hFg eg hseq hKt hKb (Below.refl _ _) hps I (fun _ _ _ => False) hI (fun _ _ _ _ _ hs _ _ => hs) h0
    (fun x a' W => ∃ Bx, w.heap.size ≤ Bx ∧ (∀ i v, (cs x)[i]? = some v → W.cell? ⟨Bx, i, none⟩ = some v) ∧ a' = { tmps := up x Bx a.tmps, defers := [] })
    ?_ ?_ ?_ hdone (fun _ _ _ _ _ _ h _ => h.elim)
  · rintro x a' _ X Y row ⟨Bx, h1, h2, h3⟩ hg hr
    exact ⟨Bx, h1, fun i v hv => cell_kept (h2 i v hv) hg (fun r e => (hr r e).2), h3⟩
  · intro l pre x W K hi hK
    exact hassign l pre x W K hi fun Bx W' hB hk hp hi' hc => hK _ W' hk hp hi' ⟨Bx, hB, hc, rfl⟩
  · rintro l pre x a' W hl hr hi ⟨Bx, hB, hc, rfl⟩ hlt
    exact hbody l pre x Bx W hl hr hB hc hi hlt

end Go.Proofs.YtcncmlpppabbcaaGreat

namespace Go.Proofs.YtcncmlpppabbcaaGreat
set_option linter.unusedVariables false
set_option linter.unusedSimpArgs false
open Go.RowKit

theorem opIn_append_own {F : Fence} {n : Nat} {P : Program} (w : World) {o : Oper} {a : Act} {K : Act → World → Prop} {Q : Exit → Act → World → Prop}
    (s x : Operand) (t : TypeId) (hop : o.op = Op.call { callee := Callee.builtin Builtin.append, args := #[s, x], argTypes := #[t, t] })
    (base : Nat) (e : TypeId) (i : TypeInfo) (z : Value) (size bytes : Nat) (h1 : P.underlying t = some (.slice e)) (h2 : P.info? e = some i) (h3 : i.zero = some z) (h4 : i.size = size) (h5 : i.bytes = bytes) (h6 : z.cells.size = size) (h7 : 0 < size)
    (v : Value) (k : Nat) (xs : List Value) (hs : a.eval s = v) (hown : w.ownsRow base e size v k xs) (ad : Addr) (m c : Nat) (news : List Value) (hx : a.eval x = .slice (some ad) m c) (hn : news.length = m * size)
    (hc : ∀ j u, news[j]? = some u → w.cell? (ad.add j) = some u) (h1c : ∀ u ∈ news, u.oneCell' = true) (b1 : k + m ≤ maxLen) (b2 : (k + m) * bytes ≤ 140737488355328) (b3 : base ≤ w.heap.size)
    (hK : ∀ v' w', w'.ownsRow base e size v' (k + m) (xs ++ news) → w.grownBy w' v.ownBlock → K (a.put o.dst v') w') : o.wpIn F n P a w K Q := by
  obtain ⟨v', w', hrun, r1, r2, -⟩ := run_append_own (P := P) w base t o.type e i z size bytes h1 h2 h3 h4 h5 h6 h7 v k xs hown ad m c news hn hc h1c b1 b2 b3
  unfold Oper.wpIn
  refine ⟨by simp [Oper.about, hop, resolve, Target.leads, Sem.run_pure], ?_⟩
  rw [Oper.semAt_plain F _ _ (by rw [hop]; intro c hc'; cases hc')]
  simp [execOp, hop, resolve, invoke, builtin, hs, hx, hrun, Result.andThen]
  exact hK v' w' r1 r2

/-- What a loop that grows a list keeps: a box that holds a slice of its own; all below H; and what is kept wherever all below B lies as it lay. -/
theorem own_list {β : Type} (B X : Nat) (t e : TypeId) (size : Nat) (k : β → Nat) (f : β → List Value) (I : World → Prop) (hI : ∀ W W', B ≤ W.heap.size → I W → Below B W W' → I W') :
    OwnFrom B (fun (s : β) W => (B ≤ W.heap.size ∧ I W) ∧ ∃ v, Boxed W X t v ∧ W.ownsRow B e size v (k s) (f s)) := by
  refine OwnFrom.and (I := fun _ W => B ≤ W.heap.size ∧ I W) (ownFrom_of_below (fun _ _ h => h.1) fun _ W W' h hb => ⟨Nat.le_trans h.1 hb.size, hI W W' h.1 h.2 hb⟩) (Own.from ?_ _)
  intro s A C row h hg hr
  obtain ⟨v, hv, hw, -⟩ := holdsRow_own (β := β) B X t e size k f (fun _ _ => True) s A C row ⟨h.choose, h.choose_spec.1, h.choose_spec.2, trivial⟩ hg hr
  exact ⟨v, hv, hw⟩

/-- Behind an append and the store of its value into the box: what the loop's law asks. -/
theorem list_appended {W w1 : World} {B X : Nat} {t e : TypeId} {size : Nat} {v v' : Value} {k m : Nat} {xs ys : List Value} {tmp : Obj} (hX : X < B) (hBW : B ≤ W.heap.size)
    (hv : Boxed W X t v) (hrow : W.ownsRow B e size v k xs) (hown' : w1.ownsRow B e size v' m ys) (hgrow : (W.alloc tmp).grownBy w1 v.ownBlock) :
    Boxed w1 X t v ∧ Below B W w1 ∧ Boxed (w1.setCell ⟨X, 0, none⟩ v') X t v' ∧ (w1.setCell ⟨X, 0, none⟩ v').ownsRow B e size v' m ys ∧ KeepsOthers W (w1.setCell ⟨X, 0, none⟩ v') ∧ BelowBut B X W (w1.setCell ⟨X, 0, none⟩ v') := by
  have hne : some X ≠ v.ownBlock := by
    rcases hrow.2 with ⟨rfl, _⟩ | ⟨g, cap, cur, rfl, hb, _, _⟩
    · simp [Value.ownBlock]
    · simp [Value.ownBlock]; omega
  have hne' : some X ≠ v'.ownBlock := by
    rcases hown'.2 with ⟨rfl, _⟩ | ⟨g, cap, cur, rfl, hb, _, _⟩
    · simp [Value.ownBlock]
    · simp [Value.ownBlock]; omega
  have hv1 : Boxed w1 X t v := (hv.alloc tmp).kept hgrow hne
  have hB1 : Below B W w1 := ((Below.refl B W).alloc hBW tmp).grown hgrow (by simp; omega) fun j ej => by
    rcases hrow.2 with ⟨rfl, _⟩ | ⟨g, cap, cur, rfl, hb, _, _⟩
    · simp [Value.ownBlock] at ej
    · obtain rfl : g = j := by simpa [Value.ownBlock] using ej
      exact hb
  refine ⟨hv1, hB1, hv1.set v', hown'.kept (grownBy_setCell' w1 X v') (.inr hne'.symm), ?_, (BelowBut.of_below hB1).setCell (.inl rfl) v'⟩
  refine ((KeepsOthers.alloc W tmp).trans (KeepsOthers.of_grownBy hgrow fun j o ej hj => ?_)).trans (KeepsOthers.setCell _ _ _)
  rcases (hrow.alloc tmp).2 with ⟨rfl, _⟩ | ⟨g, cap, cur, rfl, _, hgb, _⟩
  · simp [Value.ownBlock] at ej
  · obtain rfl : g = j := by simpa [Value.ownBlock] using ej
    rw [hgb] at hj; cases hj; rfl

end Go.Proofs.YtcncmlpppabbcaaGreat
