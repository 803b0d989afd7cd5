/- An append that grows a slice of its own, as one operation within a fence. No program is in sight. -/
import Derived.OwnWalkIn
import Derived.RangeFuncBox
import Derived.Test.YtnombgiacfeloaaM9
namespace Go.Proofs.Ytnombgiacfeloaa
set_option linter.unusedVariables false
set_option linter.unusedSimpArgs false
open Go.RowKit

theorem opIn_append_own {F : Fence} {n : Nat} {P : Program} (w : World) {o : Oper} {a : Act} {K : Act → World → Prop} {Q : Exit → Act → World → Prop}
    (s x : Operand) (t : TypeId) (hop : o.op = Op.call { callee := Callee.builtin Builtin.append, args := #[s, x], argTypes := #[t, t] })
    (base : Nat) (e : TypeId) (i : TypeInfo) (z : Value) (size bytes : Nat) (h1 : P.underlying t = some (.slice e)) (h2 : P.info? e = some i) (h3 : i.zero = some z) (h4 : i.size = size) (h5 : i.bytes = bytes) (h6 : z.cells.size = size) (h7 : 0 < size)
    (v : Value) (k : Nat) (xs : List Value) (hs : a.eval s = v) (hown : w.ownsRow base e size v k xs) (ad : Addr) (m c : Nat) (news : List Value) (hx : a.eval x = .slice (some ad) m c) (hn : news.length = m * size)
    (hc : ∀ j u, news[j]? = some u → w.cell? (ad.add j) = some u) (h1c : ∀ u ∈ news, u.oneCell' = true) (b1 : k + m ≤ maxLen) (b2 : (k + m) * bytes ≤ 140737488355328) (b3 : base ≤ w.heap.size)
    (hK : ∀ v' w', w'.ownsRow base e size v' (k + m) (xs ++ news) → w.grownBy w' v.ownBlock → K (a.put o.dst v') w') : o.wpIn F n P a w K Q := by
  obtain ⟨v', w', hrun, r1, r2, -⟩ := run_append_own (P := P) w base t o.type e i z size bytes h1 h2 h3 h4 h5 h6 h7 v k xs hown ad m c news hn hc h1c b1 b2 b3
  unfold Oper.wpIn
  refine ⟨by simp [Oper.about, hop, resolve, Target.leads, Sem.run_pure], ?_⟩
  rw [Oper.semAt_plain F _ _ (by rw [hop]; intro c hc'; cases hc')]
  simp [execOp, hop, resolve, invoke, builtin, hs, hx, hrun, Result.andThen]
  exact hK v' w' r1 r2

/-- What a loop that grows a list keeps: a box that holds a slice of its own; all below H; and what is kept wherever all below B lies as it lay. -/
theorem own_list {β : Type} (B X : Nat) (t e : TypeId) (size : Nat) (k : β → Nat) (f : β → List Value) (I : World → Prop) (hI : ∀ W W', B ≤ W.heap.size → I W → Below B W W' → I W') :
    OwnFrom B (fun (s : β) W => (B ≤ W.heap.size ∧ I W) ∧ ∃ v, Boxed W X t v ∧ W.ownsRow B e size v (k s) (f s)) := by
  refine OwnFrom.and (I := fun _ W => B ≤ W.heap.size ∧ I W) (ownFrom_of_below (fun _ _ h => h.1) fun _ W W' h hb => ⟨Nat.le_trans h.1 hb.size, hI W W' h.1 h.2 hb⟩) (Own.from ?_ _)
  intro s A C row h hg hr
  obtain ⟨v, hv, hw, -⟩ := holdsRow_own (β := β) B X t e size k f (fun _ _ => True) s A C row ⟨h.choose, h.choose_spec.1, h.choose_spec.2, trivial⟩ hg hr
  exact ⟨v, hv, hw⟩

/-- Behind an append and the store of its value into the box: what the loop's law asks. -/
theorem list_appended {W w1 : World} {B X : Nat} {t e : TypeId} {size : Nat} {v v' : Value} {k m : Nat} {xs ys : List Value} {tmp : Obj} (hX : X < B) (hBW : B ≤ W.heap.size)
    (hv : Boxed W X t v) (hrow : W.ownsRow B e size v k xs) (hown' : w1.ownsRow B e size v' m ys) (hgrow : (W.alloc tmp).grownBy w1 v.ownBlock) :
    Boxed w1 X t v ∧ Below B W w1 ∧ Boxed (w1.setCell ⟨X, 0, none⟩ v') X t v' ∧ (w1.setCell ⟨X, 0, none⟩ v').ownsRow B e size v' m ys ∧ KeepsOthers W (w1.setCell ⟨X, 0, none⟩ v') ∧ BelowBut B X W (w1.setCell ⟨X, 0, none⟩ v') := by
  have hne : some X ≠ v.ownBlock := by
    rcases hrow.2 with ⟨rfl, _⟩ | ⟨g, cap, cur, rfl, hb, _, _⟩
    · simp [Value.ownBlock]
    · simp [Value.ownBlock]; omega
  have hne' : some X ≠ v'.ownBlock := by
    rcases hown'.2 with ⟨rfl, _⟩ | ⟨g, cap, cur, rfl, hb, _, _⟩
    · simp [Value.ownBlock]
    · simp [Value.ownBlock]; omega
  have hv1 : Boxed w1 X t v := (hv.alloc tmp).kept hgrow hne
  have hB1 : Below B W w1 := ((Below.refl B W).alloc hBW tmp).grown hgrow (by simp; omega) fun j ej => by
    rcases hrow.2 with ⟨rfl, _⟩ | ⟨g, cap, cur, rfl, hb, _, _⟩
    · simp [Value.ownBlock] at ej
    · obtain rfl : g = j := by simpa [Value.ownBlock] using ej
      exact hb
  refine ⟨hv1, hB1, hv1.set v', hown'.kept (grownBy_setCell' w1 X v') (.inr hne'.symm), ?_, (BelowBut.of_below hB1).setCell (.inl rfl) v'⟩
  refine ((KeepsOthers.alloc W tmp).trans (KeepsOthers.of_grownBy hgrow fun j o ej hj => ?_)).trans (KeepsOthers.setCell _ _ _)
  rcases (hrow.alloc tmp).2 with ⟨rfl, _⟩ | ⟨g, cap, cur, rfl, _, hgb, _⟩
  · simp [Value.ownBlock] at ej
  · obtain rfl : g = j := by simpa [Value.ownBlock] using ej
    rw [hgb] at hj; cases hj; rfl

end Go.Proofs.Ytnombgiacfeloaa
