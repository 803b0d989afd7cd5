/- A region that draws its order, within a round of a loop over an iterator, goes as outside of one. No program is in sight. -/
import Derived.OrdersIn
import Derived.RegionTactic
import Derived.OwnWalkIn
import Derived.RangeFuncCalls
import Derived.Test.YtcncmlpppabbcaaGreatB
namespace Go.Proofs.YtcncmlpppabbcaaGreat
set_option linter.unusedVariables false
set_option linter.unusedSimpArgs false
open Go.RowKit

theorem wpIn_inRound {F : Fence} {n : Nat} {P : Program} {Q : Exit → Act → World → Prop} {l : Nat} {o : Oper} {K : Act → World → Prop} {a : Act} {w : World} (hro : F.round = none) (hd : ∀ c : Call, o.op ≠ Op.defer c) (h : o.wpIn F n P a w K Q) : o.wpIn (F.inRound l) n P a w K Q := by
  unfold Oper.wpIn at *
  refine ⟨h.1, ?_⟩
  rw [Oper.semAt_plain _ _ _ hd]
  have h2 := h.2
  rw [hro, Oper.semAt_none] at h2
  exact h2

theorem wpAnyIn_inRound {F : Fence} {n : Nat} {P : Program} {md : Region.Mode} {ops : Array Oper} {Q : Exit → Act → World → Prop} (l : Nat) (hro : F.round = none) (hd : ∀ (i : Nat) (o : Oper), ops[i]? = some o → ∀ c : Call, o.op ≠ Op.defer c) :
    ∀ (fuel : Nat) (listed : Array Bool) (a : Act) (w : World), wpAnyIn F n P md ops Q fuel listed a w → wpAnyIn (F.inRound l) n P md ops Q fuel listed a w := by
  intro fuel
  induction fuel with
  | zero => intro listed a w h; exact h
  | succ fuel ih =>
    intro listed a w h
    refine ⟨h.1, fun i hi => ?_⟩
    have h2 := h.2 i hi
    unfold wpOpIn at *
    cases ho : ops[i]? with
    | none => simp only [ho] at h2 ⊢; exact ih _ _ _ h2
    | some o =>
      simp only [ho] at h2 ⊢
      split
      · rename_i hw
        rw [if_pos hw] at h2
        exact wpIn_inRound hro (hd i o ho) (Oper.wpIn_mono (fun a w h3 => ih _ _ _ h3) h2)
      · rename_i hw
        rw [if_neg hw] at h2
        exact ⟨h2.1, ih _ _ _ h2.2⟩

/-- No operation is a defer statement. -/
def noDefer (ops : Array Oper) : Bool := ops.all fun o => match o.op with | .defer _ => false | _ => true

theorem noDefer_spec {ops : Array Oper} (h : noDefer ops = true) (i : Nat) (o : Oper) (ho : ops[i]? = some o) (c : Call) : o.op ≠ Op.defer c := by
  intro e
  obtain ⟨hi, rfl⟩ := Array.getElem?_eq_some_iff.1 ho
  have := (Array.all_eq_true.1 h) i hi
  rw [e] at this
  simp at this

theorem wpIn_region_round {F : Fence} {n : Nat} {P : Program} {ops : Array Oper} {Q : Exit → Act → World → Prop} {id l : Nat} {a : Act} {w : World} (hm : P.follows .mixedOrders = true) (hro : F.round = none) (hd : noDefer ops = true)
    (k : Nat) (hk : ops.size = k) (h : wpAnyIn F n P .any ops Q k (Array.replicate k false) a w.drew) : (Code.region id ops true).wpIn (F.inRound l) n P Q a w := by
  subst hk
  exact wpIn_region_any hm (wpAnyIn_inRound l hro (noDefer_spec hd) _ _ _ _ h)

/-- A region that never panics: what holds behind it is asked of its normal end alone. -/
def onlyNormal (Q : Exit → Act → World → Prop) : Exit → Act → World → Prop
  | .normal, a, w => Q .normal a w
  | _, _, _ => False

theorem onlyNormal_mk {Q : Exit → Act → World → Prop} {a : Act} {w : World} (h : Q .normal a w) : onlyNormal Q .normal a w := h

theorem wp_calm {c : Code} {P : Program} {Q : Exit → Act → World → Prop} {a : Act} {w : World} (h : c.wp P (onlyNormal Q) a w) : c.wp P Q a w :=
  wp_mono h fun e a w he => by cases e <;> first | exact he | exact he.elim

theorem wpIn_calm {F : Fence} {n : Nat} {c : Code} {P : Program} {Q : Exit → Act → World → Prop} {a : Act} {w : World} (h : c.wpIn F n P (onlyNormal Q) a w) : c.wpIn F n P Q a w :=
  wpIn_mono h fun e a w he => by cases e <;> first | exact he | exact he.elim

theorem wp_region_k {P : Program} {ops : Array Oper} {Q : Exit → Act → World → Prop} {id : Nat} {a : Act} {w : World} (hm : P.follows .mixedOrders = true)
    (k : Nat) (hk : ops.size = k) (h : wpAny P .any ops Q k (Array.replicate k false) a w.drew) : (Code.region id ops true).wp P Q a w := by
  subst hk
  exact wp_region_any hm h

end Go.Proofs.YtcncmlpppabbcaaGreat
