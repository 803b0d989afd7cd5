/- The map of 'when': ring by ring the minute in which it sets. Plain facts. Plain law of the mould: what is nowhere warmer becomes nowhere warmer, so no ring sets earlier; where rings set earlier toppings pour no less. No program is in sight. Plain facts for the walk of mould's when: the map on the way through a minute; a row of numbers of the call's own; the way out of a loop over an iterator. Plain law: what the reference's End holds on its way from minute to minute. No program is in sight. -/
import Derived.Test.YtcncmlpppabbcaaGreatD7
import Derived.Maps.OwnIn
import Derived.Maps.Ext
import Derived.Test.YtcncmlpppabbcaaGreatD13
namespace Go.Proofs.YtcncmlpppabbcaaGreat
set_option linter.unusedVariables false
set_option linter.unusedSimpArgs false
open Go.RowKit Go.Maps

/-- The first minute, of those before the k-th, in which a ring is cold enough. -/
def fs (m : Mo) (p wl : Int) (i : Nat) : Nat → Option Nat
  | 0 => none
  | k + 1 => match fs m p wl i k with
    | some n => some n
    | none => if stR m p wl k i ≤ m.set then some k else none

def ringK (i : Nat) : Lit := .int .i64 (i : Int)
theorem ringK_key (i : Nat) : WideAt.IsKeyLit (ringK i) := trivial
theorem ringK_ne {i j : Nat} (h : i ≠ j) : ringK i ≠ ringK j := by
  intro e
  simp only [ringK, Lit.int.injEq, true_and] at e
  omega

/-- How many of the first r have a value. -/
def many (f : Nat → Option Nat) : Nat → Nat
  | 0 => 0
  | r + 1 => many f r + if (f r).isSome then 1 else 0

/-- The map holds what f says, of the rings below r. -/
structure Holds {H : Type} (D : DataW H) (r : Nat) (f : Nat → Option Nat) : Prop where
  tidy : Tidy D
  here : ∀ kl, has D kl = true → ∃ i, i < r ∧ kl = ringK i ∧ (f i).isSome = true
  all : ∀ i n, i < r → f i = some n → has D (ringK i) = true ∧ ∀ zd, D.atKey (ringK i) zd = .lit (.int .i64 (n : Int))
  size : Maps.size D = many f r

theorem many_none : ∀ (r : Nat), many (fun _ => none) r = 0
  | 0 => rfl
  | r + 1 => by simp [many, many_none r]
theorem many_congr {f g : Nat → Option Nat} : ∀ (r : Nat), (∀ i, i < r → f i = g i) → many f r = many g r
  | 0, _ => rfl
  | r + 1, h => by
    unfold many
    rw [many_congr r (fun i hi => h i (by omega)), h r (by omega)]
def putF (f : Nat → Option Nat) (k n : Nat) : Nat → Option Nat := fun i => if i = k then some n else f i
theorem many_put {f : Nat → Option Nat} {k n : Nat} (hk : f k = none) : ∀ (r : Nat), many (putF f k n) r = many f r + if k < r then 1 else 0
  | 0 => by simp [many]
  | r + 1 => by
    unfold many
    rw [many_put hk r]
    unfold putF
    by_cases e : r = k
    · subst e; simp [hk]
    · rw [if_neg e]
      by_cases h1 : k < r
      · rw [if_pos h1, if_pos (show k < r + 1 by omega)]; omega
      · rw [if_neg h1, if_neg (show ¬ k < r + 1 by omega)]; omega
theorem many_le (f : Nat → Option Nat) : ∀ r, many f r ≤ r
  | 0 => Nat.le_refl _
  | r + 1 => by unfold many; have := many_le f r; split <;> omega
theorem many_all {f : Nat → Option Nat} : ∀ (r : Nat), many f r = r → ∀ i, i < r → (f i).isSome = true
  | 0, _, i, hi => absurd hi (Nat.not_lt_zero _)
  | r + 1, h, i, hi => by
    unfold many at h
    have hl := many_le f r
    by_cases hs : (f r).isSome = true
    · rw [if_pos hs] at h
      by_cases e : i = r
      · subst e; exact hs
      · exact many_all r (by omega) i (by omega)
    · rw [if_neg hs] at h
      omega

theorem holds_empty {H : Type} (r : Nat) : Holds (.map [] : DataW H) r (fun _ => none) :=
  ⟨tidy_empty, fun kl h => by simp [Maps.has] at h, fun i n _ h => (by cases h), by rw [many_none]; rfl⟩
theorem Holds.has_iff {H : Type} {D : DataW H} {r : Nat} {f : Nat → Option Nat} (h : Holds D r f) {i : Nat} (hi : i < r) : has D (ringK i) = (f i).isSome := by
  cases hf : f i with
  | some n => exact (h.all i n hi hf).1
  | none =>
    cases hh : has D (ringK i) with
    | false => rfl
    | true =>
      obtain ⟨j, hj, e, hs⟩ := h.here _ hh
      by_cases ej : i = j
      · subst ej; rw [hf] at hs; cases hs
      · exact absurd e (ringK_ne ej)
theorem Holds.put {H : Type} {D : DataW H} {r : Nat} {f : Nat → Option Nat} (h : Holds D r f) {k : Nat} (n : Nat) (hk : k < r) (hf : f k = none) : Holds (D.put (ringK k) (.lit (.int .i64 (n : Int)))) r (putF f k n) := by
  have hm := h.tidy.isMap
  refine ⟨h.tidy.put (ringK_key k) _, ?_, ?_, ?_⟩
  · intro kl hh
    by_cases e : kl = ringK k
    · exact ⟨k, hk, e, by simp [putF]⟩
    · rw [has_put_other e] at hh
      obtain ⟨i, hi, e2, hs⟩ := h.here kl hh
      refine ⟨i, hi, e2, ?_⟩
      unfold putF
      split
      · rfl
      · exact hs
  · intro i q hi hq
    unfold putF at hq
    by_cases e : i = k
    · subst e
      rw [if_pos rfl] at hq
      obtain rfl := Option.some.inj hq
      exact ⟨has_put_same hm (ringK_key _) _, fun zd => atKey_put_same hm (ringK_key _) _ zd⟩
    · rw [if_neg e] at hq
      obtain ⟨a1, a2⟩ := h.all i q hi hq
      exact ⟨by rw [has_put_other (ringK_ne e)]; exact a1, fun zd => by rw [atKey_put_other (ringK_ne e)]; exact a2 zd⟩
  · rw [size_put h.tidy, h.has_iff hk, hf, many_put hf, if_pos hk, h.size]
    rfl

end Go.Proofs.YtcncmlpppabbcaaGreat

namespace Go.Proofs.YtcncmlpppabbcaaGreat
set_option linter.unusedVariables false
set_option linter.unusedSimpArgs false
open Go.RowKit

/-- The warmth in a truth. -/
def trR (m : Mo) (ps ws : Nat → Int) : Nat → Nat → Int
  | 0 => fun i => if (i : Int) < m.rings then ps i else 0
  | k + 1 => nxt m (trR m ps ws k) (ws k)

theorem nxt_mono {m : Mo} (hm : MoOk m) {l l' : Nat → Int} (h : ∀ i, l i ≤ l' i) {a b : Int} (hab : a ≤ b) (i : Nat) : nxt m l a i ≤ nxt m l' b i := by
  unfold nxt
  split
  · have hb : (if 0 < i then l (i - 1) else a) ≤ (if 0 < i then l' (i - 1) else b) := by
      split
      · exact h _
      · exact hab
    have hh : (if (i : Int) < m.rings - 1 then l (i + 1) else l i) ≤ (if (i : Int) < m.rings - 1 then l' (i + 1) else l' i) := by
      split <;> exact h _
    have hx := h i
    generalize (if 0 < i then l (i - 1) else a) = p at *
    generalize (if 0 < i then l' (i - 1) else b) = p' at *
    generalize (if (i : Int) < m.rings - 1 then l (i + 1) else l i) = q at *
    generalize (if (i : Int) < m.rings - 1 then l' (i + 1) else l' i) = q' at *
    generalize l i = x at *
    generalize l' i = x' at *
    have g := hm.give
    have e : ∀ p q x : Int, m.give * (p + q - 2 * x) + 1000 * x = m.give * p + m.give * q + (1000 - 2 * m.give) * x := by
      intro p q x
      rw [Int.mul_sub, Int.mul_add, Int.sub_mul, Int.mul_assoc 2, Int.mul_left_comm m.give 2]
      omega
    rw [e, e]
    have h1 := Int.mul_le_mul_of_nonneg_left hb (show 0 ≤ m.give by omega)
    have h2 := Int.mul_le_mul_of_nonneg_left hh (show 0 ≤ m.give by omega)
    have h3 := Int.mul_le_mul_of_nonneg_left hx (show 0 ≤ 1000 - 2 * m.give by omega)
    exact Int.ediv_le_ediv (show (0 : Int) < 1000 by omega) (by omega)
  · exact h i

theorem trR_mono {m : Mo} (hm : MoOk m) {ps ps' ws ws' : Nat → Int} (hp : ∀ i : Nat, (i : Int) < m.rings → ps i ≤ ps' i) : ∀ (k : Nat), (∀ j, j < k → ws j ≤ ws' j) → ∀ i, trR m ps ws k i ≤ trR m ps' ws' k i
  | 0, _, i => by
    show (if _ then _ else _) ≤ (if _ then _ else _)
    split
    · rename_i h; exact hp i h
    · exact Int.le_refl _
  | k + 1, h, i => nxt_mono hm (trR_mono hm hp k (fun j hj => h j (by omega))) (h k (by omega)) i

theorem stR_eq (m : Mo) (p wl : Int) : ∀ k, stR m p wl k = trR m (fun _ => p) (fun _ => wl) k
  | 0 => rfl
  | k + 1 => by
    show nxt m (stR m p wl k) wl = nxt m (trR m _ _ k) wl
    rw [stR_eq m p wl k]

/-- The first minute, of those before the k-th, in which something is at most a number. -/
def fsX (x : Nat → Int) (set : Int) : Nat → Option Nat
  | 0 => none
  | k + 1 => match fsX x set k with
    | some n => some n
    | none => if x k ≤ set then some k else none

theorem fsX_lt {x : Nat → Int} {set : Int} : ∀ {K n : Nat}, fsX x set K = some n → n < K
  | 0, _, h => by cases h
  | K + 1, n, h => by
    unfold fsX at h
    cases e : fsX x set K with
    | some n' =>
      rw [e] at h
      obtain rfl := Option.some.inj h
      have := fsX_lt e
      omega
    | none =>
      rw [e] at h
      simp only at h
      split at h
      · obtain rfl := Option.some.inj h; omega
      · cases h
theorem fsX_mono {x y : Nat → Int} {set : Int} : ∀ {K n : Nat}, (∀ k, k < K → x k ≤ y k) → fsX y set K = some n → ∃ n', fsX x set K = some n' ∧ n' ≤ n
  | 0, _, _, h => by cases h
  | K + 1, n, hxy, h => by
    unfold fsX at h ⊢
    cases e : fsX y set K with
    | some n' =>
      rw [e] at h
      obtain rfl := Option.some.inj h
      obtain ⟨q, hq, hl⟩ := fsX_mono (fun k hk => hxy k (by omega)) e
      exact ⟨q, by rw [hq], hl⟩
    | none =>
      rw [e] at h
      simp only at h
      split at h
      · rename_i hy
        obtain rfl := Option.some.inj h
        cases e2 : fsX x set K with
        | some q => exact ⟨q, rfl, Nat.le_of_lt (fsX_lt e2)⟩
        | none => exact ⟨K, by simp only; rw [if_pos (Int.le_trans (hxy K (by omega)) hy)], Nat.le_refl _⟩
      · cases h
theorem fsX_congr {x y : Nat → Int} {set : Int} : ∀ {K : Nat}, (∀ k, k < K → x k = y k) → fsX x set K = fsX y set K
  | 0, _ => rfl
  | K + 1, h => by
    unfold fsX
    rw [fsX_congr (K := K) (fun k hk => h k (by omega)), h K (by omega)]
theorem fs_eq (m : Mo) (p wl : Int) (i : Nat) : ∀ K, fs m p wl i K = fsX (fun k => stR m p wl k i) m.set K
  | 0 => rfl
  | K + 1 => by
    unfold fs fsX
    rw [fs_eq m p wl i K]
    try rfl
/-- What has set stays so. -/
theorem fsX_stays {x : Nat → Int} {set : Int} {n : Nat} : ∀ {K K' : Nat}, K ≤ K' → fsX x set K = some n → fsX x set K' = some n
  | K, 0, h, e => by obtain rfl : K = 0 := by omega
                     exact e
  | K, K' + 1, h, e => by
    by_cases hk : K = K' + 1
    · subst hk; exact e
    · unfold fsX
      rw [fsX_stays (K' := K') (by omega) e]

/-- What the first k rings have shrunk in a minute. -/
def sumS (m : Mo) (zs : List Int) (t : Int) : Nat → Int
  | 0 => 0
  | k + 1 => sumS m zs t k + if zs.getD k 0 ≤ t then m.shrink * (2 * (m.rings - k) - 1) else 0

/-- What the first k toppings pour. -/
def pour (m : Mo) (zs plan : List Int) (n : Nat) : Nat → Int
  | 0 => 0
  | k + 1 => pour m zs plan n k + min m.fill (sumS m zs (plan.getD k 0) n - pour m zs plan n k)

theorem sumS_bd {m : Mo} (hm : MoOk m) (zs : List Int) (t : Int) : ∀ k : Nat, (k : Int) ≤ m.rings → 0 ≤ sumS m zs t k ∧ sumS m zs t k ≤ 3000 * k
  | 0, _ => by simp [sumS]
  | k + 1, hk => by
    have ih := sumS_bd hm zs t k (by omega)
    have hb := term_bd hm (k := k) (by omega)
    unfold sumS
    split <;> push_cast <;> omega
theorem sumS_mono {m : Mo} (hm : MoOk m) {zs zs' : List Int} {t t' : Int} : ∀ k : Nat, (k : Int) ≤ m.rings → (∀ i, i < k → zs'.getD i 0 ≤ t → zs.getD i 0 ≤ t') → sumS m zs' t k ≤ sumS m zs t' k
  | 0, _, _ => Int.le_refl _
  | k + 1, hk, h => by
    have ih := sumS_mono hm k (by omega) (fun i hi => h i (by omega))
    have hb := term_bd hm (k := k) (by omega)
    have hx := h k (by omega)
    unfold sumS
    by_cases h1 : zs'.getD k 0 ≤ t
    · rw [if_pos h1, if_pos (hx h1)]; omega
    · rw [if_neg h1]
      split <;> omega

/-- The minutes of a plan, in order. -/
def Rising (plan : List Int) : Prop := (∀ j, j < plan.length → 0 ≤ plan.getD j 0) ∧ ∀ i j, i < j → j < plan.length → plan.getD i 0 < plan.getD j 0

theorem pour_bd {m : Mo} (hm : MoOk m) {n : Nat} (hn : (n : Int) = m.rings) (zs plan : List Int) (hp : Rising plan) : ∀ k, k ≤ plan.length → 0 ≤ pour m zs plan n k ∧ pour m zs plan n k ≤ 24000 ∧ ∀ t, (∀ j, j < k → plan.getD j 0 ≤ t) → pour m zs plan n k ≤ sumS m zs t n
  | 0, _ => ⟨Int.le_refl _, by simp [pour], fun t _ => (sumS_bd hm zs t n (by omega)).1⟩
  | k + 1, hk => by
    obtain ⟨h0, h1, h2⟩ := pour_bd hm hn zs plan hp k (by omega)
    have h3 := h2 (plan.getD k 0) (fun j hj => Int.le_of_lt (hp.2 j k hj (by omega)))
    have h4 := sumS_bd hm zs (plan.getD k 0) n (by omega)
    have hr := hm.rings
    have hf := hm.fill
    have e : pour m zs plan n (k + 1) = pour m zs plan n k + min m.fill (sumS m zs (plan.getD k 0) n - pour m zs plan n k) := rfl
    refine ⟨by rw [e]; omega, by rw [e]; omega, fun t ht => ?_⟩
    have h5 : sumS m zs (plan.getD k 0) n ≤ sumS m zs t n := sumS_mono hm n (by omega) fun i _ hi => Int.le_trans hi (ht k (by omega))
    rw [e]
    omega

theorem pour_mono {m : Mo} (hm : MoOk m) {n : Nat} (hn : (n : Int) = m.rings) {zs zs' : List Int} (plan : List Int) (h : ∀ i, i < n → zs.getD i 0 ≤ zs'.getD i 0) : ∀ k, pour m zs' plan n k ≤ pour m zs plan n k
  | 0 => Int.le_refl _
  | k + 1 => by
    have ih := pour_mono hm hn plan h k
    have h1 : sumS m zs' (plan.getD k 0) n ≤ sumS m zs (plan.getD k 0) n := sumS_mono hm n (by omega) fun i hi hl => Int.le_trans (h i hi) hl
    unfold pour
    omega

theorem snk_eq (m : Mo) (zs : List Int) {t0 t : Int} (ht : t0 ≤ t) {D : Nat → Bool} {n : Nat} (hD : ∀ i, i < n → D i = decide (zs.getD i 0 ≤ t0)) (h : Int) : ∀ k, k ≤ n →
    (snk m zs t D h k).2 = h + sumS m zs t k - sumS m zs t0 k ∧ (∀ i, (snk m zs t D h k).1 i = if i < k then decide (zs.getD i 0 ≤ t) else D i)
  | 0, _ => ⟨by simp [snk, sumS], fun i => by simp [snk]⟩
  | k + 1, hk => by
    obtain ⟨h1, h2⟩ := snk_eq m zs ht hD h k (by omega)
    have hk2 := h2 k
    rw [if_neg (by omega), hD k (by omega)] at hk2
    unfold snk sumS
    by_cases hc : (snk m zs t D h k).1 k = false ∧ zs.getD k 0 ≤ t
    · have hn : ¬ zs.getD k 0 ≤ t0 := by
        have := hc.1
        rw [hk2] at this
        simpa using this
      rw [if_pos hc, if_pos hc.2, if_neg hn]
      refine ⟨by simp only [h1]; omega, fun i => ?_⟩
      show putB _ k true i = _
      unfold putB
      by_cases e : i = k
      · subst e
        rw [if_pos rfl, if_pos (by omega), decide_eq_true hc.2]
      · rw [if_neg e, h2 i]
        by_cases e2 : i < k
        · rw [if_pos e2, if_pos (by omega)]
        · rw [if_neg e2, if_neg (by omega)]
    · rw [if_neg hc]
      have hx : decide (zs.getD k 0 ≤ t) = decide (zs.getD k 0 ≤ t0) := by
        by_cases h3 : zs.getD k 0 ≤ t0
        · have h4 : zs.getD k 0 ≤ t := Int.le_trans h3 ht
          rw [decide_eq_true h3, decide_eq_true h4]
        · have h4 : ¬ zs.getD k 0 ≤ t := fun h5 => hc ⟨by rw [hk2]; simpa using h3, h5⟩
          rw [decide_eq_false h3, decide_eq_false h4]
      refine ⟨?_, fun i => ?_⟩
      · rw [h1]
        by_cases h3 : zs.getD k 0 ≤ t0
        · rw [if_pos h3, if_pos (Int.le_trans h3 ht)]; omega
        · have h4 : ¬ zs.getD k 0 ≤ t := by
            rw [decide_eq_false h3] at hx
            simpa using hx
          rw [if_neg h3, if_neg h4]; omega
      · rw [h2 i]
        by_cases e : i = k
        · subst e
          rw [if_neg (by omega), if_pos (by omega), hx, hD i (by omega)]
        · by_cases e2 : i < k
          · rw [if_pos e2, if_pos (by omega)]
          · rw [if_neg e2, if_neg (by omega)]

def prev (plan : List Int) : Nat → Int
  | 0 => -1
  | k + 1 => plan.getD k 0

theorem sumS_none (m : Mo) (zs : List Int) {n : Nat} (hz : ∀ i, i < n → 0 ≤ zs.getD i 0) : ∀ k, k ≤ n → sumS m zs (-1) k = 0
  | 0, _ => rfl
  | k + 1, hk => by
    have := hz k (by omega)
    unfold sumS
    rw [sumS_none m zs hz k (by omega), if_neg (by omega)]
    rfl

theorem prev_lt {plan : List Int} (hp : Rising plan) {k : Nat} (hk : k < plan.length) : prev plan k ≤ plan.getD k 0 := by
  cases k with
  | zero => have := hp.1 0 hk; show (-1 : Int) ≤ _; omega
  | succ k => exact Int.le_of_lt (hp.2 k (k + 1) (by omega) hk)

theorem endTo_eq {m : Mo} {zs plan : List Int} {n : Nat} (hz : ∀ i, i < n → 0 ≤ zs.getD i 0) (hp : Rising plan) : ∀ k, k ≤ plan.length →
    (endTo m zs n plan k).2.2 = pour m zs plan n k ∧ (endTo m zs n plan k).2.1 = sumS m zs (prev plan k) n - pour m zs plan n k ∧ ∀ i, i < n → (endTo m zs n plan k).1 i = decide (zs.getD i 0 ≤ prev plan k)
  | 0, _ => by
    refine ⟨rfl, ?_, fun i hi => ?_⟩
    · show (0 : Int) = sumS m zs (-1) n - 0
      rw [sumS_none m zs hz n (Nat.le_refl _)]
      rfl
    · have := hz i hi
      have h2 : ¬ zs.getD i 0 ≤ -1 := by omega
      show false = decide (zs.getD i 0 ≤ -1)
      rw [decide_eq_false h2]
  | k + 1, hk => by
    obtain ⟨h1, h2, h3⟩ := endTo_eq hz hp k (by omega)
    obtain ⟨s1, s2⟩ := snk_eq m zs (prev_lt hp (k := k) (by omega)) h3 (endTo m zs n plan k).2.1 n (Nat.le_refl _)
    have hs : (snk m zs (plan.getD k 0) (endTo m zs n plan k).1 (endTo m zs n plan k).2.1 n).2 = sumS m zs (plan.getD k 0) n - pour m zs plan n k := by
      rw [s1, h2]; omega
    refine ⟨?_, ?_, fun i hi => ?_⟩
    · show (endTo m zs n plan k).2.2 + min m.fill _ = _
      rw [hs, h1]
      rfl
    · show _ - min m.fill _ = _
      rw [hs]
      show _ = sumS m zs (plan.getD k 0) n - (pour m zs plan n k + min m.fill (sumS m zs (plan.getD k 0) n - pour m zs plan n k))
      omega
    · show (snk m zs (plan.getD k 0) (endTo m zs n plan k).1 (endTo m zs n plan k).2.1 n).1 i = _
      rw [s2 i, if_pos hi]
      rfl

end Go.Proofs.YtcncmlpppabbcaaGreat

namespace Go.Proofs.YtcncmlpppabbcaaGreat
set_option linter.unusedVariables false
set_option linter.unusedSimpArgs false
open Go.RowKit Go.Maps

theorem Holds.congr {H : Type} {D : DataW H} {r : Nat} {f g : Nat → Option Nat} (h : Holds D r f) (e : ∀ i, i < r → f i = g i) : Holds D r g :=
  ⟨h.tidy, fun kl hk => by obtain ⟨i, hi, a, b⟩ := h.here kl hk; exact ⟨i, hi, a, by rw [← e i hi]; exact b⟩, fun i n hi hg => h.all i n hi (by rw [e i hi]; exact hg), by rw [h.size, many_congr r e]⟩

/-- What is known behind the first j rings of a minute. -/
def wf (m : Mo) (p wl : Int) (k j : Nat) : Nat → Option Nat := fun i => if i < j then fs m p wl i (k + 1) else fs m p wl i k
theorem fs_succ (m : Mo) (p wl : Int) (i k : Nat) : fs m p wl i (k + 1) = match fs m p wl i k with
    | some n => some n
    | none => if stR m p wl k i ≤ m.set then some k else none := rfl
theorem wf_zero (m : Mo) (p wl : Int) (k : Nat) : wf m p wl k 0 = fun i => fs m p wl i k := by
  funext i
  unfold wf
  rw [if_neg (by omega)]
theorem wf_end {m : Mo} {p wl : Int} {k j : Nat} (i : Nat) (hi : i < j) : wf m p wl k j i = fs m p wl i (k + 1) := by
  unfold wf
  rw [if_pos hi]
theorem wf_put {m : Mo} {p wl : Int} {k j : Nat} (h : wf m p wl k j j = none) (hs : stR m p wl k j ≤ m.set) : wf m p wl k (j + 1) = putF (wf m p wl k j) j k := by
  funext i
  unfold wf at h
  rw [if_neg (by omega)] at h
  unfold putF wf
  by_cases e : i = j
  · subst e
    rw [if_pos (by omega), if_pos rfl]
    rw [fs_succ, h]
    simp only
    rw [if_pos hs]
  · rw [if_neg e]
    by_cases e2 : i < j
    · rw [if_pos e2, if_pos (by omega)]
    · rw [if_neg e2, if_neg (by omega)]
theorem wf_skip {m : Mo} {p wl : Int} {k j : Nat} (h : ¬ (wf m p wl k j j = none ∧ stR m p wl k j ≤ m.set)) : wf m p wl k (j + 1) = wf m p wl k j := by
  funext i
  unfold wf at h ⊢
  rw [if_neg (by omega)] at h
  by_cases e : i = j
  · subst e
    rw [if_pos (by omega), if_neg (by omega)]
    rw [fs_succ]
    cases hf : fs m p wl i k with
    | some n => rfl
    | none =>
      simp only
      rw [if_neg (fun hs => h ⟨hf, hs⟩)]
  · by_cases e2 : i < j
    · rw [if_pos e2, if_pos (by omega)]
    · rw [if_neg e2, if_neg (by omega)]

theorem many_iff {f : Nat → Option Nat} {r : Nat} (h : many f r = r) {m : Mo} {p wl : Int} {k : Nat} (hk : k ≤ 600) (hf : ∀ i, i < r → f i = fs m p wl i (k + 1)) : ∀ i, i < r → f i = fs m p wl i 601 := by
  intro i hi
  have hs := many_all r h i hi
  obtain ⟨n, hn⟩ := Option.isSome_iff_exists.1 hs
  have h1 := (hf i hi).symm.trans hn
  rw [fs_eq] at h1
  rw [hn, fs_eq]
  exact (fsX_stays (show k + 1 ≤ 601 by omega) h1).symm

theorem RgAt.same8 {w w' : World} {B : Nat} {l : Nat → Int} (h : RgAt w B l) (e : w'.heap[B]? = w.heap[B]?) : RgAt w' B l := e.trans h

theorem MoAt.same8 {w w' : World} {B : Nat} {m : Mo} (h : MoAt w B m) (e : w'.heap[B]? = w.heap[B]?) : MoAt w' B m :=
  have hc : ∀ {o : Nat} {v : Value}, w.cell? ⟨B, o, none⟩ = some v → w'.cell? ⟨B, o, none⟩ = some v := fun hv => (World.cell?_of_block e).trans hv
  ⟨hc h.c0, hc h.c1, hc h.c2, hc h.c3, hc h.c4, hc h.c5, hc h.c6, hc h.c7, hc h.c8, hc h.c9, hc h.c10, hc h.c11⟩
theorem MoAt.lt {w : World} {B : Nat} {m : Mo} (h : MoAt w B m) : B < w.heap.size := lt_of_cell h.c0

/-- A row of whole numbers. -/
def inRow (n : Nat) (g : Nat → Int) : List Value := (List.range n).map fun i => Value.int .i64 (g i)
theorem inRow_length (n : Nat) (g : Nat → Int) : (inRow n g).length = n := by simp [inRow]
theorem inRow_get {n : Nat} (g : Nat → Int) {i : Nat} (h : i < n) : (inRow n g)[i]? = some (.int .i64 (g i)) := by simp [inRow, h]
theorem inRow_congr {n : Nat} {g g' : Nat → Int} (h : ∀ i, i < n → g i = g' i) : inRow n g = inRow n g' := by
  unfold inRow
  exact List.map_congr_left fun i hi => by rw [h i (List.mem_range.1 hi)]
theorem inRow_put {n : Nat} (g : Nat → Int) (k : Nat) (x : Int) (h : k < n) : (inRow n g).set k (.int .i64 x) = inRow n (putR g k x) := by
  apply List.ext_getElem?
  intro i
  by_cases hi : i < n
  · rw [inRow_get _ hi, List.getElem?_set]
    unfold putR
    by_cases e : k = i
    · subst e
      rw [if_pos rfl, if_pos (by rw [inRow_length]; exact h), if_pos rfl]
    · rw [if_neg e, if_neg (fun q => e q.symm), inRow_get _ hi]
  · rw [List.getElem?_eq_none (by rw [List.length_set, inRow_length]; omega), List.getElem?_eq_none (by rw [inRow_length]; omega)]
theorem inRow_const (n : Nat) (x : Int) : List.replicate n (Value.int .i64 x) = inRow n fun _ => x := by
  unfold inRow
  rw [List.map_const', List.length_range]

def InAt (w : World) (B n : Nat) (g : Nat → Int) : Prop := w.heap[B]? = some (.cells (inRow n g).toArray 3 (0, 0))
theorem InAt.lt {w : World} {B n : Nat} {g : Nat → Int} (h : InAt w B n g) : B < w.heap.size := (Array.getElem?_eq_some_iff.1 h).1
theorem InAt.cell {w : World} {B n : Nat} {g : Nat → Int} (h : InAt w B n g) {i : Nat} (hi : i < n) : w.cell? ⟨B, i, none⟩ = some (.int .i64 (g i)) := by
  rw [cell_of_row w B _ _ 3 (0, 0) h]
  simp only [List.getElem?_toArray]
  exact inRow_get g hi
theorem InAt.frozen {w : World} {B n : Nat} {g : Nat → Int} (h : InAt w B n g) (o : Nat) : w.frozen? ⟨B, o, none⟩ = false := frozen_of_row h
theorem InAt.set {w : World} {B n : Nat} {g : Nat → Int} (h : InAt w B n g) {k : Nat} (x : Int) (hk : k < n) : InAt (w.setCell ⟨B, k, none⟩ (.int .i64 x)) B n (putR g k x) := by
  have := heap_setCell_row (k := k) (v := .int .i64 x) h
  unfold InAt
  rw [this, ← inRow_put g k x hk]
theorem InAt.other {w : World} {B n b o : Nat} {v : Value} {g : Nat → Int} (h : InAt w B n g) (hne : b ≠ B) : InAt (w.setCell ⟨b, o, none⟩ v) B n g := by
  unfold InAt
  rw [heap_setCell_ne hne]; exact h
theorem InAt.drew {w : World} {B n : Nat} {g : Nat → Int} (h : InAt w B n g) : InAt w.drew B n g := h
theorem InAt.same {w w' : World} {B n : Nat} {g : Nat → Int} (h : InAt w B n g) (e : w'.heap[B]? = w.heap[B]?) : InAt w' B n g := e.trans h
theorem InAt.congr {w : World} {B n : Nat} {g g' : Nat → Int} (h : InAt w B n g) (e : ∀ i, i < n → g i = g' i) : InAt w B n g' := by
  unfold InAt
  rw [← inRow_congr e]; exact h
theorem InAt.rd {w : World} {B n : Nat} {g : Nat → Int} (h : InAt w B n g) (hn : n ≤ 1000) : Rd w 1 (.slice (some ⟨B, 0, none⟩) n n) (ints ((List.range n).map g)) := by
  refine ⟨_, _, by rw [ints_length, List.length_map, List.length_range], by rw [ints_length, List.length_map, List.length_range]; exact Nat.le_refl _, by rw [ints_length, List.length_map, List.length_range]; omega, ?_, fun _ => ⟨_, _, rfl, h.lt, ?_⟩⟩
  · intro r hr
    simp only [ints, List.mem_map] at hr
    obtain ⟨z, -, rfl⟩ := hr
    rfl
  · intro j r hj i x hi
    simp only [ints, List.getElem?_map, Option.map_eq_some_iff] at hj
    obtain ⟨z, ⟨y, hy, rfl⟩, rfl⟩ := hj
    obtain ⟨hy1, hy2⟩ := List.getElem?_eq_some_iff.1 hy
    simp at hy1 hy2
    subst hy2
    have hi0 : i = 0 := by
      have := (List.getElem?_eq_some_iff.1 hi).1
      simpa using this
    subst hi0
    simp at hi
    subst hi
    have := h.cell hy1
    simpa using this

/-- A loop over an iterator that is left by 'break' alone: at its end and behind a break one thing holds. -/
theorem wpIn_rangeFunc_low1 {F : Fence} {n : Nat} {P : Program} {g : Operand} {ps : Array Tmp} {assign body : Code} {Q : Exit → Act → World → Prop} {a : Act} {w : World} {id : Nat}
    (hro : F.round = none) (h1 : 1 ≤ n) {gf : Nat} {lb : Array Value} (hg : a.eval g = .func (.func gf) #[] lb) (hFg : F.fn gf) (eg : ∀ args w, (callFunc gf args).run P w = .ok (.enter gf args) w)
    {encs : Nat → Array Value} {C : Nat → Prop} {N : Nat} (hseq : SeqLow F (n - 1) P gf lb encs C N w) (hps : ∀ k, (encs k).size = ps.size) (hC : ∀ b, C b → b < w.heap.size)
    (I : Nat → World → Prop) (E : World → Prop) (hI : LowA w.heap.size I) (hE : ∀ W W', E W → Below w.heap.size W W' → E W') (h0 : I 0 w) (hIE : ∀ W, I N W → E W)
    (Aft : Array Value → Nat → Act → World → Prop)
    (hassign : ∀ (k : Nat) (W : World) (K : Act → World → Prop), I k W → k < N → w.heap.size + 2 ≤ W.heap.size →
      (∀ a1 W1, SameAt (fun b => w.heap.size ≤ b ∨ C b) W W1 → I k W1 → (∀ o, Aft a.tmps k a1 (W1.putObj (w.heap.size + 1) o)) → K a1 W1) →
      assign.wpIn (F.inRound (w.heap.size + 1)) (n - 1 - 1) P (Exit.then K (fun _ _ _ => False)) { tmps := (ps.zip (encs k)).foldl (fun t (p, v) => t.setIfInBounds p v) a.tmps, defers := [] } W)
    (hbody : ∀ (k : Nat) (a1 : Act) (W : World), Aft a.tmps k a1 W → I k W → k < N → w.heap.size + 2 ≤ W.heap.size →
      body.wpIn (F.inRound (w.heap.size + 1)) (n - 1 - 1) P (lowPost w.heap.size C I (fun c _ W' => c = .exit id ∧ E W') k W) a1 W)
    (hfin : ∀ W : World, E W → W.heap[w.heap.size]? = some (.deferred (some [])) → Q .normal { a with defers := { target := .collected w.heap.size, args := #[] } :: a.defers } W) :
    (Code.rangeFunc g ps assign body).wpIn F n P (Exit.inBlock id Q) a w := by
  refine wpIn_rangeFunc_low hro h1 hg hFg eg hseq hps hC I (fun c _ W => c = .exit id ∧ E W) hI (fun c k W W' h hb => ⟨h.1, hE W W' h.2 hb⟩) h0 (Aft a.tmps) hassign hbody ?_ ?_
  · intro W hW hd
    exact hfin W (hIE W hW) hd
  · rintro c k W _ _ ⟨rfl, hW⟩ hd
    refine wpIn_exit ?_
    have h := hfin W hW hd
    simpa [Exit.inBlock] using h

theorem owns_same {H : Type} {P : Program} {k : TypeId} {R : Value → Option (DataW H × List MemPlace)} {b n : Nat} {D : DataW H} {w w' : World} (h : w.ownsMap P k R b n D) (e : w'.heap[b]? = w.heap[b]?) : w'.ownsMap P k R b n D := by
  obtain ⟨es, clock, hb, F, hs, hD⟩ := h
  exact ⟨es, clock, e.trans hb, F, hs, hD⟩

theorem SameAt.of_grown {S : Nat → Prop} {A B : World} {b : Nat} (h : A.grownBy B (some b)) (hb : ¬ S b) : SameAt S A B :=
  ⟨h.size, fun i hi hl => h.block i hl (fun e => hb (by obtain rfl := Option.some.inj e; exact hi))⟩

end Go.Proofs.YtcncmlpppabbcaaGreat

namespace Go.Proofs.YtcncmlpppabbcaaGreat
set_option linter.unusedVariables false
set_option linter.unusedSimpArgs false
open Go.RowKit

/-- Ahead of minute N: the hollow and what was poured. -/
def EndOut (m : Mo) (zs plan : List Int) (n : Nat) (N : Int) (h p : Int) : Prop :=
  ∃ c, c ≤ plan.length ∧ h + p = sumS m zs (N - 1) n ∧ p = pour m zs plan n c ∧ (∀ i, i < c → plan.getD i 0 < N) ∧ ∀ i, c ≤ i → i < plan.length → N ≤ plan.getD i 0
/-- In minute N, when the first i rings have been looked at. -/
def EndMid (m : Mo) (zs plan : List Int) (n : Nat) (N : Int) (i : Nat) (h p : Int) : Prop :=
  ∃ c, c ≤ plan.length ∧ h + p = sumS m zs (N - 1) n + (sumS m zs N i - sumS m zs (N - 1) i) ∧ p = pour m zs plan n c ∧ (∀ i, i < c → plan.getD i 0 < N) ∧ ∀ i, c ≤ i → i < plan.length → N ≤ plan.getD i 0
/-- In minute N, when the first j toppings have been looked at. -/
def EndIn (m : Mo) (zs plan : List Int) (n : Nat) (N : Int) (j : Nat) (h p : Int) : Prop :=
  ∃ c, c ≤ plan.length ∧ h + p = sumS m zs N n ∧ p = pour m zs plan n c ∧ (∀ i, i < c → plan.getD i 0 ≤ N) ∧ (∀ i, c ≤ i → i < plan.length → N ≤ plan.getD i 0) ∧
    (∀ i, i < j → i < plan.length → plan.getD i 0 = N → i < c) ∧ ∀ i, j ≤ i → i < c → plan.getD i 0 < N

theorem sumS_succ (m : Mo) (zs : List Int) (t : Int) (k : Nat) : sumS m zs t (k + 1) = sumS m zs t k + if zs.getD k 0 ≤ t then m.shrink * (2 * (m.rings - k) - 1) else 0 := rfl

variable {m : Mo} {zs plan : List Int} {n : Nat} {N h p : Int}

theorem EndOut.start (hz : ∀ i, i < n → 0 ≤ zs.getD i 0) (hp : Rising plan) : EndOut m zs plan n 0 0 0 :=
  ⟨0, Nat.zero_le _, by have := sumS_none m zs hz n (Nat.le_refl _); simpa using this.symm, rfl, fun i hi => absurd hi (by omega), fun i _ hi => hp.1 i hi⟩
theorem EndOut.mid (e : EndOut m zs plan n N h p) : EndMid m zs plan n N 0 h p := by
  obtain ⟨c, a, b, d, f, g⟩ := e
  exact ⟨c, a, by rw [b]; simp [sumS], d, f, g⟩
theorem EndMid.hit {i : Nat} (e : EndMid m zs plan n N i h p) (hi : zs.getD i 0 = N) : EndMid m zs plan n N (i + 1) (h + m.shrink * (2 * (m.rings - i) - 1)) p := by
  obtain ⟨c, a, b, d, f, g⟩ := e
  refine ⟨c, a, ?_, d, f, g⟩
  rw [sumS_succ, sumS_succ]
  rw [if_pos (by omega), if_neg (by omega)]
  omega
theorem EndMid.miss {i : Nat} (e : EndMid m zs plan n N i h p) (hi : zs.getD i 0 ≠ N) : EndMid m zs plan n N (i + 1) h p := by
  obtain ⟨c, a, b, d, f, g⟩ := e
  refine ⟨c, a, ?_, d, f, g⟩
  rw [sumS_succ, sumS_succ]
  by_cases h1 : zs.getD i 0 ≤ N
  · rw [if_pos h1, if_pos (by omega)]; omega
  · rw [if_neg h1, if_neg (by omega)]; omega
theorem EndMid.into (e : EndMid m zs plan n N n h p) : EndIn m zs plan n N 0 h p := by
  obtain ⟨c, a, b, d, f, g⟩ := e
  exact ⟨c, a, by omega, d, fun i hi => Int.le_of_lt (f i hi), g, fun i hi => absurd hi (by omega), fun i _ hi => f i hi⟩
theorem EndIn.hit (hp : Rising plan) {j : Nat} (e : EndIn m zs plan n N j h p) (hj : j < plan.length) (hh : plan.getD j 0 = N) : EndIn m zs plan n N (j + 1) (h - min m.fill h) (p + min m.fill h) := by
  obtain ⟨c, a, b, d, f, g, k, l⟩ := e
  have h1 : ¬ j < c := fun q => by have := l j (Nat.le_refl _) q; omega
  have h2 : ¬ c < j := fun q => by
    have e1 := g c (Nat.le_refl _) (by omega)
    have e2 := hp.2 c j q hj
    omega
  obtain rfl : c = j := by omega
  have eh : h = sumS m zs (plan.getD c 0) n - pour m zs plan n c := by rw [hh]; omega
  refine ⟨c + 1, hj, by omega, ?_, ?_, ?_, ?_, ?_⟩
  · show _ = pour m zs plan n c + min m.fill (sumS m zs (plan.getD c 0) n - pour m zs plan n c)
    rw [← eh, d]
  · intro i hi
    by_cases q : i = c
    · subst q; omega
    · exact f i (by omega)
  · intro i hi hl
    exact g i (by omega) hl
  · intro i hi _ _
    exact hi
  · intro i h3 h4
    omega
theorem EndIn.miss {j : Nat} (e : EndIn m zs plan n N j h p) (hh : plan.getD j 0 ≠ N) : EndIn m zs plan n N (j + 1) h p := by
  obtain ⟨c, a, b, d, f, g, k, l⟩ := e
  refine ⟨c, a, b, d, f, g, fun i hi hl he => ?_, fun i hi hc => l i (by omega) hc⟩
  by_cases q : i = j
  · subst q; exact absurd he hh
  · exact k i (by omega) hl he
theorem EndIn.out (e : EndIn m zs plan n N plan.length h p) : EndOut m zs plan n (N + 1) h p := by
  obtain ⟨c, a, b, d, f, g, k, l⟩ := e
  refine ⟨c, a, by rw [b]; congr 1; omega, d, fun i hi => by have := f i hi; omega, fun i hi hl => ?_⟩
  have h1 := g i hi hl
  have h2 : plan.getD i 0 ≠ N := fun q => by have := k i hl hl q; omega
  omega
theorem EndOut.last (hp : Rising plan) (e : EndOut m zs plan n 601 h p) (h6 : ∀ i, i < plan.length → plan.getD i 0 ≤ 600) : p = pour m zs plan n plan.length := by
  obtain ⟨c, a, b, d, f, g⟩ := e
  by_cases q : c < plan.length
  · have := g c (Nat.le_refl _) q
    have := h6 c q
    omega
  · obtain rfl : c = plan.length := by omega
    exact d

theorem EndMid.bd (hm : MoOk m) (hn : (n : Int) = m.rings) (hp : Rising plan) {i : Nat} (hi : i ≤ n) (e : EndMid m zs plan n N i h p) : 0 ≤ h ∧ h ≤ 100000 ∧ 0 ≤ p ∧ p ≤ 24000 := by
  obtain ⟨c, a, b, d, f, g⟩ := e
  obtain ⟨p1, p2, p3⟩ := pour_bd hm hn zs plan hp c a
  have q1 := p3 (N - 1) (fun j hj => by have := f j hj; omega)
  have q2 := sumS_bd hm zs (N - 1) n (by omega)
  have q3 := sumS_bd hm zs N i (by omega)
  have q4 := sumS_bd hm zs (N - 1) i (by omega)
  have q5 : sumS m zs (N - 1) i ≤ sumS m zs N i := sumS_mono hm i (by omega) fun k _ hk => by omega
  have hr := hm.rings
  omega
theorem EndIn.bd (hm : MoOk m) (hn : (n : Int) = m.rings) (hp : Rising plan) {j : Nat} (e : EndIn m zs plan n N j h p) : 0 ≤ h ∧ h ≤ 100000 ∧ 0 ≤ p ∧ p ≤ 24000 := by
  obtain ⟨c, a, b, d, f, g, -⟩ := e
  obtain ⟨p1, p2, p3⟩ := pour_bd hm hn zs plan hp c a
  have q1 := p3 N (fun j hj => f j hj)
  have q2 := sumS_bd hm zs N n (by omega)
  have hr := hm.rings
  omega

end Go.Proofs.YtcncmlpppabbcaaGreat
