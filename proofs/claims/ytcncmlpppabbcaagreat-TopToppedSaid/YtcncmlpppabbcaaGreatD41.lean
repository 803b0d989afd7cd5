/- Plain law: what toppings pour in any truth of a mould lies in what Hollow says; a line of one step, weighed ahead of it, loses just that. No program is in sight. -/
import Derived.Test.YtcncmlpppabbcaaGreatD28
import Derived.Test.YtcncmlpppabbcaaGreatD18
import Derived.Test.YtcncmlpppabbcaaGreatD31
import Derived.Test.YtcncmlpppabbcaaGreatD33
import Derived.Test.YtcncmlpppabbcaaGreatM21
namespace Go.Proofs.YtcncmlpppabbcaaGreat
set_option linter.unusedVariables false
set_option linter.unusedSimpArgs false
open Go.RowKit

theorem rising_of {m : Mo} (hm : MoOk m) {plan : List Int} (h : ∀ i, i < plan.length → planP m plan i) : Rising plan := by
  refine ⟨fun j hj => (h j hj).1.1, ?_⟩
  intro i j hij hj
  obtain ⟨k, rfl⟩ : ∃ k, j = i + k + 1 := ⟨j - i - 1, by omega⟩
  clear hij
  induction k with
  | zero =>
    have h1 := (h (i + 0 + 1) hj).2 (by omega)
    have g := hm.gap
    rw [show i + 0 + 1 - 1 = i by omega] at h1
    omega
  | succ k ih =>
    have h1 := (h (i + (k + 1) + 1) hj).2 (by omega)
    have g := hm.gap
    have h2 := ih (by omega)
    rw [show i + (k + 1) + 1 - 1 = i + k + 1 by omega] at h1
    omega

theorem maxTo_ge (zs : List Int) : ∀ (k i : Nat), i ≤ k → zs.getD i 0 ≤ maxTo zs k
  | 0, i, h => by
    obtain rfl : i = 0 := by omega
    exact Int.le_refl _
  | k + 1, i, h => by
    show _ ≤ max (maxTo zs k) (zs.getD (k + 1) 0)
    by_cases e : i = k + 1
    · subst e; omega
    · have := maxTo_ge zs k i (by omega)
      omega
theorem maxTo_le (zs : List Int) (M : Int) : ∀ (k : Nat), (∀ i, i ≤ k → zs.getD i 0 ≤ M) → maxTo zs k ≤ M
  | 0, h => h 0 (Nat.le_refl _)
  | k + 1, h => by
    show max (maxTo zs k) (zs.getD (k + 1) 0) ≤ M
    have h1 := maxTo_le zs M k (fun i hi => h i (by omega))
    have h2 := h (k + 1) (Nat.le_refl _)
    omega

theorem range_getD {n : Nat} (f : Nat → Int) {i : Nat} (h : i < n) : ((List.range n).map f).getD i 0 = f i := by simp [List.getD, h]
theorem whenF_some {m : Mo} {p wl : Int} {i n : Nat} (h : fs m p wl i 601 = some n) : whenF m p wl i = n := by unfold whenF; rw [h]
theorem whenF_le (m : Mo) (p wl : Int) (i : Nat) : whenF m p wl i ≤ 601 := by
  unfold whenF
  cases e : fs m p wl i 601 with
  | none => exact Int.le_refl _
  | some n =>
    rw [fs_eq] at e
    have := fsX_lt e
    show (n : Int) ≤ 601
    omega

/-- When the rings set in a truth. -/
def truW (m : Mo) (xs ys : List Int) : List Int := (List.range m.rings.toNat).map (wonF m (fun i => (truL m.plo m.phi xs m.rings.toNat).getD i 0) (fun i => (truL m.wlo m.whi ys 600).getD i 0) 601)
theorem truW_length (m : Mo) (xs ys : List Int) : (truW m xs ys).length = m.rings.toNat := by simp [truW]
theorem truL_getD {lo hi : Int} {xs : List Int} {n i : Nat} (h : i < n) : (truL lo hi xs n).getD i 0 = truF lo hi xs i := range_getD _ h

theorem truW_mid {m : Mo} (hm : MoOk m) (xs ys : List Int) {i : Nat} (hi : i < m.rings.toNat) (h : whenF m m.phi m.whi i ≠ 601) :
    whenF m m.plo m.wlo i ≤ (truW m xs ys).getD i 0 ∧ (truW m xs ys).getD i 0 ≤ whenF m m.phi m.whi i ∧ 0 ≤ (truW m xs ys).getD i 0 := by
  have hr := hm.rings
  have e0 : (truW m xs ys).getD i 0 = wonF m (fun i => (truL m.plo m.phi xs m.rings.toNat).getD i 0) (fun i => (truL m.wlo m.whi ys 600).getD i 0) 601 i := range_getD _ hi
  rw [e0]
  obtain ⟨P, hP⟩ : ∃ P : Nat → Int, (fun i => (truL m.plo m.phi xs m.rings.toNat).getD i 0) = P := ⟨_, rfl⟩
  obtain ⟨W, hW⟩ : ∃ W : Nat → Int, (fun i => (truL m.wlo m.whi ys 600).getD i 0) = W := ⟨_, rfl⟩
  have bP : ∀ j : Nat, (j : Int) < m.rings → m.plo ≤ P j ∧ P j ≤ m.phi := fun j hj => by
    have e : P j = truF m.plo m.phi xs j := by rw [← hP]; exact truL_getD (by omega)
    rw [e]
    exact truF_bd hm.pour.2.1 xs j
  have bW : ∀ j : Nat, j < 600 → m.wlo ≤ W j ∧ W j ≤ m.whi := fun j hj => by
    have e : W j = truF m.wlo m.whi ys j := by rw [← hW]; exact truL_getD hj
    rw [e]
    exact truF_bd hm.wall.2.1 ys j
  rw [hP, hW]
  cases eh : fs m m.phi m.whi i 601 with
  | none => exact absurd (by unfold whenF; rw [eh]) h
  | some nh =>
    rw [whenF_some eh]
    rw [fs_eq] at eh
    have up : ∀ k, k < 601 → trR m P W k i ≤ stR m m.phi m.whi k i := fun k hk => by
      rw [stR_eq]
      exact trR_mono hm (fun j hj => (bP j hj).2) k (fun j hj => (bW j (by omega)).2) i
    have dn : ∀ k, k < 601 → stR m m.plo m.wlo k i ≤ trR m P W k i := fun k hk => by
      rw [stR_eq]
      exact trR_mono hm (fun j hj => (bP j hj).1) k (fun j hj => (bW j (by omega)).1) i
    obtain ⟨nt, et, lt⟩ := fsX_mono (x := fun k => trR m P W k i) (y := fun k => stR m m.phi m.whi k i) up eh
    obtain ⟨nc, ec, lc⟩ := fsX_mono (x := fun k => stR m m.plo m.wlo k i) (y := fun k => trR m P W k i) dn et
    rw [← fs_eq] at ec
    rw [whenF_some ec]
    have ew : wonF m P W 601 i = nt := by unfold wonF; rw [et]
    rw [ew]
    omega

structure TopIn (m : Mo) (plan : List Int) (zs : List Int) : Prop where
  pos : ∀ i, i < m.rings.toNat → 0 ≤ zs.getD i 0
  rise : Rising plan
  le : ∀ i, i < plan.length → plan.getD i 0 ≤ 600
  len : plan.length ≤ 40
  lo : 0 ≤ (endV m (whenL m m.phi m.whi) plan).2
  mid1 : (endV m (whenL m m.phi m.whi) plan).2 ≤ pour m zs plan m.rings.toNat plan.length
  mid2 : pour m zs plan m.rings.toNat plan.length ≤ (endV m (whenL m m.plo m.wlo) plan).2
  hi : (endV m (whenL m m.plo m.wlo) plan).2 ≤ 24000

theorem top_in {m : Mo} (hm : MoOk m) {plan : List Int} (hh : hollowP m plan) (xs ys : List Int) : TopIn m plan (truW m xs ys) := by
  have hr := hm.rings
  have hn : (m.rings.toNat : Int) = m.rings := by omega
  obtain ⟨h1, h2, h3, -⟩ := hh
  have hR := rising_of hm h2
  have hsH : ∀ i, i < m.rings.toNat → (whenL m m.phi m.whi).getD i 0 = whenF m m.phi m.whi i := fun i hi => range_getD _ hi
  have hsC : ∀ i, i < m.rings.toNat → (whenL m m.plo m.wlo).getD i 0 = whenF m m.plo m.wlo i := fun i hi => range_getD _ hi
  have hne : ∀ i, i < m.rings.toNat → whenF m m.phi m.whi i ≠ 601 := fun i hi e => by
    have a1 := maxTo_ge (whenL m m.phi m.whi) (m.rings.toNat - 1) i (by omega)
    have a2 := maxTo_le (whenL m m.phi m.whi) 601 (m.rings.toNat - 1) (fun j hj => by rw [hsH j (by omega)]; exact whenF_le _ _ _ _)
    rw [hsH i hi, e] at a1
    exact h3 (by omega)
  have hmid := fun i hi => truW_mid hm xs ys (i := i) hi (hne i hi)
  have z1 : ∀ i, i < m.rings.toNat → 0 ≤ (whenL m m.plo m.wlo).getD i 0 := fun i hi => by
    rw [hsC i hi]
    unfold whenF
    split <;> omega
  have z2 : ∀ i, i < m.rings.toNat → 0 ≤ (whenL m m.phi m.whi).getD i 0 := fun i hi => by
    rw [hsH i hi]
    unfold whenF
    split <;> omega
  have eC : (endV m (whenL m m.plo m.wlo) plan).2 = pour m (whenL m m.plo m.wlo) plan m.rings.toNat plan.length := (endTo_eq z1 hR plan.length (Nat.le_refl _)).1
  have eH : (endV m (whenL m m.phi m.whi) plan).2 = pour m (whenL m m.phi m.whi) plan m.rings.toNat plan.length := (endTo_eq z2 hR plan.length (Nat.le_refl _)).1
  have bC := pour_bd hm hn (whenL m m.plo m.wlo) plan hR plan.length (Nat.le_refl _)
  have bH := pour_bd hm hn (whenL m m.phi m.whi) plan hR plan.length (Nat.le_refl _)
  exact ⟨fun i hi => (hmid i hi).2.2, hR, fun i hi => (h2 i hi).1.2, h1, by rw [eH]; exact bH.1,
    by rw [eH]; exact pour_mono hm hn plan (fun i hi => by rw [hsH i hi]; exact (hmid i hi).2.1) plan.length,
    by rw [eC]; exact pour_mono hm hn plan (fun i hi => by rw [hsC i hi]; exact (hmid i hi).1) plan.length, by rw [eC]; exact bC.2.1⟩

/-- The name of the step. -/
def topName : ByteArray := ⟨#[116, 111, 112, 45, 117, 112]⟩
def topSs (lo hi : Int) : List Stp := [⟨topName, lo, hi, 0⟩]

theorem top_name : nameOk topName = true := by decide +kernel
theorem top_fit (lo hi : Int) : NamesFit (topSs lo hi) := by
  intro x hx
  obtain rfl := List.mem_singleton.1 hx
  show topName.size ≤ _
  decide +kernel
theorem top_chk {lo hi : Int} (h0 : 0 ≤ lo) (h1 : lo ≤ hi) (h2 : hi ≤ 1000000) : chk 0 (topSs lo hi) = (0, 0, 0) := by
  have e : stepErrAt (topSs lo hi) 0 = 0 := by
    show stepErr [] ⟨topName, lo, hi, 0⟩ = 0
    unfold stepErr
    rw [if_neg (by rw [top_name]; decide), if_neg (by simp), if_neg, if_neg (by dsimp only; omega)]
    rw [anyOut3]
    simp
    omega
  unfold chk
  rw [show ((topSs lo hi).length : Int) = 1 from rfl, if_neg (by decide), if_neg (by decide)]
  show (if (firstAt (stepErrAt (topSs lo hi)) 1 0).2 = 0 then _ else _) = _
  have e2 : firstAt (stepErrAt (topSs lo hi)) 1 0 = (0, 0) := firstAt_miss _ _ _ (fun j hj => by
    obtain rfl : j = 0 := by omega
    exact e)
  rw [e2]
  rfl
theorem top_read {lo hi full : Int} (h0 : 0 ≤ full) (h1 : full ≤ 1000000) : ReadOk (topSs lo hi) [full, -1] := by
  refine ⟨rfl, ?_⟩
  intro r hr
  simp at hr
  rcases hr with rfl | rfl
  · exact .inr ⟨h0, h1⟩
  · exact .inl rfl

structure TopLine (lo hi full : Int) : Prop where
  chk : chk 0 (topSs lo hi) = (0, 0, 0)
  rd : rdErr (topSs lo hi) [full, -1] = 0
  lostE : lostErr 0 (topSs lo hi) [full, -1] 0 1 = 0
  lost : lostAt 0 (topSs lo hi) [full, -1] 0 1 = (lo, hi)
  wE : wErr 0 (topSs lo hi) [full, -1] = 0
  w : ∃ a b, wAt 0 (topSs lo hi) [full, -1] = [(full, full), (a, b)] ∧ ∀ p, lo ≤ p → p ≤ hi → a ≤ full - p ∧ full - p ≤ b

theorem top_line {lo hi full : Int} (h0 : 0 ≤ lo) (h1 : lo ≤ hi) (h2 : hi ≤ full) (h3 : full ≤ 1000000) : TopLine lo hi full := by
  have hc := top_chk h0 h1 (by omega : hi ≤ 1000000)
  have hL : LineOk 0 (topSs lo hi) := chk_ok (by rw [hc])
  have hR : ReadOk (topSs lo hi) [full, -1] := top_read (by omega) h3
  have hA : askErr 0 (topSs lo hi) [full, -1] = 0 := ask_ok (by rw [hc]) (rdErr_of_ok hR)
  have el0 : loAt 0 (topSs lo hi) [full, -1] 0 = full := by
    show rdLo full 0 = full
    unfold rdLo
    rw [if_neg (by omega)]
    omega
  have eh0 : hiAt 0 (topSs lo hi) [full, -1] 0 = full := by
    show rdHi full 0 = full
    unfold rdHi
    rw [if_neg (by omega)]
    omega
  have el1 : loAt 0 (topSs lo hi) [full, -1] 1 = 0 := rfl
  have eh1 : hiAt 0 (topSs lo hi) [full, -1] 1 = 1000000 := rfl
  have tr : ∀ p, lo ≤ p → p ≤ hi → Truth 0 (topSs lo hi) [full, -1] (fun i => if i = 0 then full else full - p) := fun p p1 p2 => by
    refine ⟨?_, ?_⟩
    · intro i hj
      have : i = 0 ∨ i = 1 := by simp at hj; omega
      rcases this with rfl | rfl
      · rw [el0, eh0]; simp
      · rw [el1, eh1]
        show 0 ≤ full - p ∧ full - p ≤ 1000000
        omega
    · intro i hj
      obtain rfl : i = 0 := by simp [topSs] at hj; omega
      show lo ≤ full - (full - p) ∧ full - (full - p) ≤ hi
      omega
  have hs := (tr lo (Int.le_refl _) h1).sound hL hR
  have ln : (topSs lo hi).length = 1 := rfl
  have inn := fun p p1 p2 => truth_in hL hR (tr p p1 p2)
  have c01 : closed 0 (topSs lo hi) [full, -1] 0 1 = hi := by
    have k1 := closed_le (err := 0) (ss := topSs lo hi) (rs := [full, -1]) 0 1
    rw [tabOf_eq hL hR, if_pos ⟨rfl, by rw [ln]; omega⟩] at k1
    have k2 := ((inn hi h1 (Int.le_refl _)).2 0 1 (by omega) (by omega)).2
    have k3 : (if (0 : Nat) = 0 then full else full - hi) - (if (1 : Nat) = 0 then full else full - hi) = hi := by simp; omega
    have k4 : shi (topSs lo hi) 0 = hi := rfl
    rw [k4] at k1
    rw [k3] at k2
    omega
  have c10 : closed 0 (topSs lo hi) [full, -1] 1 0 = -lo := by
    have k1 := closed_le (err := 0) (ss := topSs lo hi) (rs := [full, -1]) 1 0
    rw [tabOf_eq hL hR, if_neg (by omega), if_pos ⟨rfl, by rw [ln]; omega⟩] at k1
    have k2 := ((inn lo (Int.le_refl _) h1).2 0 1 (by omega) (by omega)).1
    have k3 : (if (0 : Nat) = 0 then full else full - lo) - (if (1 : Nat) = 0 then full else full - lo) = lo := by simp; omega
    have k4 : slo (topSs lo hi) 0 = lo := rfl
    rw [k4] at k1
    rw [k3] at k2
    omega
  have c07 : closed 0 (topSs lo hi) [full, -1] 0 7 = full := by
    have k1 := closed_le (err := 0) (ss := topSs lo hi) (rs := [full, -1]) 0 7
    rw [tabOf_eq hL hR, if_neg (by omega), if_neg (by omega), if_pos ⟨rfl, by simp⟩, eh0] at k1
    have k2 := ((inn lo (Int.le_refl _) h1).1 0 (by omega)).2
    have k3 : (if (0 : Nat) = 0 then full else full - lo) = full := rfl
    rw [k3] at k2
    omega
  have c70 : closed 0 (topSs lo hi) [full, -1] 7 0 = -full := by
    have k1 := closed_le (err := 0) (ss := topSs lo hi) (rs := [full, -1]) 7 0
    rw [tabOf_eq hL hR, if_neg (by omega), if_neg (by omega), if_neg (by omega), if_pos ⟨rfl, by simp⟩, el0] at k1
    have k2 := ((inn lo (Int.le_refl _) h1).1 0 (by omega)).1
    have k3 : (if (0 : Nat) = 0 then full else full - lo) = full := rfl
    rw [k3] at k2
    omega
  have lt := lost_at hA (x := 0) (y := 1) (by omega) (by rw [ln]; omega)
  rw [if_pos hs, if_pos hs] at lt
  have wt := weights_at hA
  rw [if_pos hs, if_pos hs] at wt
  refine ⟨hc, rdErr_of_ok hR, lt.1, ?_, wt.1, -closed 0 (topSs lo hi) [full, -1] 7 1, closed 0 (topSs lo hi) [full, -1] 1 7, ?_, ?_⟩
  · have := lt.2
    rw [c01, c10, Int.neg_neg] at this
    exact this
  · rw [wt.2]
    show [(-closed 0 (topSs lo hi) [full, -1] 7 0, closed 0 (topSs lo hi) [full, -1] 0 7), (-closed 0 (topSs lo hi) [full, -1] 7 1, closed 0 (topSs lo hi) [full, -1] 1 7)] = _
    rw [c70, c07, Int.neg_neg]
  · intro p p1 p2
    exact (inn p p1 p2).1 1 (by omega)

end Go.Proofs.YtcncmlpppabbcaaGreat
