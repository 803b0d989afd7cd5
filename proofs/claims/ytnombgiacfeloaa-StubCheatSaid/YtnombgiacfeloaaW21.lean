/- The walks of the laws' 'turn' and 'heap': how much foreign and other wax bags have in any truth. -/
import Derived.Test.YtnombgiacfeloaaW19
import Derived.Test.YtnombgiacfeloaaW20
import Derived.Test.YtnombgiacfeloaaP1
import Derived.Deep.RegionHeld3
namespace Go.Proofs.Ytnombgiacfeloaa
set_option linter.unusedVariables false
set_option linter.unusedSimpArgs false
open Go.RowKit

/-- The n-th number of a list, by turns. -/
def turnR (zs : List Int) (n : Int) : Int := if zs.length = 0 then 0 else zs.getD (n % zs.length).toNat 0

theorem turnR_bd {zs : List Int} (h : ∀ z ∈ zs, 0 ≤ z ∧ z ≤ 65535) (n : Int) : 0 ≤ turnR zs n ∧ turnR zs n ≤ 65535 := by
  unfold turnR
  split
  · omega
  · rw [List.getD_eq_getElem?_getD]
    cases e : zs[(n % zs.length).toNat]? with
    | none => simp
    | some z => simpa using h z (List.mem_of_getElem? e)

theorem nums_length (zs : List Int) : (nums zs).length = zs.length := by simp [nums]

theorem Rd.nums {w : World} {v : Value} {zs : List Int} (h : Rd w 1 v (nums zs)) :
    ∃ a c, v = .slice a zs.length c ∧ zs.length ≤ c ∧ zs.length ≤ 9223372036854775807 ∧ (0 < zs.length → ∃ b off, a = some ⟨b, off, none⟩ ∧ b < w.heap.size ∧ ∀ j (hj : j < zs.length), w.cell? ⟨b, off + j, none⟩ = some (.int .u16 zs[j])) := by
  obtain ⟨a, c, hv, hc, hm, hl, hr⟩ := h
  rw [nums_length] at hv hc hm hr
  refine ⟨a, c, hv, hc, hm, fun h0 => ?_⟩
  obtain ⟨b, off, ha, hlt, hcell⟩ := hr h0
  exact ⟨b, off, ha, hlt, fun j hj => by
    have := hcell j [.int .u16 zs[j]] (by simp [Ytnombgiacfeloaa.nums, hj]) 0 (.int .u16 zs[j]) rfl
    simpa using this⟩

set_option maxHeartbeats 400000 in
theorem turn_any (zs : List Int) (v : Value) (n : Int) (w : World) (h : Rd w 1 v (nums zs)) (hz : ∀ z ∈ zs, 0 ≤ z ∧ z ≤ 65535) (hn : 0 ≤ n ∧ n ≤ 1000000000) :
    Calls Try.prog 53 #[v, .int .i64 n] w fun e w' => e = .returned (.int .i64 (turnR zs n)) ∧ Below w.heap.size w w' := by
  obtain ⟨a, c, rfl, -, hm, hr⟩ := h.nums
  have H := Lib.hid hr
  have HZ := Lib.hid hz
  clear hr h hz
  by_cases h0 : zs.length = 0
  · have e0 : turnR zs n = 0 := by unfold turnR; rw [if_pos h0]
    rw [e0]
    rw [h0]
    go_enter Try.func53, Try.ntmps53
    go_wp2_with fail
    go_ret
    exact ⟨rfl, by (repeat (first | assumption | exact Below.refl _ _ | refine Below.alloc ?_ (by (try simp) <;> omega) _ | refine below_drewN ?_ _ | refine Below.drew ?_ | refine Below.setCell ?_ (by (try simp) <;> omega) _ | refine Below.trans ?_ (Below.mono (by assumption) (by (try simp) <;> omega))))⟩
  · obtain ⟨b, off, rfl, hbl, hc⟩ := H.out (by omega)
    have hl : (0 : Int) < zs.length := by omega
    have r1 : 0 ≤ n % zs.length := Int.emod_nonneg _ (by omega)
    have r2 : n % zs.length < zs.length := Int.emod_lt_of_pos _ hl
    obtain ⟨k, hk⟩ : ∃ k : Nat, n % zs.length = k := ⟨(n % zs.length).toNat, by omega⟩
    have hk1 : k < zs.length := by omega
    have g := hc k hk1
    have e0 : turnR zs n = zs[k] := by
      unfold turnR
      rw [if_neg h0, hk, Int.toNat_natCast, List.getD_eq_getElem?_getD, List.getElem?_eq_getElem hk1]
      rfl
    have m := HZ.out _ (List.getElem_mem hk1)
    rw [e0]
    generalize zs[k] = z at g m ⊢
    have ek : Int.tmod n zs.length = k := by rw [Int.tmod_eq_emod_of_nonneg hn.1, hk]
    have hz0 : ((zs.length : Int) == 0) = false := by rw [beq_eq_false_iff_ne]; omega
    have hk2 : (k : Int) < zs.length := by omega
    clear hc hk e0 r1 r2
    go_enter Try.func53, Try.ntmps53
    go_wp2_with fail
    go_ret
    exact ⟨rfl, by (repeat (first | assumption | exact Below.refl _ _ | refine Below.alloc ?_ (by (try simp) <;> omega) _ | refine below_drewN ?_ _ | refine Below.drew ?_ | refine Below.setCell ?_ (by (try simp) <;> omega) _ | refine Below.trans ?_ (Below.mono (by assumption) (by (try simp) <;> omega))))⟩

/-- How far the next kind that a set has lies ahead. -/
def aheadK (K n : Nat) : Nat := (List.range 8).findIdx fun d => hasK K ((n + d) % 8)

theorem aheadK_less {K n : Nat} (hK : 1 ≤ K) (hK' : K ≤ 255) (hn : n < 8) (h : hasK K n = false) : aheadK K ((n + 1) % 8) < aheadK K n := by
  have : ∀ K : Fin 256, ∀ n : Fin 8, 1 ≤ K.1 → hasK K.1 n.1 = false → aheadK K.1 ((n.1 + 1) % 8) < aheadK K.1 n.1 := by decide +kernel
  exact this ⟨K, by omega⟩ ⟨n, hn⟩ hK h

/-- Bags in some truth: their foreign wax and their other wax lie between those of the best and of the worst truth. -/
def Between (a : Int) (bs : List Bag) (k : Nat) (F G : Int) : Prop :=
  sumTo (forR a) bs k ≤ F ∧ F ≤ sumTo (badR a) bs k ∧ sumTo (restR a) bs k ≤ G ∧ G ≤ sumTo (goodR a) bs k

theorem goodTo_mono (A K n m : Nat) (hn : n < m) (h1 : hasK K n = true) (h2 : hasK A n = true) : goodTo A K m = true := by
  induction m with
  | zero => omega
  | succ m ih =>
    rw [goodTo]
    by_cases e : n = m
    · subst e; rw [h1, h2]; simp
    · rw [ih (by omega)]; rfl
theorem forTo_mono (A K n m : Nat) (hn : n < m) (h1 : hasK K n = true) (h2 : hasK A n = false) : forTo A K m = true := by
  induction m with
  | zero => omega
  | succ m ih =>
    rw [forTo]
    by_cases e : n = m
    · subst e; rw [h1, h2]; simp
    · rw [ih (by omega)]; rfl

theorem between_good {A : Nat} {bs : List Bag} {k : Nat} {F G z : Int} (hA : A ≤ 255) (h : Between A bs k F G) (hk : k < bs.length) {K n : Nat} (hK : bs[k].kinds = K) (hK' : K ≤ 255) (hn : n < 8) (h1 : hasK K n = true) (h2 : hasK A n = true)
    (hz : bs[k].lo ≤ z ∧ z ≤ bs[k].hi) (h0 : 0 ≤ bs[k].lo) : Between A bs (k + 1) F (G + z) := by
  have e := goodTo_mono A K n 8 hn h1 h2
  rw [good_own A K hA hK', ← hK] at e
  obtain ⟨a1, a2, a3, a4⟩ := h
  unfold Between
  rw [sumTo_succ _ _ _ hk, sumTo_succ _ _ _ hk, sumTo_succ _ _ _ hk, sumTo_succ _ _ _ hk]
  simp only [forR, badR, restR, goodR, e, if_true]
  cases foreignB A bs[k].kinds <;> simp <;> omega
theorem between_foreign {A : Nat} {bs : List Bag} {k : Nat} {F G z : Int} (hA : A ≤ 255) (h : Between A bs k F G) (hk : k < bs.length) {K n : Nat} (hK : bs[k].kinds = K) (hK' : K ≤ 255) (hn : n < 8) (h1 : hasK K n = true) (h2 : hasK A n = false)
    (hz : bs[k].lo ≤ z ∧ z ≤ bs[k].hi) (h0 : 0 ≤ bs[k].lo) : Between A bs (k + 1) (F + z) G := by
  have e := forTo_mono A K n 8 hn h1 h2
  rw [for_foreign A K hA hK', ← hK] at e
  obtain ⟨a1, a2, a3, a4⟩ := h
  unfold Between
  rw [sumTo_succ _ _ _ hk, sumTo_succ _ _ _ hk, sumTo_succ _ _ _ hk, sumTo_succ _ _ _ hk]
  simp only [forR, badR, restR, goodR, e, if_true]
  cases ownB A bs[k].kinds <;> simp <;> omega

set_option maxRecDepth 100000 in
set_option maxHeartbeats 4000000 in
theorem heap_any (a f : Int) (v gv qv : Value) (bs : List Bag) (gs qs : List Int) (w : World) (h : Rd w 3 v (bagRows bs)) (hgr : Rd w 1 gv (nums gs)) (hgb : ∀ z ∈ gs, 0 ≤ z ∧ z ≤ 65535) (hqr : Rd w 1 qv (nums qs)) (hqb : ∀ z ∈ qs, 0 ≤ z ∧ z ≤ 65535)
    (ha : 1 ≤ a ∧ a ≤ 255) (hlen : bs.length ≤ 10) (hg : Good bs) :
    Calls Try.prog 46 #[.agg #[.int .i64 a, .int .i64 f], v, .agg #[gv, qv]] w fun e w' => ∃ F G, e = .returned (.tuple #[.int .i64 F, .int .i64 G]) ∧ Between a bs bs.length F G ∧ Below w.heap.size w w' := by
  obtain ⟨sa, c, rfl, -, hm, hr⟩ := h.bags
  have H := Lib.hid hr
  obtain ⟨p1, p2, p3, p4⟩ := part_bd hg a
  have P1 := Lib.hid p1
  have P4 := Lib.hid p4
  have HG := Lib.hid hg
  have GR := Lib.hid hgr
  have GB := Lib.hid hgb
  have QR := Lib.hid hqr
  have QB := Lib.hid hqb
  clear hr h p1 p2 p3 p4 hg hgr hgb hqr hqb
  go_enter Try.func46, Try.ntmps46
  go_wp2_with fail
  go_loopw [8, 9, 10] (fun x y i wr => ∃ (k : Nat) (F G : Int), k ≤ bs.length ∧ i = .int .i64 k ∧ x = .int .i64 F ∧ y = .int .i64 G ∧ Hid (Between a bs k F G) ∧ Below w.heap.size w wr ∧
      wr.cell? ⟨w.heap.size, 0, none⟩ = some (.int .i64 a) ∧ wr.cell? ⟨w.heap.size, 1, none⟩ = some (.int .i64 f) ∧ wr.cell? ⟨w.heap.size + 1, 0, none⟩ = some gv ∧ wr.cell? ⟨w.heap.size + 1, 1, none⟩ = some qv) (fun _ _ i _ => bs.length - (intOf i).toNat)
  case atStart => exact ⟨0, 0, 0, Nat.zero_le _, rfl, rfl, rfl, Lib.hid (by unfold Between; simp [sumTo_zero]), by (repeat (first | assumption | exact Below.refl _ _ | refine Below.alloc ?_ (by (try simp) <;> omega) _ | refine below_drewN ?_ _ | refine Below.drew ?_ | refine Below.setCell ?_ (by (try simp) <;> omega) _ | refine Below.trans ?_ (Below.mono (by assumption) (by (try simp) <;> omega)))), by simp [go_sem], by simp [go_sem], by simp [go_sem], by simp [go_sem]⟩
  case round =>
    obtain ⟨k, F, G, hk, rfl, rfl, rfl, BW, hB, c0, c1, x0, x1⟩ := hrel
    have hzB := hB.size
    have b1 := sumTo_bd _ bs 1000000 P1.out k hk
    have b4 := sumTo_bd _ bs 1000000 P4.out k hk
    by_cases hlt : k < bs.length
    · have hlt' : (k : Int) < bs.length := by omega
      obtain ⟨b, off, rfl, hbl, hc⟩ := H.out (by omega)
      obtain ⟨g1, g2, g3⟩ := hc k hlt
      clear hc
      rw [← hB.cell (p := ⟨b, _, none⟩) hbl] at g1 g2 g3
      have m1 := HG.out bs[k] (List.getElem_mem _)
      obtain ⟨A, rfl⟩ : ∃ A : Nat, a = A := ⟨a.toNat, by omega⟩
      obtain ⟨K, hK⟩ : ∃ K : Nat, bs[k].kinds = K := ⟨bs[k].kinds.toNat, by omega⟩
      have hA' : A ≤ 255 := by omega
      have hK' : 1 ≤ K ∧ K ≤ 255 := by omega
      have bg := fun (n : Nat) z h1 h2 h3 h4 => between_good (n := n) (z := z) hA' BW.out hlt hK hK'.2 h1 h2 h3 h4 m1.1
      have bf := fun (n : Nat) z h1 h2 h3 h4 => between_foreign (n := n) (z := z) hA' BW.out hlt hK hK'.2 h1 h2 h3 h4 m1.1
      have bw := BW.out
      unfold Between at bw
      rw [hK] at g3 m1
      have hlo : ∃ lo, bs[k].lo = lo := ⟨_, rfl⟩
      have hhi : ∃ hi, bs[k].hi = hi := ⟨_, rfl⟩
      obtain ⟨lo, hlo⟩ := hlo
      obtain ⟨hi, hhi⟩ := hhi
      rw [hlo] at g1 m1 bg bf
      rw [hhi] at g2 m1 bg bf
      have BG := Lib.hid bg
      have BF := Lib.hid bf
      have hF : 0 ≤ F ∧ F ≤ 10000000 := by
        have e1 := sumTo_bd _ bs 1000000 (part_bd HG.out A).2.2.1 k hk
        omega
      have hG : 0 ≤ G ∧ G ≤ 10000000 := by
        have e1 := sumTo_bd _ bs 1000000 (part_bd HG.out A).2.1 k hk
        omega
      clear bg bf bw BW b1 b4 hlo hhi hK
      have QW := Lib.hid (QR.out.below hB)
      have GW := Lib.hid (GR.out.below hB)
      go_wp2_with fail
      refine (turn_any qs qv k _ QW.out QB.out (by omega)).mono ?_
      rintro e w1 ⟨rfl, hb⟩
      replace GW := Lib.hid (GW.out.below hb)
      have lg := lt_of_cell g1
      have tq := turnR_bd QB.out k
      generalize turnR qs k = t at tq ⊢
      have hk : Below wr.heap.size wr w1 := by (repeat (first | assumption | exact Below.refl _ _ | refine Below.alloc ?_ (by (try simp) <;> omega) _ | refine below_drewN ?_ _ | refine Below.drew ?_ | refine Below.setCell ?_ (by (try simp) <;> omega) _ | refine Below.trans ?_ (Below.mono (by assumption) (by (try simp) <;> omega))))
      replace hB := hB.trans (hk.mono hB.size)
      have hzw1 := hB.size
      replace c0 := keep hk c0
      replace c1 := keep hk c1
      replace x0 := keep hk x0
      replace x1 := keep hk x1
      replace g1 := keep hk g1
      replace g2 := keep hk g2
      replace g3 := keep hk g3
      have lc0 := lt_of_cell c0
      have lx0 := lt_of_cell x0
      clear hk hb
      have hmod : Int.tmod t 8 = t % 8 := Int.tmod_eq_emod_of_nonneg tq.1
      obtain ⟨n0, hn0⟩ : ∃ n : Nat, t % 8 = n := ⟨(t % 8).toNat, by omega⟩
      have hn8 : n0 < 8 := by omega
      rw [hn0] at hmod
      clear hn0
      go_wp2_with fail
      go_loopw [11] (fun g wi => ∃ n : Nat, n < 8 ∧ g = .int .i64 n ∧ wi = w1) (fun g _ => aheadK K (intOf g).toNat)
      case atStart => exact ⟨n0, hn8, rfl, rfl⟩
      case round =>
        obtain ⟨n, hn, rfl, rfl⟩ := hrel
        clear hmod hn8 tq
        cases h1 : hasK K n
        · have hmod : Int.tmod ((n : Int) + 1) 8 = ((n + 1) % 8 : Nat) := by rw [Int.tmod_eq_emod_of_nonneg (by omega)]; omega
          have hless := aheadK_less hK'.1 hK'.2 hn h1
          go_wp2_with (go_at_call 52; refine (has_at K n _ h1 (by omega) (by omega) _).mono ?_; rintro e w2 ⟨rfl, hww⟩; obtain rfl := hww.symm)
          all_goals go_roundw
          case rel => exact ⟨(n + 1) % 8, by omega, by go_num, trivial⟩
          case measure =>
            have e8 : (((n : Int) + 1) % 8).toNat = (n + 1) % 8 := by omega
            simp only [intOf]
            rw [e8]
            simpa using hless
        · have GB2 := GB.out
          have HW1 := Lib.hid hB
          clear hB
          go_wp2_with (go_at_call 52; refine (has_at K n _ h1 (by omega) (by omega) _).mono ?_; rintro e w2 ⟨rfl, hww⟩; obtain rfl := hww.symm)
          go_region_held3 (fun w' => w'.cell? ⟨b, off + k * 3, none⟩ = some (.int .i64 lo) ∧ w'.cell? ⟨b, off + k * 3 + 1, none⟩ = some (.int .i64 hi) ∧ w'.cell? ⟨w.heap.size + 1, 0, none⟩ = some gv ∧ w'.cell? ⟨w.heap.size, 0, none⟩ = some (.int .i64 A) ∧ w'.cell? ⟨w.heap.size, 1, none⟩ = some (.int .i64 f) ∧ w'.cell? ⟨w.heap.size + 1, 1, none⟩ = some qv ∧ Below wr.heap.size wr w')
            (first | (go_split_ands; refine ⟨?_, ?_, ?_, ?_, ?_, ?_, ?_⟩ <;> with_reducible first | (refine keep hb ?_; assumption) | exact belTrans (by assumption) hb) | (go_split_ands; refine ⟨?_, ?_, ?_, ?_, ?_, ?_, ?_⟩ <;> with_reducible first | assumption | exact belAlloc (by assumption) _ | exact Below.drew (by assumption) | exact Below.drew (Below.refl _ _) | go_keep))
            (first
              | (go_at_call 53; go_split_ands; refine (turn_any gs gv k _ (GW.out.below (by with_reducible assumption)) GB2 (by omega)).mono ?_; rintro e w3 ⟨rfl, hb⟩)
              | (go_at_call 85; refine (among_any lo hi _ _ (by omega) (by omega) (by omega) (turnR_bd GB2 k).1).mono ?_; rintro e w3 ⟨rfl, hb⟩))
          rename_i hH2
          obtain ⟨-, -, y0, d0, d1, y1, hW⟩ := hH2
          have hB3 := belTrans HW1.out hW
          have e1 : 0 ≤ turnR gs k % (hi - lo + 1) := Int.emod_nonneg _ (by omega)
          have e2 : turnR gs k % (hi - lo + 1) < hi - lo + 1 := Int.emod_lt_of_pos _ (by omega)
          generalize turnR gs k = T at *
          obtain ⟨z, hz⟩ : ∃ z, lo + T % (hi - lo + 1) = z := ⟨_, rfl⟩
          rw [hz]
          have hz1 : lo ≤ z ∧ z ≤ hi := by omega
          have HZ := Lib.hid hz
          have HW2 := Lib.hid hB3
          clear hz e1 e2 hB3 hW HW1 c0 c1 x0 x1 g1 g2 g3
          cases h2 : hasK A n
          · have n1 := Lib.hid (BF.out n z hn h1 h2 hz1)
            go_wp2_with (go_at_call 52; refine (has_at A n _ h2 (by omega) (by omega) _).mono ?_; rintro e w2 ⟨rfl, hww⟩; obtain rfl := hww.symm)
            all_goals go_roundw
            case rel => exact ⟨k + 1, F + z, G, by omega, by go_num, by go_num, rfl, n1, HW2.out, d0, d1, y0, y1⟩
            case measure => simp [intOf]; omega
          · have n1 := Lib.hid (BG.out n z hn h1 h2 hz1)
            go_wp2_with (go_at_call 52; refine (has_at A n _ h2 (by omega) (by omega) _).mono ?_; rintro e w2 ⟨rfl, hww⟩; obtain rfl := hww.symm)
            all_goals go_roundw
            case rel => exact ⟨k + 1, F, G + z, by omega, by go_num, rfl, by go_num, n1, HW2.out, d0, d1, y0, y1⟩
            case measure => simp [intOf]; omega
    · obtain rfl : k = bs.length := by omega
      have HB := Lib.hid hB
      clear hB
      go_wp2_with fail
      go_ret2
      exact ⟨F, G, rfl, BW.out, HB.out⟩

end Go.Proofs.Ytnombgiacfeloaa
