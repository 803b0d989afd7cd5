/- The walks of the reference's 'earlier' and 'Best'. -/
import Derived.Test.YtnombgiacfeloaaM19
import Derived.BigRegion
import Derived.Test.YtnombgiacfeloaaW19
namespace Go.Proofs.Ytnombgiacfeloaa
set_option linter.unusedVariables false
set_option linter.unusedSimpArgs false
open Go.RowKit

set_option maxHeartbeats 400000 in
theorem earlier_any (v u : Value) (xs ys : List Int) (w : World) (h : Rd w 1 v (ints xs)) (h' : Rd w 1 u (ints ys)) (hl : xs.length = ys.length) :
    Calls Try.prog 84 #[v, u] w fun e w' => e = .returned (.bool (earlierL xs ys)) ∧ Below w.heap.size w w' := by
  obtain ⟨a, c, rfl, -, hm, hr⟩ := h.ints
  obtain ⟨a', c', rfl, -, hm', hr'⟩ := h'.ints
  have H := Lib.hid hr
  have H' := Lib.hid hr'
  clear hr hr' h h'
  have HL := Lib.hid hl
  go_enter Try.func84, Try.ntmps84
  go_wp2_with fail
  go_loopw [5] (fun i wr => ∃ k : Nat, k ≤ xs.length ∧ i = .int .i64 k ∧ Below w.heap.size w wr ∧ Hid (earlierL xs ys = earlierL (xs.drop k) (ys.drop k))) (fun i _ => xs.length - (intOf i).toNat)
  case atStart => exact ⟨0, Nat.zero_le _, rfl, Below.refl _ _, Lib.hid rfl⟩
  case round =>
    obtain ⟨k, hk, rfl, hB, A⟩ := hrel
    have hzB := hB.size
    by_cases hlt : k < xs.length
    · have hlt' : (k : Int) < xs.length := by omega
      have hlt2 : (k : Int) < ys.length := by omega
      obtain ⟨b, off, rfl, hb, hc⟩ := H.out (by omega)
      obtain ⟨b', off', rfl, hb', hc'⟩ := H'.out (by omega)
      have g1 := hc k hlt
      have hk2 : k < ys.length := by omega
      have g2 := hc' k hk2
      clear hc hc'
      rw [← hB.cell (p := ⟨b, _, none⟩) hb] at g1
      rw [← hB.cell (p := ⟨b', _, none⟩) hb'] at g2
      have e1 := A.out
      rw [List.drop_eq_getElem_cons hlt, List.drop_eq_getElem_cons hk2, earlierL] at e1
      generalize xs[k] = x at g1 e1
      generalize ys[k] = y at g2 e1
      clear A hl
      by_cases hq : x = y
      · subst hq
        rw [if_pos rfl] at e1
        have E1 := Lib.hid e1
        clear e1
        go_wp2_with fail
        go_region
        all_goals go_wp2_with fail
        all_goals go_roundw
        case rel => exact ⟨k + 1, by omega, by go_num, hB.drew, E1⟩
        case measure => simp [intOf]; omega
      · have t1 : (x != y) = true := by rw [bne_iff_ne]; exact hq
        rw [if_neg hq] at e1
        have E1 := Lib.hid e1
        clear e1 hq
        go_wp2_with fail
        go_region
        all_goals go_wp2_with fail
        go_region
        all_goals go_wp2_with fail
        go_ret
        exact ⟨by rw [E1.out]; rfl, by (repeat (first | assumption | exact Below.refl _ _ | refine Below.alloc ?_ (by (try simp) <;> omega) _ | refine below_drewN ?_ _ | refine Below.drew ?_ | refine Below.setCell ?_ (by (try simp) <;> omega) _ | refine Below.trans ?_ (Below.mono (by assumption) (by (try simp) <;> omega))))⟩
    · obtain rfl : k = xs.length := by omega
      have e1 : earlierL xs ys = false := by
        rw [A.out, List.drop_length]
        cases List.drop xs.length ys <;> rfl
      have E1 := Lib.hid e1
      clear e1 A
      go_wp2_with fail
      go_ret
      exact ⟨by rw [E1.out]; rfl, hB⟩

theorem good_sub {bs cs : List Bag} (h : Good bs) (hs : ∀ b ∈ cs, b ∈ bs) : Good cs := fun b hb => h b (hs b hb)

set_option maxRecDepth 100000 in
set_option maxHeartbeats 4000000 in
theorem refBest_ok (a f : Int) (v : Value) (bs : List Bag) (w : World) (h : Rd w 3 v (bagRows bs)) (he : beginErr a f bs = 0) :
    Calls Try.prog 33 #[.agg #[.int .i64 a, .int .i64 f], v] w (RetInts (bestIdx a f bs) 0 w) := by
  obtain ⟨ha, ⟨hf0, hf⟩, hlen, hg, -⟩ := beginErr_ok he
  have hB := Below.refl w.heap.size w
  have HR := Lib.hid (h.below (below_alloc1 w (.cells #[.int .i64 a, .int .i64 f] 46)))
  clear h
  obtain ⟨N, hN⟩ : ∃ N, 2 ^ bs.length = N := ⟨_, rfl⟩
  have hN2 : N ≤ 1024 := by
    have := Nat.pow_le_pow_right (by decide : 0 < 2) hlen
    rw [hN] at this
    exact this
  have HN := Lib.hid hN
  have HE := Lib.hid he
  have HG := Lib.hid hg
  clear hN he hg
  obtain ⟨va, vc, rfl, -, hvm, -⟩ := id HR.out.bags
  go_enter Try.func33, Try.ntmps33
  go_wp2_with fail
  refine (refBags_any a f _ bs _ HR.out).mono ?_
  rw [HE.out]
  rintro e w1 ⟨rfl, hb⟩
  have c0 : w1.cell? ⟨w.heap.size, 0, none⟩ = some (.int .i64 a) := keep hb (by simp [go_sem])
  have c1 : w1.cell? ⟨w.heap.size, 1, none⟩ = some (.int .i64 f) := keep hb (by simp [go_sem])
  have HR1 := Lib.hid (HR.out.below hb)
  clear HR
  have hk : Below w.heap.size w w1 := by (repeat (first | assumption | exact Below.refl _ _ | refine Below.alloc ?_ (by (try simp) <;> omega) _ | refine below_drewN ?_ _ | refine Below.drew ?_ | refine Below.setCell ?_ (by (try simp) <;> omega) _ | refine Below.trans ?_ (Below.mono (by assumption) (by (try simp) <;> omega))))
  replace hB := hB.trans (hk.mono hB.size)
  have hzw1 := hB.size
  clear hk hb
  go_wp2_with fail
  go_loopw [7, 8, 9] (fun x y i wr => ∃ (m : Nat) (L : List Int) (W : Int), m ≤ N ∧ i = .int .i64 m ∧ y = .int .i64 W ∧ Rd wr 1 x (ints L) ∧ Hid (OptTo a f bs m L W) ∧ Below w1.heap.size w1 wr) (fun _ _ i _ => N - (intOf i).toNat)
  case atStart => exact ⟨0, [], 0, Nat.zero_le _, rfl, rfl, ⟨none, 0, rfl, by simp [ints], by simp [ints], by simp [ints], fun h => by simp [ints] at h⟩, Lib.hid (OptTo.start a f bs), Below.refl _ _⟩
  case round =>
    obtain ⟨m, L, W, hm, rfl, rfl, hL, HO, hB2⟩ := hrel
    have hz2 := hB2.size
    have HL := Lib.hid hL
    obtain ⟨la, lc, rfl, -, hlm, -⟩ := hL.ints
    clear hL
    have d0 := keep hB2 c0
    have d1 := keep hB2 c1
    have HR2 := Lib.hid (HR1.out.below hB2)
    have HB := Lib.hid hB
    have HB2 := Lib.hid hB2
    clear hB hB2
    by_cases hlt : m < N
    · have hlt' : (m : Int) < N := by omega
      have cl := chosenK_len bs m bs.length
      have hgc := good_sub HG.out (chosenK_sub bs m bs.length)
      have il := idx_len bs m bs.length (Nat.le_refl _)
      have gbd := sumTo_bd Bag.lo (chosenK bs m bs.length) 1000000 hgc.lo _ (Nat.le_refl _)
      have sk := fun h => HO.out.skip (m := m) h
      have tk := fun h h' => HO.out.take (m := m) (by rw [HN.out]; exact hlt) h h'
      have p1 := fun w' l (h : Rd w' 3 l (bagRows (chosenK bs m bs.length))) => least_all l (chosenK bs m bs.length) w' h (by omega) hgc
      have p2 := fun w' l (h : Rd w' 3 l (bagRows (chosenK bs m bs.length))) => refjudge_any a f l (chosenK bs m bs.length) w' h ha hf0 hf (by omega) hgc
      have p0 := fun w' (h : Rd w' 3 (.slice va bs.length vc) (bagRows bs)) => chosen_any (.slice va bs.length vc) bs m w' h hlen (by omega)
      have gdef : sumTo Bag.lo (chosenK bs m bs.length) (chosenK bs m bs.length).length = gK bs m := rfl
      rw [gdef] at p1 gbd
      have ps := sets_any bs.length (by omega)
      rw [HN.out] at ps
      have PS := Lib.hid ps
      generalize chosenK bs m bs.length = cs at *
      generalize idxK m bs.length = id' at *
      generalize gK bs m = G at *
      generalize judgeR a f cs = J at *
      have P0 := Lib.hid p0
      have P1 := Lib.hid p1
      have P2 := Lib.hid p2
      have SK := Lib.hid sk
      have TK := Lib.hid tk
      clear p0 p1 p2 sk tk hgc gdef ps il
      go_wp2_with (go_at_call 50; refine (PS.out _).mono ?_; rintro e w2 ⟨rfl, hww⟩; obtain rfl := hww.symm)
      refine (P0.out _ HR2.out).mono ?_
      rintro e w2 ⟨l, z, rfl, hl, hz, hb⟩
      have HLL := Lib.hid hl
      have HZ := Lib.hid hz
      obtain ⟨za, zc, rfl, -, hzm, -⟩ := hz.ints
      clear hl hz P0 HR2
      replace HL := Lib.hid (HL.out.below hb)
      replace HB2 := Lib.hid (belTrans HB2.out hb)
      replace d0 := keep hb d0
      replace d1 := keep hb d1
      clear hb
      go_wp2_with fail
      refine (P1.out _ l HLL.out).mono ?_
      rintro e w3 ⟨rfl, hb⟩
      replace HLL := Lib.hid (HLL.out.below hb)
      replace HZ := Lib.hid (HZ.out.below hb)
      replace HL := Lib.hid (HL.out.below hb)
      replace HB2 := Lib.hid (belTrans HB2.out hb)
      replace d0 := keep hb d0
      replace d1 := keep hb d1
      clear hb P1
      by_cases hJ : J = 1
      · subst hJ
        by_cases t1 : G < W
        · have nx := Lib.hid (SK.out fun _ => by unfold better; omega)
          clear SK TK
          go_wp2_with (go_at_call 78; refine (P2.out _ l HLL.out).mono ?_; rintro e w4 ⟨rfl, hb⟩)
          all_goals go_roundw
          case rel => exact ⟨m + 1, L, W, by omega, by go_num, rfl, HL.out.below hb, nx, belTrans HB2.out hb⟩
          case measure => simp [intOf]; omega
        · by_cases t2 : W < G
          · have nx := Lib.hid (TK.out rfl (.inl t2))
            clear SK TK
            go_wp2_with (go_at_call 78; refine (P2.out _ l HLL.out).mono ?_; rintro e w4 ⟨rfl, hb⟩)
            all_goals go_roundw
            case rel => exact ⟨m + 1, id', G, by omega, by go_num, rfl, HZ.out.below hb, nx, belTrans HB2.out hb⟩
            case measure => simp [intOf]; omega
          · obtain rfl : G = W := by omega
            by_cases t3 : id'.length < L.length
            · have t3' : (id'.length : Int) < L.length := by omega
              have nx := Lib.hid (TK.out rfl (.inr ⟨rfl, .inl t3⟩))
              clear SK TK
              go_wp2_with (go_at_call 78; refine (P2.out _ l HLL.out).mono ?_; rintro e w4 ⟨rfl, hb⟩)
              all_goals go_roundw
              case rel => exact ⟨m + 1, id', G, by omega, by go_num, rfl, HZ.out.below hb, nx, belTrans HB2.out hb⟩
              case measure => simp [intOf]; omega
            · have t3' : ¬ (id'.length : Int) < L.length := by omega
              by_cases t4 : id'.length = L.length
              · obtain ⟨b, hbq⟩ : ∃ b, earlierL id' L = b := ⟨_, rfl⟩
                have pe := fun w' h h' => earlier_any (.slice za id'.length zc) (.slice la L.length lc) id' L w' h h' t4
                have t4' : ((id'.length : Int) == L.length) = true := by rw [beq_iff_eq]; omega
                rw [hbq] at pe
                have PE := Lib.hid pe
                cases b
                · have nx := Lib.hid (SK.out fun _ => by unfold better; rw [hbq]; simp; omega)
                  clear SK TK pe hbq t4
                  go_wp2_with (go_at_call 78; refine (P2.out _ l HLL.out).mono ?_; rintro e w4 ⟨rfl, hb⟩)
                  go_wp2_with (go_at_call 84; refine (PE.out _ (HZ.out.below hb) (HL.out.below hb)).mono ?_; rintro e w5 ⟨rfl, hb5⟩)
                  all_goals go_roundw
                  case rel => exact ⟨m + 1, L, G, by omega, by go_num, rfl, (HL.out.below hb).below hb5, nx, belTrans (belTrans HB2.out hb) hb5⟩
                  case measure => simp [intOf]; omega
                · have nx := Lib.hid (TK.out rfl (.inr ⟨rfl, .inr ⟨t4, hbq⟩⟩))
                  clear SK TK pe hbq t4
                  go_wp2_with (go_at_call 78; refine (P2.out _ l HLL.out).mono ?_; rintro e w4 ⟨rfl, hb⟩)
                  go_wp2_with (go_at_call 84; refine (PE.out _ (HZ.out.below hb) (HL.out.below hb)).mono ?_; rintro e w5 ⟨rfl, hb5⟩)
                  all_goals go_roundw
                  case rel => exact ⟨m + 1, id', G, by omega, by go_num, rfl, (HZ.out.below hb).below hb5, nx, belTrans (belTrans HB2.out hb) hb5⟩
                  case measure => simp [intOf]; omega
              · have nx := Lib.hid (SK.out fun _ => by unfold better; omega)
                have t4' : ((id'.length : Int) == L.length) = false := by rw [beq_eq_false_iff_ne]; omega
                clear SK TK
                go_wp2_with (go_at_call 78; refine (P2.out _ l HLL.out).mono ?_; rintro e w4 ⟨rfl, hb⟩)
                all_goals go_roundw
                case rel => exact ⟨m + 1, L, G, by omega, by go_num, rfl, HL.out.below hb, nx, belTrans HB2.out hb⟩
                case measure => simp [intOf]; omega
      · have t1 : (J != 1) = true := by rw [bne_iff_ne]; exact hJ
        have nx := Lib.hid (SK.out fun h => absurd h hJ)
        clear SK TK hJ
        go_wp2_with (go_at_call 78; refine (P2.out _ l HLL.out).mono ?_; rintro e w4 ⟨rfl, hb⟩)
        all_goals go_roundw
        case rel => exact ⟨m + 1, L, W, by omega, by go_num, rfl, HL.out.below hb, nx, belTrans HB2.out hb⟩
        case measure => simp [intOf]; omega
    · obtain rfl : m = N := by omega
      have ho := HO.out
      have hn := HN.out
      rw [← hn] at ho
      have hbest := opt_best hlen ho
      have ps := sets_any bs.length (by omega)
      rw [hn] at ps
      have PS := Lib.hid ps
      have HBE := Lib.hid hbest
      clear ho hn hbest ps
      go_wp2_with (go_at_call 50; refine (PS.out _).mono ?_; rintro e w2 ⟨rfl, hww⟩; obtain rfl := hww.symm)
      go_ret2
      exact ⟨_, rfl, by rw [← HBE.out]; exact HL.out, belTrans HB.out HB2.out⟩

end Go.Proofs.Ytnombgiacfeloaa
