/- The statement 'StubBest', walked: the bags of Best surely make the sort, and no other choice that does is better. -/
import Derived.Test.YtnombgiacfeloaaL1
import Derived.Test.YtnombgiacfeloaaW23
import Derived.Deep.RegionHeld3
import Derived.BigQuiet
namespace Go.Proofs.Ytnombgiacfeloaa
set_option linter.unusedVariables false
set_option linter.unusedSimpArgs false
open Go.RowKit

theorem begin_of_good {a f : Int} {cs : List Bag} (ha : 1 ≤ a ∧ a ≤ 255) (hf : 0 ≤ f ∧ f ≤ 1000) (hlen : cs.length ≤ 10) (hg : Good cs) : beginErr a f cs = 0 := by
  unfold beginErr
  have e1 : (anyOut 1 255 [a] || anyOut 0 1000 [f]) = false := by
    simp only [anyOut1, Bool.or_eq_false_iff, Bool.not_eq_false', Bool.and_eq_true, decide_eq_true_eq]
    omega
  rw [e1, firstErr_miss]
  · simp; omega
  · intro j hj
    have := hg _ (List.getElem_mem hj)
    unfold bagErr
    generalize cs[j] = b at this
    have e2 : (anyOut 0 1000000 [b.lo, b.hi] || anyOut 1 255 [b.kinds]) = false := by
      rw [anyOut2, anyOut1, decide_eq_true (by omega : 0 ≤ b.lo), decide_eq_true (by omega : b.lo ≤ 1000000), decide_eq_true (by omega : 0 ≤ b.hi), decide_eq_true (by omega : b.hi ≤ 1000000), decide_eq_true (by omega : 1 ≤ b.kinds), decide_eq_true (by omega : b.kinds ≤ 255)]
      rfl
    rw [e2]
    simp
    omega

theorem Inc.get {n c : Int} {l : List Int} (h : Inc n c l) (i : Nat) (hi : i < l.length) : c ≤ l[i] ∧ l[i] < n := by
  induction h generalizing i with
  | nil c => simp at hi
  | cons c x l h1 h2 _ ih =>
    cases i with
    | zero => simp; omega
    | succ i =>
      have := ih i (by simpa using hi)
      simp
      omega
theorem Inc.step {n c : Int} {l : List Int} (h : Inc n c l) (i : Nat) (hi : i + 1 < l.length) : l[i] < l[i + 1] := by
  induction h generalizing i with
  | nil c => simp at hi
  | cons c x l h1 h2 h ih =>
    cases i with
    | zero =>
      have := h.get 0 (by simpa using hi)
      simp
      omega
    | succ i => simpa using ih i (by simpa using hi)

theorem owns_below {w w' : World} {base : Nat} {e : TypeId} {size n : Nat} {v : Value} {xs : List Value} (h : w.ownsRow base e size v n xs) (hb : Below w.heap.size w w') : w'.ownsRow base e size v n xs := by
  refine ⟨h.1, ?_⟩
  rcases h.2 with hn | ⟨g, cap, cur, rfl, hbg, hgg, rest⟩
  · exact .inl hn
  · refine .inr ⟨g, cap, cur, rfl, hbg, ?_, rest⟩
    rw [hb.block g (Array.getElem?_eq_some_iff.1 hgg).1]
    exact hgg

def bagAt (bs : List Bag) (z : Int) : Bag := bs.getD z.toNat ⟨0, 0, 0⟩
theorem chosen_map (bs : List Bag) (s : Nat) : ∀ k, k ≤ bs.length → chosenK bs s k = (idxK s k).map (bagAt bs)
  | 0, _ => rfl
  | k + 1, hk => by
    rw [chosenK_succ bs s k (by omega), idxK, chosen_map bs s k (by omega)]
    split
    · rw [List.map_append]
      simp [bagAt, List.getD_eq_getElem?_getD, List.getElem?_eq_getElem (show k < bs.length by omega)]
    · rfl

set_option maxRecDepth 100000 in
set_option maxHeartbeats 4000000 in
theorem best_law (a f : Int) (v : Value) (bs : List Bag) (n : Int) (w : World) (h : Rd w 3 v (bagRows bs)) (hn : 0 ≤ n ∧ n ≤ 65535) :
    Calls Try.prog 14 #[.agg #[.int .i64 a, .int .i64 f], v, .int .u16 n] w fun e w' => e = .returned (.bool true) ∧ Below w.heap.size w w' := by
  have hB := Below.refl w.heap.size w
  have HR := Lib.hid (h.below (below_alloc1 w (.cells #[.int .i64 a, .int .i64 f] 46)))
  clear h
  by_cases he : beginErr a f bs = 0
  · obtain ⟨ha, ⟨hf0, hf⟩, hlen, hg, -⟩ := beginErr_ok he
    obtain ⟨va, vc, rfl, -, hvm, -⟩ := id HR.out.bags
    obtain ⟨s, hs, eL, hj, ht⟩ := bestIdx_opt a f bs hlen
    obtain ⟨N, hN⟩ : ∃ N, 2 ^ bs.length = N := ⟨_, rfl⟩
    have hN2 : N ≤ 1024 := by
      have := Nat.pow_le_pow_right (by decide : 0 < 2) hlen
      rw [hN] at this
      exact this
    have hN0 : 0 < N := by rw [← hN]; exact Nat.two_pow_pos _
    rw [hN] at hs ht
    have inc := idxK_inc s bs.length
    have cmap := chosen_map bs s bs.length (Nat.le_refl _)
    have clen := chosenK_len bs s bs.length
    have cgood := good_sub hg (chosenK_sub bs s bs.length)
    have cbeg := begin_of_good ha ⟨hf0, hf⟩ (by omega : (chosenK bs s bs.length).length ≤ 10) cgood
    have gdef : sumTo Bag.lo (chosenK bs s bs.length) (chosenK bs s bs.length).length = gK bs s := rfl
    have j0 := judge_ok a f (.slice va bs.length vc) bs
    have j1 := fun w' (h : Rd w' 3 (.slice va bs.length vc) (bagRows bs)) => best_ok a f (.slice va bs.length vc) bs w' h he
    rw [eL] at j1
    have j2 := fun w' (h : Rd w' 3 (.slice va bs.length vc) (bagRows bs)) => refBags_any a f (.slice va bs.length vc) bs w' h
    rw [he] at j2
    have j3 := fun w' l (h : Rd w' 3 l (bagRows (chosenK bs s bs.length))) => judge_ok a f l (chosenK bs s bs.length) w' h cbeg
    rw [← judgeR_eq, hj] at j3
    have j4 := fun w' l (h : Rd w' 3 l (bagRows (chosenK bs s bs.length))) => least_all l (chosenK bs s bs.length) w' h (by omega) cgood
    rw [gdef] at j4
    have ps := sets_any bs.length (by omega)
    rw [hN] at ps
    have pc := fun (t : Nat) w' (h : Rd w' 3 (.slice va bs.length vc) (bagRows bs)) (ht : t ≤ 1000000) => chosen_any (.slice va bs.length vc) bs t w' h hlen ht
    -- the other choice
    obtain ⟨t, htn, htN⟩ : ∃ t : Nat, n % N = t ∧ t < N := ⟨(n % N).toNat, by have := Int.emod_nonneg n (by omega : (N : Int) ≠ 0); omega, by have := Int.emod_lt_of_pos n (by omega : (0 : Int) < N); have := Int.emod_nonneg n (by omega : (N : Int) ≠ 0); omega⟩
    have tm : Int.tmod n N = t := by rw [Int.tmod_eq_emod_of_nonneg hn.1, htn]
    have olen := chosenK_len bs t bs.length
    have ogood := good_sub hg (chosenK_sub bs t bs.length)
    have obeg := begin_of_good ha ⟨hf0, hf⟩ (by omega : (chosenK bs t bs.length).length ≤ 10) ogood
    have odef : sumTo Bag.lo (chosenK bs t bs.length) (chosenK bs t bs.length).length = gK bs t := rfl
    have j5 := fun w' l (h : Rd w' 3 l (bagRows (chosenK bs t bs.length))) => judge_ok a f l (chosenK bs t bs.length) w' h obeg
    rw [← judgeR_eq] at j5
    have j6 := fun w' l (h : Rd w' 3 l (bagRows (chosenK bs t bs.length))) => least_all l (chosenK bs t bs.length) w' h (by omega) ogood
    rw [odef] at j6
    have hbt := ht t htN
    have pt := pc t
    have gb1 := sumTo_bd Bag.lo (chosenK bs s bs.length) 1000000 cgood.lo _ (Nat.le_refl _)
    have gb2 := sumTo_bd Bag.lo (chosenK bs t bs.length) 1000000 ogood.lo _ (Nat.le_refl _)
    rw [gdef] at gb1
    rw [odef] at gb2
    have cl1 : (chosenK bs s bs.length).length ≤ 10 := by omega
    have hL10 : (idxK s bs.length).length ≤ 10 := by have := idx_len bs s bs.length (Nat.le_refl _); omega
    have hM10 : (idxK t bs.length).length ≤ 10 := by have := idx_len bs t bs.length (Nat.le_refl _); omega
    clear pc ht gdef odef cbeg obeg cgood ogood olen
    have lid := idx_len bs s bs.length (Nat.le_refl _)
    have lit := idx_len bs t bs.length (Nat.le_refl _)
    generalize chosenK bs s bs.length = cs at *
    generalize idxK s bs.length = L at *
    generalize chosenK bs t bs.length = os at *
    generalize idxK t bs.length = M at *
    generalize gK bs s = G at *
    generalize gK bs t = G' at *
    generalize judgeR a f os = V at *
    have J1 := Lib.hid j1
    have J2 := Lib.hid j2
    have J3 := Lib.hid j3
    have J4 := Lib.hid j4
    have J5 := Lib.hid j5
    have J6 := Lib.hid j6
    have PS := Lib.hid ps
    have PT := Lib.hid pt
    have INC := Lib.hid inc
    have CM := Lib.hid cmap
    have LID := Lib.hid lid
    have BT := Lib.hid hbt
    clear j0 j1 j2 j3 j4 j5 j6 ps pt inc cmap lid lit hbt he hg hj eL hN htn clen
    go_enter Try.func14, Try.ntmps14
    go_wp2_with fail
    refine (J1.out _ HR.out).mono ?_
    rintro e w1 ⟨l, rfl, hl, hb⟩
    have c0 : w1.cell? ⟨w.heap.size, 0, none⟩ = some (.int .i64 a) := keep hb (by simp [go_sem])
    have c1 : w1.cell? ⟨w.heap.size, 1, none⟩ = some (.int .i64 f) := keep hb (by simp [go_sem])
    have HL := Lib.hid hl
    obtain ⟨la, lc, rfl, -, hlm, -⟩ := hl.ints
    have HR1 := Lib.hid (HR.out.below hb)
    clear hl HR J1
    have hk : Below w.heap.size w w1 := by (repeat (first | assumption | exact Below.refl _ _ | refine Below.alloc ?_ (by (try simp) <;> omega) _ | refine below_drewN ?_ _ | refine Below.drew ?_ | refine Below.setCell ?_ (by (try simp) <;> omega) _ | refine Below.trans ?_ (Below.mono (by assumption) (by (try simp) <;> omega))))
    replace hB := hB.trans (hk.mono hB.size)
    have hzw1 := hB.size
    clear hk hb
    go_wp2_with fail
    refine (J2.out _ HR1.out).mono ?_
    rintro e w2 ⟨rfl, hb⟩
    have HR2 := Lib.hid (HR1.out.below hb)
    replace HL := Lib.hid (HL.out.below hb)
    clear HR1 J2
    have hk : Below w1.heap.size w1 w2 := by (repeat (first | assumption | exact Below.refl _ _ | refine Below.alloc ?_ (by (try simp) <;> omega) _ | refine below_drewN ?_ _ | refine Below.drew ?_ | refine Below.setCell ?_ (by (try simp) <;> omega) _ | refine Below.trans ?_ (Below.mono (by assumption) (by (try simp) <;> omega))))
    replace hB := hB.trans (hk.mono hB.size)
    have hzw2 := hB.size
    replace c0 := keep hk c0
    replace c1 := keep hk c1
    have lc0 := lt_of_cell c0
    clear hk hb
    obtain ⟨i1, hi1, hz01, hz11, hz21⟩ := info_parts info57
    have HB2 := Lib.hid hB
    clear hB
    obtain ⟨la', lc', e1, -, -, hlr⟩ := HL.out.ints
    simp only [Value.slice.injEq] at e1
    obtain ⟨rfl, -, rfl⟩ := e1
    obtain ⟨va', vc', e1, -, -, hvr⟩ := HR2.out.bags
    simp only [Value.slice.injEq] at e1
    obtain ⟨rfl, -, rfl⟩ := e1
    have HLR := Lib.hid hlr
    have HVR := Lib.hid hvr
    clear hlr hvr
    go_wp2_with fail
    go_loopw [9, 10] (fun x i wr => ∃ k : Nat, k ≤ L.length ∧ i = .int .i64 k ∧ Below w2.heap.size w2 wr ∧ wr.ownsRow w2.heap.size 57 3 x (bagRows ((L.take k).map (bagAt bs))).length (bagRows ((L.take k).map (bagAt bs))).flatten) (fun _ i _ => L.length - (intOf i).toNat)
    case atStart => exact ⟨0, Nat.zero_le _, rfl, Below.refl _ _, World.ownsRow_nil _ _ _ _⟩
    case round =>
      obtain ⟨k, hk, rfl, hB, ho1⟩ := hrel
      have hzB := hB.size
      by_cases hlt : k < L.length
      · have hlt' : (k : Int) < L.length := by omega
        obtain ⟨b, off, rfl, hbl, hc⟩ := HLR.out (by omega)
        have g0 := hc k hlt
        rw [← hB.cell (p := ⟨b, _, none⟩) hbl] at g0
        have hz := INC.out.get k hlt
        have hst := fun j (e : k = j + 1) => INC.out.step j (by omega)
        have gp := fun j (e : k = j + 1) => hc j (by omega)
        clear hc
        obtain ⟨q, hq⟩ : ∃ q : Nat, L[k] = q := ⟨L[k].toNat, by omega⟩
        rw [hq] at g0 hz
        have hqn : q < bs.length := by omega
        obtain ⟨b2, off2, rfl, hbl2, hc2⟩ := HVR.out (by omega)
        obtain ⟨x1, x2, x3⟩ := hc2 q hqn
        clear hc2
        rw [← hB.cell (p := ⟨b2, _, none⟩) hbl2] at x1 x2 x3
        have etk : (L.take (k + 1)).map (bagAt bs) = (L.take k).map (bagAt bs) ++ [bs[q]] := by
          rw [List.take_succ_eq_append_getElem hlt, List.map_append, hq]
          simp [bagAt, List.getD_eq_getElem?_getD, List.getElem?_eq_getElem hqn]
        have hl3 : (bagRows ((L.take k).map (bagAt bs))).length ≤ 10 := by rw [bagRows, List.length_map, List.length_map, List.length_take]; omega
        generalize bs[q] = y at x1 x2 x3 etk
        obtain ⟨lo, hi', kd⟩ := y
        dsimp only at x1 x2 x3
        have ETK := Lib.hid etk
        have u1 : decide ((q : Int) < 0) = false := decide_eq_false (by omega)
        have u2 : decide ((q : Int) ≥ bs.length) = false := decide_eq_false (by omega)
        have hq3 : (q : Int) < bs.length := by omega
        rcases Nat.eq_zero_or_pos k with hk0 | hk0
        · subst hk0
          rw [Nat.add_zero] at g0
          clear hst gp hq etk
          go_wp2_with fail
          have n2 : decide (bs.length ≤ q) = false := decide_eq_false (by omega)
          go_quiet (fail)
          have hd := Below.refl wr.heap.size wr
          replace hd := below_drewN hd nq
          have ho2 := owns_below ho1 hd
          have hBd := belTrans hB hd
          replace x1 := keep hd x1
          replace x2 := keep hd x2
          replace x3 := keep hd x3
          replace g0 := keep hd g0
          generalize wr.drewN nq = wq at *
          have hzq := hBd.size
          clear hd ho1 hB
          go_wp2_with (at_builtin; refine wpList_append_own _ rfl _ _ 47 rfl w2.heap.size 57 i1 (.agg #[.int .i64 0, .int .i64 0, .int .i64 0]) 3 24 Try.underlying47 hi1 hz01 hz11 hz21 rfl (by decide) _ _ _ rfl (ho2.alloc _) ⟨wq.heap.size, 0, none⟩ 1 1 [.int .i64 lo, .int .i64 hi', .int .i64 kd] rfl rfl ?c1 ?c2 ?c3 ?c4 ?c5 ?_)
          case c1 => exact cells_new _ _ _ _ rfl
          case c2 => simp [Value.oneCell']
          case c3 => unfold maxLen; omega
          case c4 => omega
          case c5 => simp; omega
          intro x' w3 ho3 hg3 _
          have hBg := grown_below (B := w2.heap.size) hg3 (by simp; omega) (fun b e => (ho2.lt _ e).1)
          have hB3 := (hBd.alloc hzq (.cells #[.int .i64 lo, .int .i64 hi', .int .i64 kd] 57)).trans hBg
          clear hg3 hBg hBd ho2
          go_wp2_with fail
          refine ⟨⟨0 + 1, by omega, by go_num, hB3, ?_⟩, by simp [intOf]; omega⟩
          rw [ETK.out]
          have e1 : ∀ l : List Bag, (bagRows (l ++ [⟨lo, hi', kd⟩])).length = (bagRows l).length + 1 := fun l => by simp [bagRows]
          have e2 : ∀ l : List Bag, (bagRows (l ++ [⟨lo, hi', kd⟩])).flatten = (bagRows l).flatten ++ [.int .i64 lo, .int .i64 hi', .int .i64 kd] := fun l => by simp [bagRows, Bag.row]
          rw [e1, e2]; exact ho3
        · obtain ⟨j, hkj⟩ : ∃ j, k = j + 1 := ⟨k - 1, by omega⟩
          have p1 := hst j hkj
          have p2 := gp j hkj
          rw [← hB.cell (p := ⟨b, _, none⟩) hbl] at p2
          have hkj2 : (k : Int) - 1 = j := by omega
          have p1' : L[j]'(by omega) < q := by
            rw [← hq]
            simp only [hkj]
            exact p1
          clear p1
          generalize L[j]'(by omega) = z at p1' p2
          have hlt3 : (j : Int) < L.length := by omega
          have u3 : decide ((q : Int) ≤ z) = false := decide_eq_false (by omega)
          have u4 : decide ((0 : Int) < (k : Int)) = true := decide_eq_true (by omega)
          have HKJ := Lib.hid hkj
          clear hst gp hq etk hkj
          go_wp2_with fail
          have n2 : decide (bs.length ≤ q) = false := decide_eq_false (by omega)
          have n3 : decide ((q : Int) ≤ z) = false := decide_eq_false (by omega)
          have n4 : decide (0 < k) = true := decide_eq_true (by omega)
          have n5 : (k : Int) - 1 = j := by have := HKJ.out; omega
          have n7 : wrap64 ((k : Int) - 1) = j := by rw [n5]; simp only [wrap64]; omega
          have n6 : (j : Int) < L.length := by omega
          go_quiet (fail)
          have hd := Below.refl wr.heap.size wr
          replace hd := below_drewN hd nq
          have ho2 := owns_below ho1 hd
          have hBd := belTrans hB hd
          replace x1 := keep hd x1
          replace x2 := keep hd x2
          replace x3 := keep hd x3
          replace g0 := keep hd g0
          generalize wr.drewN nq = wq at *
          have hzq := hBd.size
          clear hd ho1 hB
          go_wp2_with (at_builtin; refine wpList_append_own _ rfl _ _ 47 rfl w2.heap.size 57 i1 (.agg #[.int .i64 0, .int .i64 0, .int .i64 0]) 3 24 Try.underlying47 hi1 hz01 hz11 hz21 rfl (by decide) _ _ _ rfl (ho2.alloc _) ⟨wq.heap.size, 0, none⟩ 1 1 [.int .i64 lo, .int .i64 hi', .int .i64 kd] rfl rfl ?c1 ?c2 ?c3 ?c4 ?c5 ?_)
          case c1 => exact cells_new _ _ _ _ rfl
          case c2 => simp [Value.oneCell']
          case c3 => unfold maxLen; omega
          case c4 => omega
          case c5 => simp; omega
          intro x' w3 ho3 hg3 _
          have hBg := grown_below (B := w2.heap.size) hg3 (by simp; omega) (fun b e => (ho2.lt _ e).1)
          have hB3 := (hBd.alloc hzq (.cells #[.int .i64 lo, .int .i64 hi', .int .i64 kd] 57)).trans hBg
          clear hg3 hBg hBd ho2
          go_wp2_with fail
          refine ⟨⟨k + 1, by omega, by go_num, hB3, ?_⟩, by simp [intOf]; omega⟩
          rw [ETK.out]
          have e1 : ∀ l : List Bag, (bagRows (l ++ [⟨lo, hi', kd⟩])).length = (bagRows l).length + 1 := fun l => by simp [bagRows]
          have e2 : ∀ l : List Bag, (bagRows (l ++ [⟨lo, hi', kd⟩])).flatten = (bagRows l).flatten ++ [.int .i64 lo, .int .i64 hi', .int .i64 kd] := fun l => by simp [bagRows, Bag.row]
          rw [e1, e2, List.map_take]; exact ho3
      · obtain rfl : k = L.length := by omega
        have hrd := Rd.of_owns ho1 (fun r hr => by obtain ⟨z, -, rfl⟩ := List.mem_map.1 hr; rfl)
        rw [List.take_length, ← CM.out] at hrd
        have HCS := Lib.hid hrd
        have HR3 := Lib.hid (HR2.out.below hB)
        have d0 := keep hB c0
        have d1 := keep hB c1
        have HB3 := Lib.hid (belTrans HB2.out hB)
        clear hrd ho1 hB c0 c1 HR2 HB2 HL
        have htn : n % (N : Int) = t := by rw [← tm, Int.tmod_eq_emod_of_nonneg hn.1]
        go_wp2_with (go_at_call 50; refine (PS.out _).mono ?_; rintro e w5 ⟨rfl, hww⟩; obtain rfl := hww.symm)
        refine (PT.out _ HR3.out (by omega)).mono ?_
        rintro e w4 ⟨ol, oz, rfl, hol, hoz, hb⟩
        have HOL := Lib.hid hol
        obtain ⟨oa, oc, rfl, -, -, -⟩ := hoz.ints
        replace HCS := Lib.hid (HCS.out.below hb)
        replace HB3 := Lib.hid (belTrans HB3.out hb)
        replace d0 := keep hb d0
        replace d1 := keep hb d1
        clear hol hoz hb HR3
        go_wp2_with fail
        refine (J3.out _ _ HCS.out).mono ?_
        rintro e w5 ⟨rfl, hb⟩
        replace HCS := Lib.hid (HCS.out.below hb)
        replace HOL := Lib.hid (HOL.out.below hb)
        replace HB3 := Lib.hid (belTrans HB3.out hb)
        replace d0 := keep hb d0
        replace d1 := keep hb d1
        clear hb
        go_wp2_with fail
        refine (J5.out _ _ HOL.out).mono ?_
        rintro e w6 ⟨rfl, hb⟩
        replace HCS := Lib.hid (HCS.out.below hb)
        replace HOL := Lib.hid (HOL.out.below hb)
        replace HB3 := Lib.hid (belTrans HB3.out hb)
        clear hb d0 d1
        by_cases hV : V = 1
        · subst hV
          have hnb := BT.out rfl
          unfold better at hnb
          by_cases h1 : G' < G
          · have h1' : decide (G' < G) = true := decide_eq_true h1
            clear hnb
            go_wp2_with fail
            refine (J6.out _ _ HOL.out).mono ?_
            rintro e w7 ⟨rfl, hb⟩
            replace HCS := Lib.hid (HCS.out.below hb)
            replace HB3 := Lib.hid (belTrans HB3.out hb)
            clear hb
            go_wp2_with fail
            refine (J4.out _ _ HCS.out).mono ?_
            rintro e w8 ⟨rfl, hb⟩
            replace HB3 := Lib.hid (belTrans HB3.out hb)
            clear hb
            go_wp2_with fail
            refine (awake_any _).mono ?_
            rintro e w9 ⟨rfl, hb⟩
            replace HB3 := Lib.hid (belTrans HB3.out hb)
            go_wp2_with fail
            go_ret
            exact ⟨rfl, HB3.out⟩
          · obtain rfl : G' = G := by omega
            have h2 : L.length ≤ M.length := by omega
            have h2' : (L.length : Int) ≤ M.length := by omega
            clear hnb
            go_wp2_with fail
            refine (J6.out _ _ HOL.out).mono ?_
            rintro e w7 ⟨rfl, hb⟩
            replace HCS := Lib.hid (HCS.out.below hb)
            replace HOL := Lib.hid (HOL.out.below hb)
            replace HB3 := Lib.hid (belTrans HB3.out hb)
            clear hb
            go_wp2_with fail
            refine (J4.out _ _ HCS.out).mono ?_
            rintro e w8 ⟨rfl, hb⟩
            replace HCS := Lib.hid (HCS.out.below hb)
            replace HOL := Lib.hid (HOL.out.below hb)
            replace HB3 := Lib.hid (belTrans HB3.out hb)
            clear hb
            go_wp2_with fail
            refine (J6.out _ _ HOL.out).mono ?_
            rintro e w9 ⟨rfl, hb⟩
            replace HCS := Lib.hid (HCS.out.below hb)
            replace HB3 := Lib.hid (belTrans HB3.out hb)
            clear hb
            go_wp2_with fail
            refine (J4.out _ _ HCS.out).mono ?_
            rintro e w10 ⟨rfl, hb⟩
            replace HB3 := Lib.hid (belTrans HB3.out hb)
            clear hb
            go_wp2_with fail
            refine (awake_any _).mono ?_
            rintro e w11 ⟨rfl, hb⟩
            replace HB3 := Lib.hid (belTrans HB3.out hb)
            go_wp2_with fail
            go_ret
            exact ⟨rfl, HB3.out⟩
        · have t1 : (V != 1) = true := by rw [bne_iff_ne]; exact hV
          clear hV
          go_wp2_with fail
          refine (awake_any _).mono ?_
          rintro e w7 ⟨rfl, hb⟩
          replace HB3 := Lib.hid (belTrans HB3.out hb)
          go_wp2_with fail
          go_ret
          exact ⟨rfl, HB3.out⟩
  · have j1 := best_no a f v bs _ HR.out he
    have j2 := fun w' (h : Rd w' 3 v (bagRows bs)) => refBags_any a f v bs w' h
    generalize beginErr a f bs = E at *
    have t1 : (E != 0) = true := by rw [bne_iff_ne]; exact he
    have J1 := Lib.hid j1
    have J2 := Lib.hid j2
    clear j1 j2 he
    go_enter Try.func14, Try.ntmps14
    go_wp2_with fail
    refine J1.out.mono ?_
    rintro e w1 ⟨rfl, hb⟩
    have c0 : w1.cell? ⟨w.heap.size, 0, none⟩ = some (.int .i64 a) := keep hb (by simp [go_sem])
    have c1 : w1.cell? ⟨w.heap.size, 1, none⟩ = some (.int .i64 f) := keep hb (by simp [go_sem])
    have HR1 := Lib.hid (HR.out.below hb)
    clear J1
    have hk : Below w.heap.size w w1 := by (repeat (first | assumption | exact Below.refl _ _ | refine Below.alloc ?_ (by (try simp) <;> omega) _ | refine below_drewN ?_ _ | refine Below.drew ?_ | refine Below.setCell ?_ (by (try simp) <;> omega) _ | refine Below.trans ?_ (Below.mono (by assumption) (by (try simp) <;> omega))))
    replace hB := hB.trans (hk.mono hB.size)
    have hzw1 := hB.size
    clear hk hb
    go_wp2_with fail
    refine (J2.out _ HR1.out).mono ?_
    rintro e w2 ⟨rfl, hb⟩
    have hk : Below w1.heap.size w1 w2 := by (repeat (first | assumption | exact Below.refl _ _ | refine Below.alloc ?_ (by (try simp) <;> omega) _ | refine below_drewN ?_ _ | refine Below.drew ?_ | refine Below.setCell ?_ (by (try simp) <;> omega) _ | refine Below.trans ?_ (Below.mono (by assumption) (by (try simp) <;> omega))))
    replace hB := hB.trans (hk.mono hB.size)
    have hzw2 := hB.size
    replace c0 := keep hk c0
    replace c1 := keep hk c1
    have lc0 := lt_of_cell c0
    clear hk hb
    go_wp2_with fail
    refine (awake_any _).mono ?_
    rintro e w3 ⟨rfl, hb⟩
    have hk : Below w2.heap.size w2 w3 := by (repeat (first | assumption | exact Below.refl _ _ | refine Below.alloc ?_ (by (try simp) <;> omega) _ | refine below_drewN ?_ _ | refine Below.drew ?_ | refine Below.setCell ?_ (by (try simp) <;> omega) _ | refine Below.trans ?_ (Below.mono (by assumption) (by (try simp) <;> omega))))
    replace hB := hB.trans (hk.mono hB.size)
    have hzw3 := hB.size
    replace c0 := keep hk c0
    replace c1 := keep hk c1
    have lc0 := lt_of_cell c0
    clear hk hb
    go_wp2_with fail
    go_ret
    exact ⟨rfl, hB⟩

end Go.Proofs.Ytnombgiacfeloaa
