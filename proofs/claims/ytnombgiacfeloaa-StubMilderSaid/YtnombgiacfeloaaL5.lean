/- The statement 'StubOrder', walked: with bags in another order Judge is the same. -/
import Derived.Test.YtnombgiacfeloaaL1
import Derived.Test.YtnombgiacfeloaaW21
import Derived.Test.YtnombgiacfeloaaA1
namespace Go.Proofs.Ytnombgiacfeloaa
set_option linter.unusedVariables false
set_option linter.unusedSimpArgs false
open Go.RowKit

theorem begin_good {a f : Int} {cs : List Bag} (ha : 1 ≤ a ∧ a ≤ 255) (hf : 0 ≤ f ∧ f ≤ 1000) (hlen : cs.length ≤ 10) (hg : Good cs) : beginErr a f cs = 0 := by
  unfold beginErr
  have e1 : (anyOut 1 255 [a] || anyOut 0 1000 [f]) = false := by
    simp only [anyOut1, Bool.or_eq_false_iff, Bool.not_eq_false', Bool.and_eq_true, decide_eq_true_eq]
    omega
  rw [e1, firstErr_miss]
  · simp; omega
  · intro j hj
    have := hg _ (List.getElem_mem hj)
    unfold bagErr
    generalize cs[j] = b at this
    have e2 : (anyOut 0 1000000 [b.lo, b.hi] || anyOut 1 255 [b.kinds]) = false := by
      rw [anyOut2, anyOut1, decide_eq_true (by omega : 0 ≤ b.lo), decide_eq_true (by omega : b.lo ≤ 1000000), decide_eq_true (by omega : 0 ≤ b.hi), decide_eq_true (by omega : b.hi ≤ 1000000), decide_eq_true (by omega : 1 ≤ b.kinds), decide_eq_true (by omega : b.kinds ≤ 255)]
      rfl
    rw [e2]
    simp
    omega

theorem perm_sum {α : Type} (g : α → Int) {l m : List α} (h : l.Perm m) : sumTo g l l.length = sumTo g m m.length := by
  have e : ∀ l : List α, sumTo g l l.length = (l.map g).sum := fun l => by simp [sumTo]
  rw [e, e]
  induction h with
  | nil => rfl
  | cons x _ ih => simp [ih]
  | swap x y l => simp; omega
  | trans _ _ i1 i2 => exact i1.trans i2

theorem judgeR_perm (a f : Int) {l m : List Bag} (h : l.Perm m) : judgeR a f l = judgeR a f m := by
  unfold judgeR
  rw [perm_sum (badR a) h, perm_sum (restR a) h, perm_sum (forR a) h, perm_sum (goodR a) h]

theorem good_perm {l m : List Bag} (h : l.Perm m) (hg : Good m) : Good l := fun b hb => hg b (h.mem_iff.1 hb)

/-- A bag put among others. -/
theorem perm_put {l : List Bag} {b : Bag} {i : Nat} {m : List Bag} (h : l.Perm m) : (l.take i ++ [b] ++ l.drop i).Perm (m ++ [b]) := by
  have h1 : (l.take i ++ [b] ++ l.drop i).Perm (b :: (l.take i ++ l.drop i)) := by
    rw [List.append_assoc]
    exact List.perm_middle
  rw [List.take_append_drop] at h1
  exact (h1.trans (h.cons b)).trans (List.perm_append_singleton b m).symm

theorem owns_base {w : World} {b0 base : Nat} {e : TypeId} {size n : Nat} {v : Value} {xs : List Value} (h : w.ownsRow b0 e size v n xs) (hb : base ≤ b0) : w.ownsRow base e size v n xs := by
  refine ⟨h.1, ?_⟩
  rcases h.2 with hn | ⟨g, cap, cur, rfl, hbg, rest⟩
  · exact .inl hn
  · exact .inr ⟨g, cap, cur, rfl, Nat.le_trans hb hbg, rest⟩
theorem owns_far {w : World} {base : Nat} {e : TypeId} {size n B : Nat} {v : Value} {xs : List Value} (h : w.ownsRow base e size v n xs) (hB : w.heap.size ≤ B) : some B ≠ v.ownBlock := by
  rcases h.2 with ⟨rfl, -⟩ | ⟨g, cap, cur, rfl, hbg, hgg, -⟩
  · simp [Value.ownBlock]
  · have := (Array.getElem?_eq_some_iff.1 hgg).1
    simp [Value.ownBlock]
    omega
theorem Rd.grown {w w' : World} {k b o n c : Nat} {rows : List (List Value)} {row : Option Nat} (h : Rd w k (.slice (some ⟨b, o, none⟩) n c) rows) (hg : w.grownBy w' row) (hne : some b ≠ row) (hlt : b < w.heap.size) : Rd w' k (.slice (some ⟨b, o, none⟩) n c) rows := by
  obtain ⟨a', c', hv, hc, hm, hl, hr⟩ := h
  refine ⟨a', c', hv, hc, hm, hl, fun h0 => ?_⟩
  obtain ⟨b', o', ha', hb, hcell⟩ := hr h0
  simp only [Value.slice.injEq] at hv
  have e := hv.1.trans ha'
  simp only [Option.some.injEq, Addr.mk.injEq, and_true] at e
  obtain ⟨rfl, rfl⟩ := e
  exact ⟨b, o, ha', Nat.lt_of_lt_of_le hb hg.size, fun j r hj i x hi => hg.cell (hcell j r hj i x hi) hne⟩
theorem rd_bag (W : World) (lo hi kd : Int) : Rd (W.alloc (.cells #[.int .i64 lo, .int .i64 hi, .int .i64 kd] 57)) 3 (.slice (some ⟨W.heap.size, 0, none⟩) 1 1) (bagRows [⟨lo, hi, kd⟩]) :=
  rd_new W W 0 _ 3 (bagRows [⟨lo, hi, kd⟩]) 57 rfl (by simp [bagRows, Bag.row]) (by simp [bagRows]) (by simp [bagRows])
theorem fin_rd {w : World} {base : Nat} {v : Value} {A B C : List Bag} (h : w.ownsRow base 57 3 v (0 + (bagRows A).length + (bagRows B).length + (bagRows C).length) ([] ++ (bagRows A).flatten ++ (bagRows B).flatten ++ (bagRows C).flatten)) : Rd w 3 v (bagRows (A ++ B ++ C)) := by
  have e1 : 0 + (bagRows A).length + (bagRows B).length + (bagRows C).length = (bagRows (A ++ B ++ C)).length := by simp [bagRows]; omega
  have e2 : [] ++ (bagRows A).flatten ++ (bagRows B).flatten ++ (bagRows C).flatten = (bagRows (A ++ B ++ C)).flatten := by simp [bagRows]
  rw [e1, e2] at h
  exact Rd.of_owns h fun r hr => by obtain ⟨z, -, rfl⟩ := List.mem_map.1 hr; rfl

set_option maxRecDepth 100000 in
set_option maxHeartbeats 8000000 in
theorem order_law (a f : Int) (v : Value) (bs : List Bag) (zv : Value) (zs : List Int) (w : World) (h : Rd w 3 v (bagRows bs)) (hz : Rd w 1 zv (nums zs)) (hzb : ∀ z ∈ zs, 0 ≤ z ∧ z ≤ 65535) :
    Calls Try.prog 16 #[.agg #[.int .i64 a, .int .i64 f], v, zv] w fun e w' => e = .returned (.bool true) ∧ Below w.heap.size w w' := by
  have hB := Below.refl w.heap.size w
  have HR := Lib.hid (h.below (below_alloc1 w (.cells #[.int .i64 a, .int .i64 f] 46)))
  have HZ := Lib.hid (hz.below (below_alloc1 w (.cells #[.int .i64 a, .int .i64 f] 46)))
  have ZB := Lib.hid hzb
  clear h hz hzb
  by_cases he : beginErr a f bs = 0
  · obtain ⟨ha, ⟨hf0, hf⟩, hlen, hg, -⟩ := beginErr_ok he
    have HE := Lib.hid he
    have HG := Lib.hid hg
    have j1 := judge_ok a f v bs _ HR.out he
    have jp : ∀ cs : List Bag, cs.Perm bs → ∀ w' l, Rd w' 3 l (bagRows cs) → Calls Try.prog 30 #[.agg #[.int .i64 a, .int .i64 f], l] w' fun e w'' => e = .returned (.tuple #[.int .i64 (judgeR a f bs), .int .i64 0]) ∧ Below w'.heap.size w' w'' := by
      intro cs hp w' l hl
      have := judge_ok a f l cs w' hl (begin_good ha ⟨hf0, hf⟩ (by rw [hp.length_eq]; exact hlen) (good_perm hp hg))
      rw [← judgeR_eq, judgeR_perm a f hp] at this
      exact this
    rw [← judgeR_eq] at j1
    generalize judgeR a f bs = V at *
    have J1 := Lib.hid j1
    have JP := Lib.hid jp
    clear j1 jp he hg
    go_enter Try.func16, Try.ntmps16
    go_wp2_with fail
    refine J1.out.mono ?_
    rintro e w1 ⟨rfl, hb⟩
    have c0 : w1.cell? ⟨w.heap.size, 0, none⟩ = some (.int .i64 a) := keep hb (by simp [go_sem])
    have c1 : w1.cell? ⟨w.heap.size, 1, none⟩ = some (.int .i64 f) := keep hb (by simp [go_sem])
    have HR1 := Lib.hid (HR.out.below hb)
    have HZ1 := Lib.hid (HZ.out.below hb)
    clear J1 HR HZ
    have hk : Below w.heap.size w w1 := by (repeat (first | assumption | exact Below.refl _ _ | refine Below.alloc ?_ (by (try simp) <;> omega) _ | refine below_drewN ?_ _ | refine Below.drew ?_ | refine Below.setCell ?_ (by (try simp) <;> omega) _ | refine Below.trans ?_ (Below.mono (by assumption) (by (try simp) <;> omega))))
    replace hB := hB.trans (hk.mono hB.size)
    have hzw1 := hB.size
    clear hk hb
    go_wp2_with fail
    refine (refBags_any a f v bs _ HR1.out).mono ?_
    rw [HE.out]
    rintro e w2 ⟨rfl, hb⟩
    have HR2 := Lib.hid (HR1.out.below hb)
    have HZ2 := Lib.hid (HZ1.out.below hb)
    clear HR1 HZ1
    have hk : Below w1.heap.size w1 w2 := by (repeat (first | assumption | exact Below.refl _ _ | refine Below.alloc ?_ (by (try simp) <;> omega) _ | refine below_drewN ?_ _ | refine Below.drew ?_ | refine Below.setCell ?_ (by (try simp) <;> omega) _ | refine Below.trans ?_ (Below.mono (by assumption) (by (try simp) <;> omega))))
    replace hB := hB.trans (hk.mono hB.size)
    have hzw2 := hB.size
    replace c0 := keep hk c0
    replace c1 := keep hk c1
    have lc0 := lt_of_cell c0
    clear hk hb
    obtain ⟨va, vc, rfl, -, hvm, hvr⟩ := HR2.out.bags
    have HVR := Lib.hid hvr
    clear hvr
    obtain ⟨i1, hi1, hz01, hz11, hz21⟩ := info_parts info57
    have HB2 := Lib.hid hB
    clear hB
    go_wp2_with fail
    go_loopw [9, 10] (fun x i wr => ∃ (k : Nat) (cs : List Bag), k ≤ bs.length ∧ i = .int .i64 k ∧ (k = 0 → x = .slice none 0 0) ∧ Rd wr 3 x (bagRows cs) ∧ Hid (cs.Perm (bs.take k)) ∧ Below w2.heap.size w2 wr) (fun _ i _ => bs.length - (intOf i).toNat)
    case atStart => exact ⟨0, [], Nat.zero_le _, rfl, fun _ => rfl, rd_nil _ 3, Lib.hid (by simp), Below.refl _ _⟩
    case round =>
      obtain ⟨k, cs, hk, rfl, hx0, hx, HP, hB⟩ := hrel
      have hzB := hB.size
      by_cases hlt : k < bs.length
      · have hlt' : (k : Int) < bs.length := by omega
        obtain ⟨b, off, rfl, hbl, hc⟩ := HVR.out (by omega)
        obtain ⟨g1, g2, g3⟩ := hc k hlt
        clear hc
        rw [← hB.cell (p := ⟨b, _, none⟩) hbl] at g1 g2 g3
        have hpl : cs.length = k := by rw [HP.out.length_eq, List.length_take]; omega
        have hp2 := fun i => perm_put (b := bs[k]) (i := i) HP.out
        rw [← List.take_succ_eq_append_getElem hlt] at hp2
        generalize bs[k] = y at g1 g2 g3 hp2
        obtain ⟨lo, hi', kd⟩ := y
        dsimp only at g1 g2 g3
        have HP2 := Lib.hid hp2
        have HX := Lib.hid hx
        obtain ⟨xa, xc, rfl, hxc, -, hxr⟩ := hx.bags
        rw [hpl] at hxc
        have hpl' : (bagRows cs).length = k := by rw [bagRows, List.length_map, hpl]
        have HXR := Lib.hid hxr
        clear hx hxr hp2 HP
        rw [hpl] at HX ⊢
        have hzr := HZ2.out.below hB
        have HPL := Lib.hid hpl
        have lg := lt_of_cell g1
        clear hpl
        go_wp2_with fail
        refine (turn_any zs zv k _ hzr ZB.out (by omega)).mono ?_
        rintro e w3 ⟨rfl, hb⟩
        have tq := turnR_bd ZB.out k
        generalize turnR zs k = t at tq ⊢
        have r1 : 0 ≤ t % (k + 1) := Int.emod_nonneg _ (by omega)
        have r2 : t % (k + 1) < k + 1 := Int.emod_lt_of_pos _ (by omega)
        obtain ⟨at', hat⟩ : ∃ n : Nat, t % (k + 1) = n := ⟨(t % (k + 1)).toNat, by omega⟩
        have hat2 : at' ≤ k := by omega
        have HAT := Lib.hid hat
        clear r1 r2
        have hb3 := belTrans hB hb
        replace g1 := keep hb g1
        replace g2 := keep hb g2
        replace g3 := keep hb g3
        replace HX := Lib.hid (HX.out.below hb)
        have L1 : (bagRows (cs.take at')).length ≤ 10 := by rw [bagRows, List.length_map, List.length_take, HPL.out]; omega
        have L2 : (bagRows [⟨lo, hi', kd⟩]).length = 1 := rfl
        have L3 : (bagRows (cs.drop at')).length ≤ 10 := by rw [bagRows, List.length_map, List.length_drop, HPL.out]; omega
        have BW3 := Lib.hid hb3
        clear hB hb hb3
        go_wp2_with fail
        rw [HAT.out]
        by_cases hk0 : k = 0
        · subst hk0
          obtain rfl : at' = 0 := by omega
          simp only [Nat.zero_mul, Nat.add_zero] at g1 g2 g3
          have hnil := hx0 rfl
          simp only [Value.slice.injEq] at hnil
          obtain ⟨rfl, -, rfl⟩ := hnil
          have hcs : cs = [] := List.length_eq_zero_iff.1 HPL.out
          refine wp_region_k (by kernel_rfl) 16 rfl ?_
          obtain ⟨W0, hW0⟩ : ∃ W0, w3.drew = W0 := ⟨_, rfl⟩
          have bd : Below w3.heap.size w3 W0 := by rw [← hW0]; exact Below.drew (Below.refl _ _)
          rw [hW0]
          clear hW0
          replace g1 := keep bd g1
          replace g2 := keep bd g2
          replace g3 := keep bd g3
          have BW0 := Lib.hid (belTrans BW3.out bd)
          have bW0 := Lib.hid (Below.refl W0.heap.size W0)
          have TK : Hid (Rd W0 3 (.slice none 0 0) (bagRows (cs.take 0))) := Lib.hid (rd_nil _ 3)
          have DR : Hid (Rd W0 3 (.slice none 0 0) (bagRows (cs.drop 0))) := Lib.hid (by rw [hcs]; exact rd_nil _ 3)
          clear bd hcs HX BW3
          ((refine wpAny_take (i := 1) (v := ?_) rfl (by kernel_rfl) ?_ ?_ (fun _ _ _ h => h) (Or.inl ⟨by rfl, ?_⟩) ?_; rotate_left; decide +kernel; decide +kernel; focus (intro w; go_simp; first | done | with_reducible rfl)); (refine wpAny_take (i := 2) (v := ?_) rfl (by kernel_rfl) ?_ ?_ (fun _ _ _ h => h) (Or.inl ⟨by rfl, ?_⟩) ?_; rotate_left; decide +kernel; decide +kernel; focus (intro w; go_simp; first | done | with_reducible rfl)); (refine wpAny_take (i := 3) (v := ?_) rfl (by kernel_rfl) ?_ ?_ (fun _ _ _ h => h) (Or.inl ⟨by rfl, ?_⟩) ?_; rotate_left; decide +kernel; decide +kernel; focus (intro w; go_simp; first | done | with_reducible rfl)); (refine wpAny_take (i := 5) (v := ?_) rfl (by kernel_rfl) ?_ ?_ (fun _ _ _ h => h) (Or.inl ⟨by rfl, ?_⟩) ?_; rotate_left; decide +kernel; decide +kernel; focus (intro w; go_simp; first | done | with_reducible rfl)); (refine wpAny_take (i := 6) (v := ?_) rfl (by kernel_rfl) ?_ ?_ (fun _ _ _ h => h) (Or.inl ⟨by rfl, ?_⟩) ?_; rotate_left; decide +kernel; decide +kernel; focus (intro w; go_simp; first | done | with_reducible rfl)); (refine wpAny_take (i := 7) (v := ?_) rfl (by kernel_rfl) ?_ ?_ (fun _ _ _ h => h) (Or.inl ⟨by rfl, ?_⟩) ?_; rotate_left; decide +kernel; decide +kernel; focus (intro w; go_simp; first | done | with_reducible rfl)); (refine wpAny_take (i := 11) (v := ?_) rfl (by kernel_rfl) ?_ ?_ (fun _ _ _ h => h) (Or.inl ⟨by rfl, ?_⟩) ?_; rotate_left; decide +kernel; decide +kernel; focus (intro w; go_simp; first | done | with_reducible rfl)); (refine wpAny_take (i := 12) (v := ?_) rfl (by kernel_rfl) ?_ ?_ (fun _ _ _ h => h) (Or.inl ⟨by rfl, ?_⟩) ?_; rotate_left; decide +kernel; decide +kernel; focus (intro w; go_simp; first | done | with_reducible rfl)); (refine wpAny_take (i := 13) (v := ?_) rfl (by kernel_rfl) ?_ ?_ (fun _ _ _ h => h) (Or.inl ⟨by rfl, ?_⟩) ?_; rotate_left; decide +kernel; decide +kernel; focus (intro w; go_simp; first | done | with_reducible rfl)))
          refine wpAny_ready (rs := [0, 8]) ?_ (by simp) ?_; decide +kernel
          refine AllReady.cons rfl (fun K hK => ?_) ?_
          · (go_simp; refine hK _ _ ?_; clear hK K)
            have ba : Below W0.heap.size W0 (W0.alloc (.cells #[] 57)) := below_alloc1 _ _
            have OWN := Lib.hid (owns_base (owns_empty W0 57 3) bW0.out.size)
            have bX1 := Lib.hid (belTrans bW0.out ba)
            clear ba
            generalize W0.alloc (.cells #[] 57) = X1 at *
            refine wpAny_ready (rs := [4, 8]) ?_ (by simp) ?_; decide +kernel
            refine AllReady.cons rfl (fun K hK => ?_) ?_
            · skip
              refine step_append_rd rfl (.tmp 46) (.tmp 49) 47 rfl W0.heap.size 57 i1 (.agg #[.int .i64 0, .int .i64 0, .int .i64 0]) 3 24 Try.underlying47 hi1 hz01 hz11 hz21 rfl (by decide) _ _ _ (by rfl) OWN.out _ _ (by rfl) (TK.out.below bX1.out) (bagRows_one _) (by unfold maxLen; omega) (by omega) bX1.out.size ?_
              intro V X2 own hg
              refine hK _ _ ?_
              clear hK K
              have bX2 := Lib.hid (bX1.out.trans (grown_below (B := W0.heap.size) hg bX1.out.size (fun j e => (OWN.out.lt j e).1)))
              replace OWN := Lib.hid own
              clear own hg
              refine wpAny_ready (rs := [8]) ?_ (by simp) ?_; decide +kernel
              refine AllReady.cons rfl (fun K hK => ?_) ?_
              · have k1 := keep bX2.out g1
                have k2 := keep bX2.out g2
                have k3 := keep bX2.out g3
                (go_simp; refine hK _ _ ?_; clear hK K)
                clear k1 k2 k3
                refine wpAny_ready (rs := [9]) ?_ (by simp) ?_; decide +kernel
                refine AllReady.cons rfl (fun K hK => ?_) ?_
                · (go_simp; refine hK _ _ ?_; clear hK K)
                  have ba : Below X2.heap.size X2 (X2.alloc (.cells #[.int .i64 lo, .int .i64 hi', .int .i64 kd] 57)) := below_alloc1 _ _
                  have SL := Lib.hid (rd_bag X2 lo hi' kd)
                  have SLT := Lib.hid (show X2.heap.size < (X2.alloc (.cells #[.int .i64 lo, .int .i64 hi', .int .i64 kd] 57)).heap.size by simp)
                  have NE : Hid (some X2.heap.size ≠ _) := Lib.hid (owns_far OWN.out (Nat.le_refl _))
                  replace OWN := Lib.hid (OWN.out.alloc (.cells #[.int .i64 lo, .int .i64 hi', .int .i64 kd] 57))
                  have bX3 := Lib.hid (belTrans bX2.out ba)
                  clear ba
                  generalize X2.alloc (.cells #[.int .i64 lo, .int .i64 hi', .int .i64 kd] 57) = X3 at *
                  refine wpAny_ready (rs := [10]) ?_ (by simp) ?_; decide +kernel
                  refine AllReady.cons rfl (fun K hK => ?_) ?_
                  · skip
                    refine step_append_rd rfl (.tmp 50) (.tmp 55) 47 rfl W0.heap.size 57 i1 (.agg #[.int .i64 0, .int .i64 0, .int .i64 0]) 3 24 Try.underlying47 hi1 hz01 hz11 hz21 rfl (by decide) _ _ _ (by rfl) OWN.out _ _ (by rfl) SL.out (bagRows_one _) (by unfold maxLen; omega) (by omega) bX3.out.size ?_
                    intro V X4 own hg
                    refine hK _ _ ?_
                    clear hK K
                    have bX4 := Lib.hid (bX3.out.trans (grown_below (B := W0.heap.size) hg bX3.out.size (fun j e => (OWN.out.lt j e).1)))
                    replace OWN := Lib.hid own
                    clear own hg SL SLT
                    refine wpAny_ready (rs := [14]) ?_ (by simp) ?_; decide +kernel
                    refine AllReady.cons rfl (fun K hK => ?_) ?_
                    · skip
                      refine step_append_rd rfl (.tmp 56) (.tmp 59) 47 rfl W0.heap.size 57 i1 (.agg #[.int .i64 0, .int .i64 0, .int .i64 0]) 3 24 Try.underlying47 hi1 hz01 hz11 hz21 rfl (by decide) _ _ _ (by rfl) OWN.out _ _ (by rfl) (DR.out.below bX4.out) (bagRows_one _) (by unfold maxLen; omega) (by omega) bX4.out.size ?_
                      intro V X5 own hg
                      refine hK _ _ ?_
                      clear hK K
                      have bX5 := Lib.hid (bX4.out.trans (grown_below (B := W0.heap.size) hg bX4.out.size (fun j e => (OWN.out.lt j e).1)))
                      replace OWN := Lib.hid own
                      clear own hg
                      ((refine wpAny_take (i := 15) (v := ?_) rfl (by kernel_rfl) ?_ ?_ (fun _ _ _ h => h) (Or.inl ⟨by rfl, ?_⟩) ?_; rotate_left; decide +kernel; decide +kernel; focus (intro w; go_simp; first | done | with_reducible rfl)))
                      refine wpAny_done ?_ ?_ _; decide +kernel
                      have hrd := fin_rd OWN.out
                      have hbl := BW0.out.trans (bX5.out.mono BW0.out.size)
                      clear OWN
                      go_wp2_with fail
                      all_goals go_roundw
                      case rel => exact ⟨0 + 1, _, by omega, by go_num, fun h => absurd h (by omega), hrd, Lib.hid (HP2.out 0), hbl⟩
                      case measure => simp [intOf]; omega
                    exact AllReady.nil
                  exact AllReady.nil
                exact AllReady.nil
              exact AllReady.nil
            refine AllReady.cons rfl (fun K hK => ?_) ?_
            · have k1 := keep bX1.out g1
              have k2 := keep bX1.out g2
              have k3 := keep bX1.out g3
              (go_simp; refine hK _ _ ?_; clear hK K)
              clear k1 k2 k3
              refine wpAny_ready (rs := [4, 9]) ?_ (by simp) ?_; decide +kernel
              refine AllReady.cons rfl (fun K hK => ?_) ?_
              · skip
                refine step_append_rd rfl (.tmp 46) (.tmp 49) 47 rfl W0.heap.size 57 i1 (.agg #[.int .i64 0, .int .i64 0, .int .i64 0]) 3 24 Try.underlying47 hi1 hz01 hz11 hz21 rfl (by decide) _ _ _ (by rfl) OWN.out _ _ (by rfl) (TK.out.below bX1.out) (bagRows_one _) (by unfold maxLen; omega) (by omega) bX1.out.size ?_
                intro V X6 own hg
                refine hK _ _ ?_
                clear hK K
                have bX6 := Lib.hid (bX1.out.trans (grown_below (B := W0.heap.size) hg bX1.out.size (fun j e => (OWN.out.lt j e).1)))
                replace OWN := Lib.hid own
                clear own hg
                refine wpAny_ready (rs := [9]) ?_ (by simp) ?_; decide +kernel
                refine AllReady.cons rfl (fun K hK => ?_) ?_
                · (go_simp; refine hK _ _ ?_; clear hK K)
                  have ba : Below X6.heap.size X6 (X6.alloc (.cells #[.int .i64 lo, .int .i64 hi', .int .i64 kd] 57)) := below_alloc1 _ _
                  have SL := Lib.hid (rd_bag X6 lo hi' kd)
                  have SLT := Lib.hid (show X6.heap.size < (X6.alloc (.cells #[.int .i64 lo, .int .i64 hi', .int .i64 kd] 57)).heap.size by simp)
                  have NE : Hid (some X6.heap.size ≠ _) := Lib.hid (owns_far OWN.out (Nat.le_refl _))
                  replace OWN := Lib.hid (OWN.out.alloc (.cells #[.int .i64 lo, .int .i64 hi', .int .i64 kd] 57))
                  have bX7 := Lib.hid (belTrans bX6.out ba)
                  clear ba
                  generalize X6.alloc (.cells #[.int .i64 lo, .int .i64 hi', .int .i64 kd] 57) = X7 at *
                  refine wpAny_ready (rs := [10]) ?_ (by simp) ?_; decide +kernel
                  refine AllReady.cons rfl (fun K hK => ?_) ?_
                  · skip
                    refine step_append_rd rfl (.tmp 50) (.tmp 55) 47 rfl W0.heap.size 57 i1 (.agg #[.int .i64 0, .int .i64 0, .int .i64 0]) 3 24 Try.underlying47 hi1 hz01 hz11 hz21 rfl (by decide) _ _ _ (by rfl) OWN.out _ _ (by rfl) SL.out (bagRows_one _) (by unfold maxLen; omega) (by omega) bX7.out.size ?_
                    intro V X8 own hg
                    refine hK _ _ ?_
                    clear hK K
                    have bX8 := Lib.hid (bX7.out.trans (grown_below (B := W0.heap.size) hg bX7.out.size (fun j e => (OWN.out.lt j e).1)))
                    replace OWN := Lib.hid own
                    clear own hg SL SLT
                    refine wpAny_ready (rs := [14]) ?_ (by simp) ?_; decide +kernel
                    refine AllReady.cons rfl (fun K hK => ?_) ?_
                    · skip
                      refine step_append_rd rfl (.tmp 56) (.tmp 59) 47 rfl W0.heap.size 57 i1 (.agg #[.int .i64 0, .int .i64 0, .int .i64 0]) 3 24 Try.underlying47 hi1 hz01 hz11 hz21 rfl (by decide) _ _ _ (by rfl) OWN.out _ _ (by rfl) (DR.out.below bX8.out) (bagRows_one _) (by unfold maxLen; omega) (by omega) bX8.out.size ?_
                      intro V X9 own hg
                      refine hK _ _ ?_
                      clear hK K
                      have bX9 := Lib.hid (bX8.out.trans (grown_below (B := W0.heap.size) hg bX8.out.size (fun j e => (OWN.out.lt j e).1)))
                      replace OWN := Lib.hid own
                      clear own hg
                      ((refine wpAny_take (i := 15) (v := ?_) rfl (by kernel_rfl) ?_ ?_ (fun _ _ _ h => h) (Or.inl ⟨by rfl, ?_⟩) ?_; rotate_left; decide +kernel; decide +kernel; focus (intro w; go_simp; first | done | with_reducible rfl)))
                      refine wpAny_done ?_ ?_ _; decide +kernel
                      have hrd := fin_rd OWN.out
                      have hbl := BW0.out.trans (bX9.out.mono BW0.out.size)
                      clear OWN
                      go_wp2_with fail
                      all_goals go_roundw
                      case rel => exact ⟨0 + 1, _, by omega, by go_num, fun h => absurd h (by omega), hrd, Lib.hid (HP2.out 0), hbl⟩
                      case measure => simp [intOf]; omega
                    exact AllReady.nil
                  exact AllReady.nil
                exact AllReady.nil
              refine AllReady.cons rfl (fun K hK => ?_) ?_
              · (go_simp; refine hK _ _ ?_; clear hK K)
                have ba : Below X1.heap.size X1 (X1.alloc (.cells #[.int .i64 lo, .int .i64 hi', .int .i64 kd] 57)) := below_alloc1 _ _
                have SL := Lib.hid (rd_bag X1 lo hi' kd)
                have SLT := Lib.hid (show X1.heap.size < (X1.alloc (.cells #[.int .i64 lo, .int .i64 hi', .int .i64 kd] 57)).heap.size by simp)
                have NE : Hid (some X1.heap.size ≠ _) := Lib.hid (owns_far OWN.out (Nat.le_refl _))
                replace OWN := Lib.hid (OWN.out.alloc (.cells #[.int .i64 lo, .int .i64 hi', .int .i64 kd] 57))
                have bX10 := Lib.hid (belTrans bX1.out ba)
                clear ba
                generalize X1.alloc (.cells #[.int .i64 lo, .int .i64 hi', .int .i64 kd] 57) = X10 at *
                refine wpAny_ready (rs := [4]) ?_ (by simp) ?_; decide +kernel
                refine AllReady.cons rfl (fun K hK => ?_) ?_
                · skip
                  refine step_append_rd rfl (.tmp 46) (.tmp 49) 47 rfl W0.heap.size 57 i1 (.agg #[.int .i64 0, .int .i64 0, .int .i64 0]) 3 24 Try.underlying47 hi1 hz01 hz11 hz21 rfl (by decide) _ _ _ (by rfl) OWN.out _ _ (by rfl) (TK.out.below bX10.out) (bagRows_one _) (by unfold maxLen; omega) (by omega) bX10.out.size ?_
                  intro V X11 own hg
                  refine hK _ _ ?_
                  clear hK K
                  have bX11 := Lib.hid (bX10.out.trans (grown_below (B := W0.heap.size) hg bX10.out.size (fun j e => (OWN.out.lt j e).1)))
                  replace SL := Lib.hid (SL.out.grown hg NE.out SLT.out)
                  replace SLT := Lib.hid (Nat.lt_of_lt_of_le SLT.out hg.size)
                  replace OWN := Lib.hid own
                  clear own hg
                  refine wpAny_ready (rs := [10]) ?_ (by simp) ?_; decide +kernel
                  refine AllReady.cons rfl (fun K hK => ?_) ?_
                  · skip
                    refine step_append_rd rfl (.tmp 50) (.tmp 55) 47 rfl W0.heap.size 57 i1 (.agg #[.int .i64 0, .int .i64 0, .int .i64 0]) 3 24 Try.underlying47 hi1 hz01 hz11 hz21 rfl (by decide) _ _ _ (by rfl) OWN.out _ _ (by rfl) SL.out (bagRows_one _) (by unfold maxLen; omega) (by omega) bX11.out.size ?_
                    intro V X12 own hg
                    refine hK _ _ ?_
                    clear hK K
                    have bX12 := Lib.hid (bX11.out.trans (grown_below (B := W0.heap.size) hg bX11.out.size (fun j e => (OWN.out.lt j e).1)))
                    replace OWN := Lib.hid own
                    clear own hg SL SLT
                    refine wpAny_ready (rs := [14]) ?_ (by simp) ?_; decide +kernel
                    refine AllReady.cons rfl (fun K hK => ?_) ?_
                    · skip
                      refine step_append_rd rfl (.tmp 56) (.tmp 59) 47 rfl W0.heap.size 57 i1 (.agg #[.int .i64 0, .int .i64 0, .int .i64 0]) 3 24 Try.underlying47 hi1 hz01 hz11 hz21 rfl (by decide) _ _ _ (by rfl) OWN.out _ _ (by rfl) (DR.out.below bX12.out) (bagRows_one _) (by unfold maxLen; omega) (by omega) bX12.out.size ?_
                      intro V X13 own hg
                      refine hK _ _ ?_
                      clear hK K
                      have bX13 := Lib.hid (bX12.out.trans (grown_below (B := W0.heap.size) hg bX12.out.size (fun j e => (OWN.out.lt j e).1)))
                      replace OWN := Lib.hid own
                      clear own hg
                      ((refine wpAny_take (i := 15) (v := ?_) rfl (by kernel_rfl) ?_ ?_ (fun _ _ _ h => h) (Or.inl ⟨by rfl, ?_⟩) ?_; rotate_left; decide +kernel; decide +kernel; focus (intro w; go_simp; first | done | with_reducible rfl)))
                      refine wpAny_done ?_ ?_ _; decide +kernel
                      have hrd := fin_rd OWN.out
                      have hbl := BW0.out.trans (bX13.out.mono BW0.out.size)
                      clear OWN
                      go_wp2_with fail
                      all_goals go_roundw
                      case rel => exact ⟨0 + 1, _, by omega, by go_num, fun h => absurd h (by omega), hrd, Lib.hid (HP2.out 0), hbl⟩
                      case measure => simp [intOf]; omega
                    exact AllReady.nil
                  exact AllReady.nil
                exact AllReady.nil
              exact AllReady.nil
            exact AllReady.nil
          refine AllReady.cons rfl (fun K hK => ?_) ?_
          · have k1 := keep bW0.out g1
            have k2 := keep bW0.out g2
            have k3 := keep bW0.out g3
            (go_simp; refine hK _ _ ?_; clear hK K)
            clear k1 k2 k3
            refine wpAny_ready (rs := [0, 9]) ?_ (by simp) ?_; decide +kernel
            refine AllReady.cons rfl (fun K hK => ?_) ?_
            · (go_simp; refine hK _ _ ?_; clear hK K)
              have ba : Below W0.heap.size W0 (W0.alloc (.cells #[] 57)) := below_alloc1 _ _
              have OWN := Lib.hid (owns_base (owns_empty W0 57 3) bW0.out.size)
              have bX14 := Lib.hid (belTrans bW0.out ba)
              clear ba
              generalize W0.alloc (.cells #[] 57) = X14 at *
              refine wpAny_ready (rs := [4, 9]) ?_ (by simp) ?_; decide +kernel
              refine AllReady.cons rfl (fun K hK => ?_) ?_
              · skip
                refine step_append_rd rfl (.tmp 46) (.tmp 49) 47 rfl W0.heap.size 57 i1 (.agg #[.int .i64 0, .int .i64 0, .int .i64 0]) 3 24 Try.underlying47 hi1 hz01 hz11 hz21 rfl (by decide) _ _ _ (by rfl) OWN.out _ _ (by rfl) (TK.out.below bX14.out) (bagRows_one _) (by unfold maxLen; omega) (by omega) bX14.out.size ?_
                intro V X15 own hg
                refine hK _ _ ?_
                clear hK K
                have bX15 := Lib.hid (bX14.out.trans (grown_below (B := W0.heap.size) hg bX14.out.size (fun j e => (OWN.out.lt j e).1)))
                replace OWN := Lib.hid own
                clear own hg
                refine wpAny_ready (rs := [9]) ?_ (by simp) ?_; decide +kernel
                refine AllReady.cons rfl (fun K hK => ?_) ?_
                · (go_simp; refine hK _ _ ?_; clear hK K)
                  have ba : Below X15.heap.size X15 (X15.alloc (.cells #[.int .i64 lo, .int .i64 hi', .int .i64 kd] 57)) := below_alloc1 _ _
                  have SL := Lib.hid (rd_bag X15 lo hi' kd)
                  have SLT := Lib.hid (show X15.heap.size < (X15.alloc (.cells #[.int .i64 lo, .int .i64 hi', .int .i64 kd] 57)).heap.size by simp)
                  have NE : Hid (some X15.heap.size ≠ _) := Lib.hid (owns_far OWN.out (Nat.le_refl _))
                  replace OWN := Lib.hid (OWN.out.alloc (.cells #[.int .i64 lo, .int .i64 hi', .int .i64 kd] 57))
                  have bX16 := Lib.hid (belTrans bX15.out ba)
                  clear ba
                  generalize X15.alloc (.cells #[.int .i64 lo, .int .i64 hi', .int .i64 kd] 57) = X16 at *
                  refine wpAny_ready (rs := [10]) ?_ (by simp) ?_; decide +kernel
                  refine AllReady.cons rfl (fun K hK => ?_) ?_
                  · skip
                    refine step_append_rd rfl (.tmp 50) (.tmp 55) 47 rfl W0.heap.size 57 i1 (.agg #[.int .i64 0, .int .i64 0, .int .i64 0]) 3 24 Try.underlying47 hi1 hz01 hz11 hz21 rfl (by decide) _ _ _ (by rfl) OWN.out _ _ (by rfl) SL.out (bagRows_one _) (by unfold maxLen; omega) (by omega) bX16.out.size ?_
                    intro V X17 own hg
                    refine hK _ _ ?_
                    clear hK K
                    have bX17 := Lib.hid (bX16.out.trans (grown_below (B := W0.heap.size) hg bX16.out.size (fun j e => (OWN.out.lt j e).1)))
                    replace OWN := Lib.hid own
                    clear own hg SL SLT
                    refine wpAny_ready (rs := [14]) ?_ (by simp) ?_; decide +kernel
                    refine AllReady.cons rfl (fun K hK => ?_) ?_
                    · skip
                      refine step_append_rd rfl (.tmp 56) (.tmp 59) 47 rfl W0.heap.size 57 i1 (.agg #[.int .i64 0, .int .i64 0, .int .i64 0]) 3 24 Try.underlying47 hi1 hz01 hz11 hz21 rfl (by decide) _ _ _ (by rfl) OWN.out _ _ (by rfl) (DR.out.below bX17.out) (bagRows_one _) (by unfold maxLen; omega) (by omega) bX17.out.size ?_
                      intro V X18 own hg
                      refine hK _ _ ?_
                      clear hK K
                      have bX18 := Lib.hid (bX17.out.trans (grown_below (B := W0.heap.size) hg bX17.out.size (fun j e => (OWN.out.lt j e).1)))
                      replace OWN := Lib.hid own
                      clear own hg
                      ((refine wpAny_take (i := 15) (v := ?_) rfl (by kernel_rfl) ?_ ?_ (fun _ _ _ h => h) (Or.inl ⟨by rfl, ?_⟩) ?_; rotate_left; decide +kernel; decide +kernel; focus (intro w; go_simp; first | done | with_reducible rfl)))
                      refine wpAny_done ?_ ?_ _; decide +kernel
                      have hrd := fin_rd OWN.out
                      have hbl := BW0.out.trans (bX18.out.mono BW0.out.size)
                      clear OWN
                      go_wp2_with fail
                      all_goals go_roundw
                      case rel => exact ⟨0 + 1, _, by omega, by go_num, fun h => absurd h (by omega), hrd, Lib.hid (HP2.out 0), hbl⟩
                      case measure => simp [intOf]; omega
                    exact AllReady.nil
                  exact AllReady.nil
                exact AllReady.nil
              refine AllReady.cons rfl (fun K hK => ?_) ?_
              · (go_simp; refine hK _ _ ?_; clear hK K)
                have ba : Below X14.heap.size X14 (X14.alloc (.cells #[.int .i64 lo, .int .i64 hi', .int .i64 kd] 57)) := below_alloc1 _ _
                have SL := Lib.hid (rd_bag X14 lo hi' kd)
                have SLT := Lib.hid (show X14.heap.size < (X14.alloc (.cells #[.int .i64 lo, .int .i64 hi', .int .i64 kd] 57)).heap.size by simp)
                have NE : Hid (some X14.heap.size ≠ _) := Lib.hid (owns_far OWN.out (Nat.le_refl _))
                replace OWN := Lib.hid (OWN.out.alloc (.cells #[.int .i64 lo, .int .i64 hi', .int .i64 kd] 57))
                have bX19 := Lib.hid (belTrans bX14.out ba)
                clear ba
                generalize X14.alloc (.cells #[.int .i64 lo, .int .i64 hi', .int .i64 kd] 57) = X19 at *
                refine wpAny_ready (rs := [4]) ?_ (by simp) ?_; decide +kernel
                refine AllReady.cons rfl (fun K hK => ?_) ?_
                · skip
                  refine step_append_rd rfl (.tmp 46) (.tmp 49) 47 rfl W0.heap.size 57 i1 (.agg #[.int .i64 0, .int .i64 0, .int .i64 0]) 3 24 Try.underlying47 hi1 hz01 hz11 hz21 rfl (by decide) _ _ _ (by rfl) OWN.out _ _ (by rfl) (TK.out.below bX19.out) (bagRows_one _) (by unfold maxLen; omega) (by omega) bX19.out.size ?_
                  intro V X20 own hg
                  refine hK _ _ ?_
                  clear hK K
                  have bX20 := Lib.hid (bX19.out.trans (grown_below (B := W0.heap.size) hg bX19.out.size (fun j e => (OWN.out.lt j e).1)))
                  replace SL := Lib.hid (SL.out.grown hg NE.out SLT.out)
                  replace SLT := Lib.hid (Nat.lt_of_lt_of_le SLT.out hg.size)
                  replace OWN := Lib.hid own
                  clear own hg
                  refine wpAny_ready (rs := [10]) ?_ (by simp) ?_; decide +kernel
                  refine AllReady.cons rfl (fun K hK => ?_) ?_
                  · skip
                    refine step_append_rd rfl (.tmp 50) (.tmp 55) 47 rfl W0.heap.size 57 i1 (.agg #[.int .i64 0, .int .i64 0, .int .i64 0]) 3 24 Try.underlying47 hi1 hz01 hz11 hz21 rfl (by decide) _ _ _ (by rfl) OWN.out _ _ (by rfl) SL.out (bagRows_one _) (by unfold maxLen; omega) (by omega) bX20.out.size ?_
                    intro V X21 own hg
                    refine hK _ _ ?_
                    clear hK K
                    have bX21 := Lib.hid (bX20.out.trans (grown_below (B := W0.heap.size) hg bX20.out.size (fun j e => (OWN.out.lt j e).1)))
                    replace OWN := Lib.hid own
                    clear own hg SL SLT
                    refine wpAny_ready (rs := [14]) ?_ (by simp) ?_; decide +kernel
                    refine AllReady.cons rfl (fun K hK => ?_) ?_
                    · skip
                      refine step_append_rd rfl (.tmp 56) (.tmp 59) 47 rfl W0.heap.size 57 i1 (.agg #[.int .i64 0, .int .i64 0, .int .i64 0]) 3 24 Try.underlying47 hi1 hz01 hz11 hz21 rfl (by decide) _ _ _ (by rfl) OWN.out _ _ (by rfl) (DR.out.below bX21.out) (bagRows_one _) (by unfold maxLen; omega) (by omega) bX21.out.size ?_
                      intro V X22 own hg
                      refine hK _ _ ?_
                      clear hK K
                      have bX22 := Lib.hid (bX21.out.trans (grown_below (B := W0.heap.size) hg bX21.out.size (fun j e => (OWN.out.lt j e).1)))
                      replace OWN := Lib.hid own
                      clear own hg
                      ((refine wpAny_take (i := 15) (v := ?_) rfl (by kernel_rfl) ?_ ?_ (fun _ _ _ h => h) (Or.inl ⟨by rfl, ?_⟩) ?_; rotate_left; decide +kernel; decide +kernel; focus (intro w; go_simp; first | done | with_reducible rfl)))
                      refine wpAny_done ?_ ?_ _; decide +kernel
                      have hrd := fin_rd OWN.out
                      have hbl := BW0.out.trans (bX22.out.mono BW0.out.size)
                      clear OWN
                      go_wp2_with fail
                      all_goals go_roundw
                      case rel => exact ⟨0 + 1, _, by omega, by go_num, fun h => absurd h (by omega), hrd, Lib.hid (HP2.out 0), hbl⟩
                      case measure => simp [intOf]; omega
                    exact AllReady.nil
                  exact AllReady.nil
                exact AllReady.nil
              exact AllReady.nil
            refine AllReady.cons rfl (fun K hK => ?_) ?_
            · (go_simp; refine hK _ _ ?_; clear hK K)
              have ba : Below W0.heap.size W0 (W0.alloc (.cells #[.int .i64 lo, .int .i64 hi', .int .i64 kd] 57)) := below_alloc1 _ _
              have SL := Lib.hid (rd_bag W0 lo hi' kd)
              have SLT := Lib.hid (show W0.heap.size < (W0.alloc (.cells #[.int .i64 lo, .int .i64 hi', .int .i64 kd] 57)).heap.size by simp)
              have bX23 := Lib.hid (belTrans bW0.out ba)
              clear ba
              generalize W0.alloc (.cells #[.int .i64 lo, .int .i64 hi', .int .i64 kd] 57) = X23 at *
              refine wpAny_ready (rs := [0]) ?_ (by simp) ?_; decide +kernel
              refine AllReady.cons rfl (fun K hK => ?_) ?_
              · (go_simp; refine hK _ _ ?_; clear hK K)
                have ba : Below X23.heap.size X23 (X23.alloc (.cells #[] 57)) := below_alloc1 _ _
                have OWN := Lib.hid (owns_base (owns_empty X23 57 3) bX23.out.size)
                have NE : Hid (some (W0.heap.size) ≠ some X23.heap.size) := Lib.hid (by have := SLT.out; simp; omega)
                replace SL := Lib.hid (SL.out.below ba)
                replace SLT := Lib.hid (Nat.lt_of_lt_of_le SLT.out ba.size)
                have bX24 := Lib.hid (belTrans bX23.out ba)
                clear ba
                generalize X23.alloc (.cells #[] 57) = X24 at *
                refine wpAny_ready (rs := [4]) ?_ (by simp) ?_; decide +kernel
                refine AllReady.cons rfl (fun K hK => ?_) ?_
                · skip
                  refine step_append_rd rfl (.tmp 46) (.tmp 49) 47 rfl W0.heap.size 57 i1 (.agg #[.int .i64 0, .int .i64 0, .int .i64 0]) 3 24 Try.underlying47 hi1 hz01 hz11 hz21 rfl (by decide) _ _ _ (by rfl) OWN.out _ _ (by rfl) (TK.out.below bX24.out) (bagRows_one _) (by unfold maxLen; omega) (by omega) bX24.out.size ?_
                  intro V X25 own hg
                  refine hK _ _ ?_
                  clear hK K
                  have bX25 := Lib.hid (bX24.out.trans (grown_below (B := W0.heap.size) hg bX24.out.size (fun j e => (OWN.out.lt j e).1)))
                  replace SL := Lib.hid (SL.out.grown hg NE.out SLT.out)
                  replace SLT := Lib.hid (Nat.lt_of_lt_of_le SLT.out hg.size)
                  replace OWN := Lib.hid own
                  clear own hg
                  refine wpAny_ready (rs := [10]) ?_ (by simp) ?_; decide +kernel
                  refine AllReady.cons rfl (fun K hK => ?_) ?_
                  · skip
                    refine step_append_rd rfl (.tmp 50) (.tmp 55) 47 rfl W0.heap.size 57 i1 (.agg #[.int .i64 0, .int .i64 0, .int .i64 0]) 3 24 Try.underlying47 hi1 hz01 hz11 hz21 rfl (by decide) _ _ _ (by rfl) OWN.out _ _ (by rfl) SL.out (bagRows_one _) (by unfold maxLen; omega) (by omega) bX25.out.size ?_
                    intro V X26 own hg
                    refine hK _ _ ?_
                    clear hK K
                    have bX26 := Lib.hid (bX25.out.trans (grown_below (B := W0.heap.size) hg bX25.out.size (fun j e => (OWN.out.lt j e).1)))
                    replace OWN := Lib.hid own
                    clear own hg SL SLT
                    refine wpAny_ready (rs := [14]) ?_ (by simp) ?_; decide +kernel
                    refine AllReady.cons rfl (fun K hK => ?_) ?_
                    · skip
                      refine step_append_rd rfl (.tmp 56) (.tmp 59) 47 rfl W0.heap.size 57 i1 (.agg #[.int .i64 0, .int .i64 0, .int .i64 0]) 3 24 Try.underlying47 hi1 hz01 hz11 hz21 rfl (by decide) _ _ _ (by rfl) OWN.out _ _ (by rfl) (DR.out.below bX26.out) (bagRows_one _) (by unfold maxLen; omega) (by omega) bX26.out.size ?_
                      intro V X27 own hg
                      refine hK _ _ ?_
                      clear hK K
                      have bX27 := Lib.hid (bX26.out.trans (grown_below (B := W0.heap.size) hg bX26.out.size (fun j e => (OWN.out.lt j e).1)))
                      replace OWN := Lib.hid own
                      clear own hg
                      ((refine wpAny_take (i := 15) (v := ?_) rfl (by kernel_rfl) ?_ ?_ (fun _ _ _ h => h) (Or.inl ⟨by rfl, ?_⟩) ?_; rotate_left; decide +kernel; decide +kernel; focus (intro w; go_simp; first | done | with_reducible rfl)))
                      refine wpAny_done ?_ ?_ _; decide +kernel
                      have hrd := fin_rd OWN.out
                      have hbl := BW0.out.trans (bX27.out.mono BW0.out.size)
                      clear OWN
                      go_wp2_with fail
                      all_goals go_roundw
                      case rel => exact ⟨0 + 1, _, by omega, by go_num, fun h => absurd h (by omega), hrd, Lib.hid (HP2.out 0), hbl⟩
                      case measure => simp [intOf]; omega
                    exact AllReady.nil
                  exact AllReady.nil
                exact AllReady.nil
              exact AllReady.nil
            exact AllReady.nil
          exact AllReady.nil
        · obtain ⟨xb, xo, rfl, hxb, -⟩ := HXR.out (by rw [HPL.out]; omega)
          by_cases hxa : xc = at'
          · obtain rfl : at' = k := by omega
            obtain rfl := hxa
            refine wp_region_k (by kernel_rfl) 16 rfl ?_
            obtain ⟨W0, hW0⟩ : ∃ W0, w3.drew = W0 := ⟨_, rfl⟩
            have bd : Below w3.heap.size w3 W0 := by rw [← hW0]; exact Below.drew (Below.refl _ _)
            rw [hW0]
            clear hW0
            replace g1 := keep bd g1
            replace g2 := keep bd g2
            replace g3 := keep bd g3
            have BW0 := Lib.hid (belTrans BW3.out bd)
            have bW0 := Lib.hid (Below.refl W0.heap.size W0)
            have et : (bagRows cs).take xc = bagRows (cs.take xc) := by rw [bagRows, bagRows, List.map_take]
            have ed : (bagRows cs).drop xc = bagRows (cs.drop xc) := by rw [bagRows, bagRows, List.map_drop]
            have TK := Lib.hid ((HX.out.below bd).take xc (by rw [bagRows, List.length_map, HPL.out]; exact Nat.le_refl _))
            have DR : Hid (Rd W0 3 (.slice (some ⟨xb, xo, none⟩) 0 0) (bagRows (cs.drop xc))) := Lib.hid (by
              have e0 : cs.drop xc = [] := List.drop_eq_nil_of_le (by rw [HPL.out]; exact Nat.le_refl _)
              rw [e0]
              exact ⟨_, 0, rfl, by simp [bagRows], by simp [bagRows], by simp [bagRows], fun h => by simp [bagRows] at h⟩)
            rw [et] at TK
            clear bd HX BW3 et ed
            ((refine wpAny_take (i := 1) (v := ?_) rfl (by kernel_rfl) ?_ ?_ (fun _ _ _ h => h) (Or.inl ⟨by rfl, ?_⟩) ?_; rotate_left; decide +kernel; decide +kernel; focus (intro w; go_simp; first | done | with_reducible rfl)); (refine wpAny_take (i := 2) (v := ?_) rfl (by kernel_rfl) ?_ ?_ (fun _ _ _ h => h) (Or.inl ⟨by rfl, ?_⟩) ?_; rotate_left; decide +kernel; decide +kernel; focus (intro w; go_simp; first | done | with_reducible rfl)); (refine wpAny_take (i := 3) (v := ?_) rfl (by kernel_rfl) ?_ ?_ (fun _ _ _ h => h) (Or.inl ⟨by rfl, ?_⟩) ?_; rotate_left; decide +kernel; decide +kernel; focus (intro w; go_simp; first | done | with_reducible rfl)); (refine wpAny_take (i := 5) (v := ?_) rfl (by kernel_rfl) ?_ ?_ (fun _ _ _ h => h) (Or.inl ⟨by rfl, ?_⟩) ?_; rotate_left; decide +kernel; decide +kernel; focus (intro w; go_simp; first | done | with_reducible rfl)); (refine wpAny_take (i := 6) (v := ?_) rfl (by kernel_rfl) ?_ ?_ (fun _ _ _ h => h) (Or.inl ⟨by rfl, ?_⟩) ?_; rotate_left; decide +kernel; decide +kernel; focus (intro w; go_simp; first | done | with_reducible rfl)); (refine wpAny_take (i := 7) (v := ?_) rfl (by kernel_rfl) ?_ ?_ (fun _ _ _ h => h) (Or.inl ⟨by rfl, ?_⟩) ?_; rotate_left; decide +kernel; decide +kernel; focus (intro w; go_simp; first | done | with_reducible rfl)); (refine wpAny_take (i := 11) (v := ?_) rfl (by kernel_rfl) ?_ ?_ (fun _ _ _ h => h) (Or.inl ⟨by rfl, ?_⟩) ?_; rotate_left; decide +kernel; decide +kernel; focus (intro w; go_simp; first | done | with_reducible rfl)); (refine wpAny_take (i := 12) (v := ?_) rfl (by kernel_rfl) ?_ ?_ (fun _ _ _ h => h) (Or.inl ⟨by rfl, ?_⟩) ?_; rotate_left; decide +kernel; decide +kernel; focus (intro w; go_simp; first | done | with_reducible rfl)); (refine wpAny_take (i := 13) (v := ?_) rfl (by kernel_rfl) ?_ ?_ (fun _ _ _ h => h) (Or.inl ⟨by rfl, ?_⟩) ?_; rotate_left; decide +kernel; decide +kernel; focus (intro w; go_simp; first | done | with_reducible rfl)))
            refine wpAny_ready (rs := [0, 8]) ?_ (by simp) ?_; decide +kernel
            refine AllReady.cons rfl (fun K hK => ?_) ?_
            · (go_simp; refine hK _ _ ?_; clear hK K)
              have ba : Below W0.heap.size W0 (W0.alloc (.cells #[] 57)) := below_alloc1 _ _
              have OWN := Lib.hid (owns_base (owns_empty W0 57 3) bW0.out.size)
              have bX1 := Lib.hid (belTrans bW0.out ba)
              clear ba
              generalize W0.alloc (.cells #[] 57) = X1 at *
              refine wpAny_ready (rs := [4, 8]) ?_ (by simp) ?_; decide +kernel
              refine AllReady.cons rfl (fun K hK => ?_) ?_
              · skip
                refine step_append_rd rfl (.tmp 46) (.tmp 49) 47 rfl W0.heap.size 57 i1 (.agg #[.int .i64 0, .int .i64 0, .int .i64 0]) 3 24 Try.underlying47 hi1 hz01 hz11 hz21 rfl (by decide) _ _ _ (by rfl) OWN.out _ _ (by rfl) (TK.out.below bX1.out) (bagRows_one _) (by unfold maxLen; omega) (by omega) bX1.out.size ?_
                intro V X2 own hg
                refine hK _ _ ?_
                clear hK K
                have bX2 := Lib.hid (bX1.out.trans (grown_below (B := W0.heap.size) hg bX1.out.size (fun j e => (OWN.out.lt j e).1)))
                replace OWN := Lib.hid own
                clear own hg
                refine wpAny_ready (rs := [8]) ?_ (by simp) ?_; decide +kernel
                refine AllReady.cons rfl (fun K hK => ?_) ?_
                · have k1 := keep bX2.out g1
                  have k2 := keep bX2.out g2
                  have k3 := keep bX2.out g3
                  (go_simp; refine hK _ _ ?_; clear hK K)
                  clear k1 k2 k3
                  refine wpAny_ready (rs := [9]) ?_ (by simp) ?_; decide +kernel
                  refine AllReady.cons rfl (fun K hK => ?_) ?_
                  · (go_simp; refine hK _ _ ?_; clear hK K)
                    have ba : Below X2.heap.size X2 (X2.alloc (.cells #[.int .i64 lo, .int .i64 hi', .int .i64 kd] 57)) := below_alloc1 _ _
                    have SL := Lib.hid (rd_bag X2 lo hi' kd)
                    have SLT := Lib.hid (show X2.heap.size < (X2.alloc (.cells #[.int .i64 lo, .int .i64 hi', .int .i64 kd] 57)).heap.size by simp)
                    have NE : Hid (some X2.heap.size ≠ _) := Lib.hid (owns_far OWN.out (Nat.le_refl _))
                    replace OWN := Lib.hid (OWN.out.alloc (.cells #[.int .i64 lo, .int .i64 hi', .int .i64 kd] 57))
                    have bX3 := Lib.hid (belTrans bX2.out ba)
                    clear ba
                    generalize X2.alloc (.cells #[.int .i64 lo, .int .i64 hi', .int .i64 kd] 57) = X3 at *
                    refine wpAny_ready (rs := [10]) ?_ (by simp) ?_; decide +kernel
                    refine AllReady.cons rfl (fun K hK => ?_) ?_
                    · skip
                      refine step_append_rd rfl (.tmp 50) (.tmp 55) 47 rfl W0.heap.size 57 i1 (.agg #[.int .i64 0, .int .i64 0, .int .i64 0]) 3 24 Try.underlying47 hi1 hz01 hz11 hz21 rfl (by decide) _ _ _ (by rfl) OWN.out _ _ (by rfl) SL.out (bagRows_one _) (by unfold maxLen; omega) (by omega) bX3.out.size ?_
                      intro V X4 own hg
                      refine hK _ _ ?_
                      clear hK K
                      have bX4 := Lib.hid (bX3.out.trans (grown_below (B := W0.heap.size) hg bX3.out.size (fun j e => (OWN.out.lt j e).1)))
                      replace OWN := Lib.hid own
                      clear own hg SL SLT
                      refine wpAny_ready (rs := [14]) ?_ (by simp) ?_; decide +kernel
                      refine AllReady.cons rfl (fun K hK => ?_) ?_
                      · skip
                        refine step_append_rd rfl (.tmp 56) (.tmp 59) 47 rfl W0.heap.size 57 i1 (.agg #[.int .i64 0, .int .i64 0, .int .i64 0]) 3 24 Try.underlying47 hi1 hz01 hz11 hz21 rfl (by decide) _ _ _ (by rfl) OWN.out _ _ (by rfl) (DR.out.below bX4.out) (bagRows_one _) (by unfold maxLen; omega) (by omega) bX4.out.size ?_
                        intro V X5 own hg
                        refine hK _ _ ?_
                        clear hK K
                        have bX5 := Lib.hid (bX4.out.trans (grown_below (B := W0.heap.size) hg bX4.out.size (fun j e => (OWN.out.lt j e).1)))
                        replace OWN := Lib.hid own
                        clear own hg
                        ((refine wpAny_take (i := 15) (v := ?_) rfl (by kernel_rfl) ?_ ?_ (fun _ _ _ h => h) (Or.inl ⟨by rfl, ?_⟩) ?_; rotate_left; decide +kernel; decide +kernel; focus (intro w; go_simp; first | done | with_reducible rfl)))
                        refine wpAny_done ?_ ?_ _; decide +kernel
                        have hrd := fin_rd OWN.out
                        have hbl := BW0.out.trans (bX5.out.mono BW0.out.size)
                        clear OWN
                        go_wp2_with fail
                        all_goals go_roundw
                        case rel => exact ⟨xc + 1, _, by omega, by go_num, fun h => absurd h (by omega), hrd, Lib.hid (HP2.out xc), hbl⟩
                        case measure => simp [intOf]; omega
                      exact AllReady.nil
                    exact AllReady.nil
                  exact AllReady.nil
                exact AllReady.nil
              refine AllReady.cons rfl (fun K hK => ?_) ?_
              · have k1 := keep bX1.out g1
                have k2 := keep bX1.out g2
                have k3 := keep bX1.out g3
                (go_simp; refine hK _ _ ?_; clear hK K)
                clear k1 k2 k3
                refine wpAny_ready (rs := [4, 9]) ?_ (by simp) ?_; decide +kernel
                refine AllReady.cons rfl (fun K hK => ?_) ?_
                · skip
                  refine step_append_rd rfl (.tmp 46) (.tmp 49) 47 rfl W0.heap.size 57 i1 (.agg #[.int .i64 0, .int .i64 0, .int .i64 0]) 3 24 Try.underlying47 hi1 hz01 hz11 hz21 rfl (by decide) _ _ _ (by rfl) OWN.out _ _ (by rfl) (TK.out.below bX1.out) (bagRows_one _) (by unfold maxLen; omega) (by omega) bX1.out.size ?_
                  intro V X6 own hg
                  refine hK _ _ ?_
                  clear hK K
                  have bX6 := Lib.hid (bX1.out.trans (grown_below (B := W0.heap.size) hg bX1.out.size (fun j e => (OWN.out.lt j e).1)))
                  replace OWN := Lib.hid own
                  clear own hg
                  refine wpAny_ready (rs := [9]) ?_ (by simp) ?_; decide +kernel
                  refine AllReady.cons rfl (fun K hK => ?_) ?_
                  · (go_simp; refine hK _ _ ?_; clear hK K)
                    have ba : Below X6.heap.size X6 (X6.alloc (.cells #[.int .i64 lo, .int .i64 hi', .int .i64 kd] 57)) := below_alloc1 _ _
                    have SL := Lib.hid (rd_bag X6 lo hi' kd)
                    have SLT := Lib.hid (show X6.heap.size < (X6.alloc (.cells #[.int .i64 lo, .int .i64 hi', .int .i64 kd] 57)).heap.size by simp)
                    have NE : Hid (some X6.heap.size ≠ _) := Lib.hid (owns_far OWN.out (Nat.le_refl _))
                    replace OWN := Lib.hid (OWN.out.alloc (.cells #[.int .i64 lo, .int .i64 hi', .int .i64 kd] 57))
                    have bX7 := Lib.hid (belTrans bX6.out ba)
                    clear ba
                    generalize X6.alloc (.cells #[.int .i64 lo, .int .i64 hi', .int .i64 kd] 57) = X7 at *
                    refine wpAny_ready (rs := [10]) ?_ (by simp) ?_; decide +kernel
                    refine AllReady.cons rfl (fun K hK => ?_) ?_
                    · skip
                      refine step_append_rd rfl (.tmp 50) (.tmp 55) 47 rfl W0.heap.size 57 i1 (.agg #[.int .i64 0, .int .i64 0, .int .i64 0]) 3 24 Try.underlying47 hi1 hz01 hz11 hz21 rfl (by decide) _ _ _ (by rfl) OWN.out _ _ (by rfl) SL.out (bagRows_one _) (by unfold maxLen; omega) (by omega) bX7.out.size ?_
                      intro V X8 own hg
                      refine hK _ _ ?_
                      clear hK K
                      have bX8 := Lib.hid (bX7.out.trans (grown_below (B := W0.heap.size) hg bX7.out.size (fun j e => (OWN.out.lt j e).1)))
                      replace OWN := Lib.hid own
                      clear own hg SL SLT
                      refine wpAny_ready (rs := [14]) ?_ (by simp) ?_; decide +kernel
                      refine AllReady.cons rfl (fun K hK => ?_) ?_
                      · skip
                        refine step_append_rd rfl (.tmp 56) (.tmp 59) 47 rfl W0.heap.size 57 i1 (.agg #[.int .i64 0, .int .i64 0, .int .i64 0]) 3 24 Try.underlying47 hi1 hz01 hz11 hz21 rfl (by decide) _ _ _ (by rfl) OWN.out _ _ (by rfl) (DR.out.below bX8.out) (bagRows_one _) (by unfold maxLen; omega) (by omega) bX8.out.size ?_
                        intro V X9 own hg
                        refine hK _ _ ?_
                        clear hK K
                        have bX9 := Lib.hid (bX8.out.trans (grown_below (B := W0.heap.size) hg bX8.out.size (fun j e => (OWN.out.lt j e).1)))
                        replace OWN := Lib.hid own
                        clear own hg
                        ((refine wpAny_take (i := 15) (v := ?_) rfl (by kernel_rfl) ?_ ?_ (fun _ _ _ h => h) (Or.inl ⟨by rfl, ?_⟩) ?_; rotate_left; decide +kernel; decide +kernel; focus (intro w; go_simp; first | done | with_reducible rfl)))
                        refine wpAny_done ?_ ?_ _; decide +kernel
                        have hrd := fin_rd OWN.out
                        have hbl := BW0.out.trans (bX9.out.mono BW0.out.size)
                        clear OWN
                        go_wp2_with fail
                        all_goals go_roundw
                        case rel => exact ⟨xc + 1, _, by omega, by go_num, fun h => absurd h (by omega), hrd, Lib.hid (HP2.out xc), hbl⟩
                        case measure => simp [intOf]; omega
                      exact AllReady.nil
                    exact AllReady.nil
                  exact AllReady.nil
                refine AllReady.cons rfl (fun K hK => ?_) ?_
                · (go_simp; refine hK _ _ ?_; clear hK K)
                  have ba : Below X1.heap.size X1 (X1.alloc (.cells #[.int .i64 lo, .int .i64 hi', .int .i64 kd] 57)) := below_alloc1 _ _
                  have SL := Lib.hid (rd_bag X1 lo hi' kd)
                  have SLT := Lib.hid (show X1.heap.size < (X1.alloc (.cells #[.int .i64 lo, .int .i64 hi', .int .i64 kd] 57)).heap.size by simp)
                  have NE : Hid (some X1.heap.size ≠ _) := Lib.hid (owns_far OWN.out (Nat.le_refl _))
                  replace OWN := Lib.hid (OWN.out.alloc (.cells #[.int .i64 lo, .int .i64 hi', .int .i64 kd] 57))
                  have bX10 := Lib.hid (belTrans bX1.out ba)
                  clear ba
                  generalize X1.alloc (.cells #[.int .i64 lo, .int .i64 hi', .int .i64 kd] 57) = X10 at *
                  refine wpAny_ready (rs := [4]) ?_ (by simp) ?_; decide +kernel
                  refine AllReady.cons rfl (fun K hK => ?_) ?_
                  · skip
                    refine step_append_rd rfl (.tmp 46) (.tmp 49) 47 rfl W0.heap.size 57 i1 (.agg #[.int .i64 0, .int .i64 0, .int .i64 0]) 3 24 Try.underlying47 hi1 hz01 hz11 hz21 rfl (by decide) _ _ _ (by rfl) OWN.out _ _ (by rfl) (TK.out.below bX10.out) (bagRows_one _) (by unfold maxLen; omega) (by omega) bX10.out.size ?_
                    intro V X11 own hg
                    refine hK _ _ ?_
                    clear hK K
                    have bX11 := Lib.hid (bX10.out.trans (grown_below (B := W0.heap.size) hg bX10.out.size (fun j e => (OWN.out.lt j e).1)))
                    replace SL := Lib.hid (SL.out.grown hg NE.out SLT.out)
                    replace SLT := Lib.hid (Nat.lt_of_lt_of_le SLT.out hg.size)
                    replace OWN := Lib.hid own
                    clear own hg
                    refine wpAny_ready (rs := [10]) ?_ (by simp) ?_; decide +kernel
                    refine AllReady.cons rfl (fun K hK => ?_) ?_
                    · skip
                      refine step_append_rd rfl (.tmp 50) (.tmp 55) 47 rfl W0.heap.size 57 i1 (.agg #[.int .i64 0, .int .i64 0, .int .i64 0]) 3 24 Try.underlying47 hi1 hz01 hz11 hz21 rfl (by decide) _ _ _ (by rfl) OWN.out _ _ (by rfl) SL.out (bagRows_one _) (by unfold maxLen; omega) (by omega) bX11.out.size ?_
                      intro V X12 own hg
                      refine hK _ _ ?_
                      clear hK K
                      have bX12 := Lib.hid (bX11.out.trans (grown_below (B := W0.heap.size) hg bX11.out.size (fun j e => (OWN.out.lt j e).1)))
                      replace OWN := Lib.hid own
                      clear own hg SL SLT
                      refine wpAny_ready (rs := [14]) ?_ (by simp) ?_; decide +kernel
                      refine AllReady.cons rfl (fun K hK => ?_) ?_
                      · skip
                        refine step_append_rd rfl (.tmp 56) (.tmp 59) 47 rfl W0.heap.size 57 i1 (.agg #[.int .i64 0, .int .i64 0, .int .i64 0]) 3 24 Try.underlying47 hi1 hz01 hz11 hz21 rfl (by decide) _ _ _ (by rfl) OWN.out _ _ (by rfl) (DR.out.below bX12.out) (bagRows_one _) (by unfold maxLen; omega) (by omega) bX12.out.size ?_
                        intro V X13 own hg
                        refine hK _ _ ?_
                        clear hK K
                        have bX13 := Lib.hid (bX12.out.trans (grown_below (B := W0.heap.size) hg bX12.out.size (fun j e => (OWN.out.lt j e).1)))
                        replace OWN := Lib.hid own
                        clear own hg
                        ((refine wpAny_take (i := 15) (v := ?_) rfl (by kernel_rfl) ?_ ?_ (fun _ _ _ h => h) (Or.inl ⟨by rfl, ?_⟩) ?_; rotate_left; decide +kernel; decide +kernel; focus (intro w; go_simp; first | done | with_reducible rfl)))
                        refine wpAny_done ?_ ?_ _; decide +kernel
                        have hrd := fin_rd OWN.out
                        have hbl := BW0.out.trans (bX13.out.mono BW0.out.size)
                        clear OWN
                        go_wp2_with fail
                        all_goals go_roundw
                        case rel => exact ⟨xc + 1, _, by omega, by go_num, fun h => absurd h (by omega), hrd, Lib.hid (HP2.out xc), hbl⟩
                        case measure => simp [intOf]; omega
                      exact AllReady.nil
                    exact AllReady.nil
                  exact AllReady.nil
                exact AllReady.nil
              exact AllReady.nil
            refine AllReady.cons rfl (fun K hK => ?_) ?_
            · have k1 := keep bW0.out g1
              have k2 := keep bW0.out g2
              have k3 := keep bW0.out g3
              (go_simp; refine hK _ _ ?_; clear hK K)
              clear k1 k2 k3
              refine wpAny_ready (rs := [0, 9]) ?_ (by simp) ?_; decide +kernel
              refine AllReady.cons rfl (fun K hK => ?_) ?_
              · (go_simp; refine hK _ _ ?_; clear hK K)
                have ba : Below W0.heap.size W0 (W0.alloc (.cells #[] 57)) := below_alloc1 _ _
                have OWN := Lib.hid (owns_base (owns_empty W0 57 3) bW0.out.size)
                have bX14 := Lib.hid (belTrans bW0.out ba)
                clear ba
                generalize W0.alloc (.cells #[] 57) = X14 at *
                refine wpAny_ready (rs := [4, 9]) ?_ (by simp) ?_; decide +kernel
                refine AllReady.cons rfl (fun K hK => ?_) ?_
                · skip
                  refine step_append_rd rfl (.tmp 46) (.tmp 49) 47 rfl W0.heap.size 57 i1 (.agg #[.int .i64 0, .int .i64 0, .int .i64 0]) 3 24 Try.underlying47 hi1 hz01 hz11 hz21 rfl (by decide) _ _ _ (by rfl) OWN.out _ _ (by rfl) (TK.out.below bX14.out) (bagRows_one _) (by unfold maxLen; omega) (by omega) bX14.out.size ?_
                  intro V X15 own hg
                  refine hK _ _ ?_
                  clear hK K
                  have bX15 := Lib.hid (bX14.out.trans (grown_below (B := W0.heap.size) hg bX14.out.size (fun j e => (OWN.out.lt j e).1)))
                  replace OWN := Lib.hid own
                  clear own hg
                  refine wpAny_ready (rs := [9]) ?_ (by simp) ?_; decide +kernel
                  refine AllReady.cons rfl (fun K hK => ?_) ?_
                  · (go_simp; refine hK _ _ ?_; clear hK K)
                    have ba : Below X15.heap.size X15 (X15.alloc (.cells #[.int .i64 lo, .int .i64 hi', .int .i64 kd] 57)) := below_alloc1 _ _
                    have SL := Lib.hid (rd_bag X15 lo hi' kd)
                    have SLT := Lib.hid (show X15.heap.size < (X15.alloc (.cells #[.int .i64 lo, .int .i64 hi', .int .i64 kd] 57)).heap.size by simp)
                    have NE : Hid (some X15.heap.size ≠ _) := Lib.hid (owns_far OWN.out (Nat.le_refl _))
                    replace OWN := Lib.hid (OWN.out.alloc (.cells #[.int .i64 lo, .int .i64 hi', .int .i64 kd] 57))
                    have bX16 := Lib.hid (belTrans bX15.out ba)
                    clear ba
                    generalize X15.alloc (.cells #[.int .i64 lo, .int .i64 hi', .int .i64 kd] 57) = X16 at *
                    refine wpAny_ready (rs := [10]) ?_ (by simp) ?_; decide +kernel
                    refine AllReady.cons rfl (fun K hK => ?_) ?_
                    · skip
                      refine step_append_rd rfl (.tmp 50) (.tmp 55) 47 rfl W0.heap.size 57 i1 (.agg #[.int .i64 0, .int .i64 0, .int .i64 0]) 3 24 Try.underlying47 hi1 hz01 hz11 hz21 rfl (by decide) _ _ _ (by rfl) OWN.out _ _ (by rfl) SL.out (bagRows_one _) (by unfold maxLen; omega) (by omega) bX16.out.size ?_
                      intro V X17 own hg
                      refine hK _ _ ?_
                      clear hK K
                      have bX17 := Lib.hid (bX16.out.trans (grown_below (B := W0.heap.size) hg bX16.out.size (fun j e => (OWN.out.lt j e).1)))
                      replace OWN := Lib.hid own
                      clear own hg SL SLT
                      refine wpAny_ready (rs := [14]) ?_ (by simp) ?_; decide +kernel
                      refine AllReady.cons rfl (fun K hK => ?_) ?_
                      · skip
                        refine step_append_rd rfl (.tmp 56) (.tmp 59) 47 rfl W0.heap.size 57 i1 (.agg #[.int .i64 0, .int .i64 0, .int .i64 0]) 3 24 Try.underlying47 hi1 hz01 hz11 hz21 rfl (by decide) _ _ _ (by rfl) OWN.out _ _ (by rfl) (DR.out.below bX17.out) (bagRows_one _) (by unfold maxLen; omega) (by omega) bX17.out.size ?_
                        intro V X18 own hg
                        refine hK _ _ ?_
                        clear hK K
                        have bX18 := Lib.hid (bX17.out.trans (grown_below (B := W0.heap.size) hg bX17.out.size (fun j e => (OWN.out.lt j e).1)))
                        replace OWN := Lib.hid own
                        clear own hg
                        ((refine wpAny_take (i := 15) (v := ?_) rfl (by kernel_rfl) ?_ ?_ (fun _ _ _ h => h) (Or.inl ⟨by rfl, ?_⟩) ?_; rotate_left; decide +kernel; decide +kernel; focus (intro w; go_simp; first | done | with_reducible rfl)))
                        refine wpAny_done ?_ ?_ _; decide +kernel
                        have hrd := fin_rd OWN.out
                        have hbl := BW0.out.trans (bX18.out.mono BW0.out.size)
                        clear OWN
                        go_wp2_with fail
                        all_goals go_roundw
                        case rel => exact ⟨xc + 1, _, by omega, by go_num, fun h => absurd h (by omega), hrd, Lib.hid (HP2.out xc), hbl⟩
                        case measure => simp [intOf]; omega
                      exact AllReady.nil
                    exact AllReady.nil
                  exact AllReady.nil
                refine AllReady.cons rfl (fun K hK => ?_) ?_
                · (go_simp; refine hK _ _ ?_; clear hK K)
                  have ba : Below X14.heap.size X14 (X14.alloc (.cells #[.int .i64 lo, .int .i64 hi', .int .i64 kd] 57)) := below_alloc1 _ _
                  have SL := Lib.hid (rd_bag X14 lo hi' kd)
                  have SLT := Lib.hid (show X14.heap.size < (X14.alloc (.cells #[.int .i64 lo, .int .i64 hi', .int .i64 kd] 57)).heap.size by simp)
                  have NE : Hid (some X14.heap.size ≠ _) := Lib.hid (owns_far OWN.out (Nat.le_refl _))
                  replace OWN := Lib.hid (OWN.out.alloc (.cells #[.int .i64 lo, .int .i64 hi', .int .i64 kd] 57))
                  have bX19 := Lib.hid (belTrans bX14.out ba)
                  clear ba
                  generalize X14.alloc (.cells #[.int .i64 lo, .int .i64 hi', .int .i64 kd] 57) = X19 at *
                  refine wpAny_ready (rs := [4]) ?_ (by simp) ?_; decide +kernel
                  refine AllReady.cons rfl (fun K hK => ?_) ?_
                  · skip
                    refine step_append_rd rfl (.tmp 46) (.tmp 49) 47 rfl W0.heap.size 57 i1 (.agg #[.int .i64 0, .int .i64 0, .int .i64 0]) 3 24 Try.underlying47 hi1 hz01 hz11 hz21 rfl (by decide) _ _ _ (by rfl) OWN.out _ _ (by rfl) (TK.out.below bX19.out) (bagRows_one _) (by unfold maxLen; omega) (by omega) bX19.out.size ?_
                    intro V X20 own hg
                    refine hK _ _ ?_
                    clear hK K
                    have bX20 := Lib.hid (bX19.out.trans (grown_below (B := W0.heap.size) hg bX19.out.size (fun j e => (OWN.out.lt j e).1)))
                    replace SL := Lib.hid (SL.out.grown hg NE.out SLT.out)
                    replace SLT := Lib.hid (Nat.lt_of_lt_of_le SLT.out hg.size)
                    replace OWN := Lib.hid own
                    clear own hg
                    refine wpAny_ready (rs := [10]) ?_ (by simp) ?_; decide +kernel
                    refine AllReady.cons rfl (fun K hK => ?_) ?_
                    · skip
                      refine step_append_rd rfl (.tmp 50) (.tmp 55) 47 rfl W0.heap.size 57 i1 (.agg #[.int .i64 0, .int .i64 0, .int .i64 0]) 3 24 Try.underlying47 hi1 hz01 hz11 hz21 rfl (by decide) _ _ _ (by rfl) OWN.out _ _ (by rfl) SL.out (bagRows_one _) (by unfold maxLen; omega) (by omega) bX20.out.size ?_
                      intro V X21 own hg
                      refine hK _ _ ?_
                      clear hK K
                      have bX21 := Lib.hid (bX20.out.trans (grown_below (B := W0.heap.size) hg bX20.out.size (fun j e => (OWN.out.lt j e).1)))
                      replace OWN := Lib.hid own
                      clear own hg SL SLT
                      refine wpAny_ready (rs := [14]) ?_ (by simp) ?_; decide +kernel
                      refine AllReady.cons rfl (fun K hK => ?_) ?_
                      · skip
                        refine step_append_rd rfl (.tmp 56) (.tmp 59) 47 rfl W0.heap.size 57 i1 (.agg #[.int .i64 0, .int .i64 0, .int .i64 0]) 3 24 Try.underlying47 hi1 hz01 hz11 hz21 rfl (by decide) _ _ _ (by rfl) OWN.out _ _ (by rfl) (DR.out.below bX21.out) (bagRows_one _) (by unfold maxLen; omega) (by omega) bX21.out.size ?_
                        intro V X22 own hg
                        refine hK _ _ ?_
                        clear hK K
                        have bX22 := Lib.hid (bX21.out.trans (grown_below (B := W0.heap.size) hg bX21.out.size (fun j e => (OWN.out.lt j e).1)))
                        replace OWN := Lib.hid own
                        clear own hg
                        ((refine wpAny_take (i := 15) (v := ?_) rfl (by kernel_rfl) ?_ ?_ (fun _ _ _ h => h) (Or.inl ⟨by rfl, ?_⟩) ?_; rotate_left; decide +kernel; decide +kernel; focus (intro w; go_simp; first | done | with_reducible rfl)))
                        refine wpAny_done ?_ ?_ _; decide +kernel
                        have hrd := fin_rd OWN.out
                        have hbl := BW0.out.trans (bX22.out.mono BW0.out.size)
                        clear OWN
                        go_wp2_with fail
                        all_goals go_roundw
                        case rel => exact ⟨xc + 1, _, by omega, by go_num, fun h => absurd h (by omega), hrd, Lib.hid (HP2.out xc), hbl⟩
                        case measure => simp [intOf]; omega
                      exact AllReady.nil
                    exact AllReady.nil
                  exact AllReady.nil
                exact AllReady.nil
              refine AllReady.cons rfl (fun K hK => ?_) ?_
              · (go_simp; refine hK _ _ ?_; clear hK K)
                have ba : Below W0.heap.size W0 (W0.alloc (.cells #[.int .i64 lo, .int .i64 hi', .int .i64 kd] 57)) := below_alloc1 _ _
                have SL := Lib.hid (rd_bag W0 lo hi' kd)
                have SLT := Lib.hid (show W0.heap.size < (W0.alloc (.cells #[.int .i64 lo, .int .i64 hi', .int .i64 kd] 57)).heap.size by simp)
                have bX23 := Lib.hid (belTrans bW0.out ba)
                clear ba
                generalize W0.alloc (.cells #[.int .i64 lo, .int .i64 hi', .int .i64 kd] 57) = X23 at *
                refine wpAny_ready (rs := [0]) ?_ (by simp) ?_; decide +kernel
                refine AllReady.cons rfl (fun K hK => ?_) ?_
                · (go_simp; refine hK _ _ ?_; clear hK K)
                  have ba : Below X23.heap.size X23 (X23.alloc (.cells #[] 57)) := below_alloc1 _ _
                  have OWN := Lib.hid (owns_base (owns_empty X23 57 3) bX23.out.size)
                  have NE : Hid (some (W0.heap.size) ≠ some X23.heap.size) := Lib.hid (by have := SLT.out; simp; omega)
                  replace SL := Lib.hid (SL.out.below ba)
                  replace SLT := Lib.hid (Nat.lt_of_lt_of_le SLT.out ba.size)
                  have bX24 := Lib.hid (belTrans bX23.out ba)
                  clear ba
                  generalize X23.alloc (.cells #[] 57) = X24 at *
                  refine wpAny_ready (rs := [4]) ?_ (by simp) ?_; decide +kernel
                  refine AllReady.cons rfl (fun K hK => ?_) ?_
                  · skip
                    refine step_append_rd rfl (.tmp 46) (.tmp 49) 47 rfl W0.heap.size 57 i1 (.agg #[.int .i64 0, .int .i64 0, .int .i64 0]) 3 24 Try.underlying47 hi1 hz01 hz11 hz21 rfl (by decide) _ _ _ (by rfl) OWN.out _ _ (by rfl) (TK.out.below bX24.out) (bagRows_one _) (by unfold maxLen; omega) (by omega) bX24.out.size ?_
                    intro V X25 own hg
                    refine hK _ _ ?_
                    clear hK K
                    have bX25 := Lib.hid (bX24.out.trans (grown_below (B := W0.heap.size) hg bX24.out.size (fun j e => (OWN.out.lt j e).1)))
                    replace SL := Lib.hid (SL.out.grown hg NE.out SLT.out)
                    replace SLT := Lib.hid (Nat.lt_of_lt_of_le SLT.out hg.size)
                    replace OWN := Lib.hid own
                    clear own hg
                    refine wpAny_ready (rs := [10]) ?_ (by simp) ?_; decide +kernel
                    refine AllReady.cons rfl (fun K hK => ?_) ?_
                    · skip
                      refine step_append_rd rfl (.tmp 50) (.tmp 55) 47 rfl W0.heap.size 57 i1 (.agg #[.int .i64 0, .int .i64 0, .int .i64 0]) 3 24 Try.underlying47 hi1 hz01 hz11 hz21 rfl (by decide) _ _ _ (by rfl) OWN.out _ _ (by rfl) SL.out (bagRows_one _) (by unfold maxLen; omega) (by omega) bX25.out.size ?_
                      intro V X26 own hg
                      refine hK _ _ ?_
                      clear hK K
                      have bX26 := Lib.hid (bX25.out.trans (grown_below (B := W0.heap.size) hg bX25.out.size (fun j e => (OWN.out.lt j e).1)))
                      replace OWN := Lib.hid own
                      clear own hg SL SLT
                      refine wpAny_ready (rs := [14]) ?_ (by simp) ?_; decide +kernel
                      refine AllReady.cons rfl (fun K hK => ?_) ?_
                      · skip
                        refine step_append_rd rfl (.tmp 56) (.tmp 59) 47 rfl W0.heap.size 57 i1 (.agg #[.int .i64 0, .int .i64 0, .int .i64 0]) 3 24 Try.underlying47 hi1 hz01 hz11 hz21 rfl (by decide) _ _ _ (by rfl) OWN.out _ _ (by rfl) (DR.out.below bX26.out) (bagRows_one _) (by unfold maxLen; omega) (by omega) bX26.out.size ?_
                        intro V X27 own hg
                        refine hK _ _ ?_
                        clear hK K
                        have bX27 := Lib.hid (bX26.out.trans (grown_below (B := W0.heap.size) hg bX26.out.size (fun j e => (OWN.out.lt j e).1)))
                        replace OWN := Lib.hid own
                        clear own hg
                        ((refine wpAny_take (i := 15) (v := ?_) rfl (by kernel_rfl) ?_ ?_ (fun _ _ _ h => h) (Or.inl ⟨by rfl, ?_⟩) ?_; rotate_left; decide +kernel; decide +kernel; focus (intro w; go_simp; first | done | with_reducible rfl)))
                        refine wpAny_done ?_ ?_ _; decide +kernel
                        have hrd := fin_rd OWN.out
                        have hbl := BW0.out.trans (bX27.out.mono BW0.out.size)
                        clear OWN
                        go_wp2_with fail
                        all_goals go_roundw
                        case rel => exact ⟨xc + 1, _, by omega, by go_num, fun h => absurd h (by omega), hrd, Lib.hid (HP2.out xc), hbl⟩
                        case measure => simp [intOf]; omega
                      exact AllReady.nil
                    exact AllReady.nil
                  exact AllReady.nil
                exact AllReady.nil
              exact AllReady.nil
            exact AllReady.nil
          · have a1 : (at' : Int) ≤ k := by omega
            have a2 : (k : Int) ≤ xc := by omega
            have a3 : (at' : Int) ≤ xc := by omega
            refine wp_region_k (by kernel_rfl) 16 rfl ?_
            obtain ⟨W0, hW0⟩ : ∃ W0, w3.drew = W0 := ⟨_, rfl⟩
            have bd : Below w3.heap.size w3 W0 := by rw [← hW0]; exact Below.drew (Below.refl _ _)
            rw [hW0]
            clear hW0
            replace g1 := keep bd g1
            replace g2 := keep bd g2
            replace g3 := keep bd g3
            have BW0 := Lib.hid (belTrans BW3.out bd)
            have bW0 := Lib.hid (Below.refl W0.heap.size W0)
            have et : (bagRows cs).take at' = bagRows (cs.take at') := by rw [bagRows, bagRows, List.map_take]
            have ed : (bagRows cs).drop at' = bagRows (cs.drop at') := by rw [bagRows, bagRows, List.map_drop]
            have TK := Lib.hid ((HX.out.below bd).take at' (by rw [bagRows, List.length_map, HPL.out]; exact hat2))
            have DR := Lib.hid ((HX.out.below bd).drop at' (by rw [bagRows, List.length_map, HPL.out]; exact hat2))
            rw [et] at TK
            rw [ed] at DR
            clear bd HX BW3 et ed
            ((refine wpAny_take (i := 1) (v := ?_) rfl (by kernel_rfl) ?_ ?_ (fun _ _ _ h => h) (Or.inl ⟨by rfl, ?_⟩) ?_; rotate_left; decide +kernel; decide +kernel; focus (intro w; go_simp; first | done | with_reducible rfl)); (refine wpAny_take (i := 2) (v := ?_) rfl (by kernel_rfl) ?_ ?_ (fun _ _ _ h => h) (Or.inl ⟨by rfl, ?_⟩) ?_; rotate_left; decide +kernel; decide +kernel; focus (intro w; go_simp; first | done | with_reducible rfl)); (refine wpAny_take (i := 3) (v := ?_) rfl (by kernel_rfl) ?_ ?_ (fun _ _ _ h => h) (Or.inl ⟨by rfl, ?_⟩) ?_; rotate_left; decide +kernel; decide +kernel; focus (intro w; go_simp; first | done | with_reducible rfl)); (refine wpAny_take (i := 5) (v := ?_) rfl (by kernel_rfl) ?_ ?_ (fun _ _ _ h => h) (Or.inl ⟨by rfl, ?_⟩) ?_; rotate_left; decide +kernel; decide +kernel; focus (intro w; go_simp; first | done | with_reducible rfl)); (refine wpAny_take (i := 6) (v := ?_) rfl (by kernel_rfl) ?_ ?_ (fun _ _ _ h => h) (Or.inl ⟨by rfl, ?_⟩) ?_; rotate_left; decide +kernel; decide +kernel; focus (intro w; go_simp; first | done | with_reducible rfl)); (refine wpAny_take (i := 7) (v := ?_) rfl (by kernel_rfl) ?_ ?_ (fun _ _ _ h => h) (Or.inl ⟨by rfl, ?_⟩) ?_; rotate_left; decide +kernel; decide +kernel; focus (intro w; go_simp; first | done | with_reducible rfl)); (refine wpAny_take (i := 11) (v := ?_) rfl (by kernel_rfl) ?_ ?_ (fun _ _ _ h => h) (Or.inl ⟨by rfl, ?_⟩) ?_; rotate_left; decide +kernel; decide +kernel; focus (intro w; go_simp; first | done | with_reducible rfl)); (refine wpAny_take (i := 12) (v := ?_) rfl (by kernel_rfl) ?_ ?_ (fun _ _ _ h => h) (Or.inl ⟨by rfl, ?_⟩) ?_; rotate_left; decide +kernel; decide +kernel; focus (intro w; go_simp; first | done | with_reducible rfl)); (refine wpAny_take (i := 13) (v := ?_) rfl (by kernel_rfl) ?_ ?_ (fun _ _ _ h => h) (Or.inl ⟨by rfl, ?_⟩) ?_; rotate_left; decide +kernel; decide +kernel; focus (intro w; go_simp; first | done | with_reducible rfl)))
            refine wpAny_ready (rs := [0, 8]) ?_ (by simp) ?_; decide +kernel
            refine AllReady.cons rfl (fun K hK => ?_) ?_
            · (go_simp; refine hK _ _ ?_; clear hK K)
              have ba : Below W0.heap.size W0 (W0.alloc (.cells #[] 57)) := below_alloc1 _ _
              have OWN := Lib.hid (owns_base (owns_empty W0 57 3) bW0.out.size)
              have bX1 := Lib.hid (belTrans bW0.out ba)
              clear ba
              generalize W0.alloc (.cells #[] 57) = X1 at *
              refine wpAny_ready (rs := [4, 8]) ?_ (by simp) ?_; decide +kernel
              refine AllReady.cons rfl (fun K hK => ?_) ?_
              · skip
                refine step_append_rd rfl (.tmp 46) (.tmp 49) 47 rfl W0.heap.size 57 i1 (.agg #[.int .i64 0, .int .i64 0, .int .i64 0]) 3 24 Try.underlying47 hi1 hz01 hz11 hz21 rfl (by decide) _ _ _ (by rfl) OWN.out _ _ (by rfl) (TK.out.below bX1.out) (bagRows_one _) (by unfold maxLen; omega) (by omega) bX1.out.size ?_
                intro V X2 own hg
                refine hK _ _ ?_
                clear hK K
                have bX2 := Lib.hid (bX1.out.trans (grown_below (B := W0.heap.size) hg bX1.out.size (fun j e => (OWN.out.lt j e).1)))
                replace OWN := Lib.hid own
                clear own hg
                refine wpAny_ready (rs := [8]) ?_ (by simp) ?_; decide +kernel
                refine AllReady.cons rfl (fun K hK => ?_) ?_
                · have k1 := keep bX2.out g1
                  have k2 := keep bX2.out g2
                  have k3 := keep bX2.out g3
                  (go_simp; refine hK _ _ ?_; clear hK K)
                  clear k1 k2 k3
                  refine wpAny_ready (rs := [9]) ?_ (by simp) ?_; decide +kernel
                  refine AllReady.cons rfl (fun K hK => ?_) ?_
                  · (go_simp; refine hK _ _ ?_; clear hK K)
                    have ba : Below X2.heap.size X2 (X2.alloc (.cells #[.int .i64 lo, .int .i64 hi', .int .i64 kd] 57)) := below_alloc1 _ _
                    have SL := Lib.hid (rd_bag X2 lo hi' kd)
                    have SLT := Lib.hid (show X2.heap.size < (X2.alloc (.cells #[.int .i64 lo, .int .i64 hi', .int .i64 kd] 57)).heap.size by simp)
                    have NE : Hid (some X2.heap.size ≠ _) := Lib.hid (owns_far OWN.out (Nat.le_refl _))
                    replace OWN := Lib.hid (OWN.out.alloc (.cells #[.int .i64 lo, .int .i64 hi', .int .i64 kd] 57))
                    have bX3 := Lib.hid (belTrans bX2.out ba)
                    clear ba
                    generalize X2.alloc (.cells #[.int .i64 lo, .int .i64 hi', .int .i64 kd] 57) = X3 at *
                    refine wpAny_ready (rs := [10]) ?_ (by simp) ?_; decide +kernel
                    refine AllReady.cons rfl (fun K hK => ?_) ?_
                    · skip
                      refine step_append_rd rfl (.tmp 50) (.tmp 55) 47 rfl W0.heap.size 57 i1 (.agg #[.int .i64 0, .int .i64 0, .int .i64 0]) 3 24 Try.underlying47 hi1 hz01 hz11 hz21 rfl (by decide) _ _ _ (by rfl) OWN.out _ _ (by rfl) SL.out (bagRows_one _) (by unfold maxLen; omega) (by omega) bX3.out.size ?_
                      intro V X4 own hg
                      refine hK _ _ ?_
                      clear hK K
                      have bX4 := Lib.hid (bX3.out.trans (grown_below (B := W0.heap.size) hg bX3.out.size (fun j e => (OWN.out.lt j e).1)))
                      replace OWN := Lib.hid own
                      clear own hg SL SLT
                      refine wpAny_ready (rs := [14]) ?_ (by simp) ?_; decide +kernel
                      refine AllReady.cons rfl (fun K hK => ?_) ?_
                      · skip
                        refine step_append_rd rfl (.tmp 56) (.tmp 59) 47 rfl W0.heap.size 57 i1 (.agg #[.int .i64 0, .int .i64 0, .int .i64 0]) 3 24 Try.underlying47 hi1 hz01 hz11 hz21 rfl (by decide) _ _ _ (by rfl) OWN.out _ _ (by rfl) (DR.out.below bX4.out) (bagRows_one _) (by unfold maxLen; omega) (by omega) bX4.out.size ?_
                        intro V X5 own hg
                        refine hK _ _ ?_
                        clear hK K
                        have bX5 := Lib.hid (bX4.out.trans (grown_below (B := W0.heap.size) hg bX4.out.size (fun j e => (OWN.out.lt j e).1)))
                        replace OWN := Lib.hid own
                        clear own hg
                        ((refine wpAny_take (i := 15) (v := ?_) rfl (by kernel_rfl) ?_ ?_ (fun _ _ _ h => h) (Or.inl ⟨by rfl, ?_⟩) ?_; rotate_left; decide +kernel; decide +kernel; focus (intro w; go_simp; first | done | with_reducible rfl)))
                        refine wpAny_done ?_ ?_ _; decide +kernel
                        have hrd := fin_rd OWN.out
                        have hbl := BW0.out.trans (bX5.out.mono BW0.out.size)
                        clear OWN
                        go_wp2_with fail
                        all_goals go_roundw
                        case rel => exact ⟨k + 1, _, by omega, by go_num, fun h => absurd h (by omega), hrd, Lib.hid (HP2.out at'), hbl⟩
                        case measure => simp [intOf]; omega
                      exact AllReady.nil
                    exact AllReady.nil
                  exact AllReady.nil
                exact AllReady.nil
              refine AllReady.cons rfl (fun K hK => ?_) ?_
              · have k1 := keep bX1.out g1
                have k2 := keep bX1.out g2
                have k3 := keep bX1.out g3
                (go_simp; refine hK _ _ ?_; clear hK K)
                clear k1 k2 k3
                refine wpAny_ready (rs := [4, 9]) ?_ (by simp) ?_; decide +kernel
                refine AllReady.cons rfl (fun K hK => ?_) ?_
                · skip
                  refine step_append_rd rfl (.tmp 46) (.tmp 49) 47 rfl W0.heap.size 57 i1 (.agg #[.int .i64 0, .int .i64 0, .int .i64 0]) 3 24 Try.underlying47 hi1 hz01 hz11 hz21 rfl (by decide) _ _ _ (by rfl) OWN.out _ _ (by rfl) (TK.out.below bX1.out) (bagRows_one _) (by unfold maxLen; omega) (by omega) bX1.out.size ?_
                  intro V X6 own hg
                  refine hK _ _ ?_
                  clear hK K
                  have bX6 := Lib.hid (bX1.out.trans (grown_below (B := W0.heap.size) hg bX1.out.size (fun j e => (OWN.out.lt j e).1)))
                  replace OWN := Lib.hid own
                  clear own hg
                  refine wpAny_ready (rs := [9]) ?_ (by simp) ?_; decide +kernel
                  refine AllReady.cons rfl (fun K hK => ?_) ?_
                  · (go_simp; refine hK _ _ ?_; clear hK K)
                    have ba : Below X6.heap.size X6 (X6.alloc (.cells #[.int .i64 lo, .int .i64 hi', .int .i64 kd] 57)) := below_alloc1 _ _
                    have SL := Lib.hid (rd_bag X6 lo hi' kd)
                    have SLT := Lib.hid (show X6.heap.size < (X6.alloc (.cells #[.int .i64 lo, .int .i64 hi', .int .i64 kd] 57)).heap.size by simp)
                    have NE : Hid (some X6.heap.size ≠ _) := Lib.hid (owns_far OWN.out (Nat.le_refl _))
                    replace OWN := Lib.hid (OWN.out.alloc (.cells #[.int .i64 lo, .int .i64 hi', .int .i64 kd] 57))
                    have bX7 := Lib.hid (belTrans bX6.out ba)
                    clear ba
                    generalize X6.alloc (.cells #[.int .i64 lo, .int .i64 hi', .int .i64 kd] 57) = X7 at *
                    refine wpAny_ready (rs := [10]) ?_ (by simp) ?_; decide +kernel
                    refine AllReady.cons rfl (fun K hK => ?_) ?_
                    · skip
                      refine step_append_rd rfl (.tmp 50) (.tmp 55) 47 rfl W0.heap.size 57 i1 (.agg #[.int .i64 0, .int .i64 0, .int .i64 0]) 3 24 Try.underlying47 hi1 hz01 hz11 hz21 rfl (by decide) _ _ _ (by rfl) OWN.out _ _ (by rfl) SL.out (bagRows_one _) (by unfold maxLen; omega) (by omega) bX7.out.size ?_
                      intro V X8 own hg
                      refine hK _ _ ?_
                      clear hK K
                      have bX8 := Lib.hid (bX7.out.trans (grown_below (B := W0.heap.size) hg bX7.out.size (fun j e => (OWN.out.lt j e).1)))
                      replace OWN := Lib.hid own
                      clear own hg SL SLT
                      refine wpAny_ready (rs := [14]) ?_ (by simp) ?_; decide +kernel
                      refine AllReady.cons rfl (fun K hK => ?_) ?_
                      · skip
                        refine step_append_rd rfl (.tmp 56) (.tmp 59) 47 rfl W0.heap.size 57 i1 (.agg #[.int .i64 0, .int .i64 0, .int .i64 0]) 3 24 Try.underlying47 hi1 hz01 hz11 hz21 rfl (by decide) _ _ _ (by rfl) OWN.out _ _ (by rfl) (DR.out.below bX8.out) (bagRows_one _) (by unfold maxLen; omega) (by omega) bX8.out.size ?_
                        intro V X9 own hg
                        refine hK _ _ ?_
                        clear hK K
                        have bX9 := Lib.hid (bX8.out.trans (grown_below (B := W0.heap.size) hg bX8.out.size (fun j e => (OWN.out.lt j e).1)))
                        replace OWN := Lib.hid own
                        clear own hg
                        ((refine wpAny_take (i := 15) (v := ?_) rfl (by kernel_rfl) ?_ ?_ (fun _ _ _ h => h) (Or.inl ⟨by rfl, ?_⟩) ?_; rotate_left; decide +kernel; decide +kernel; focus (intro w; go_simp; first | done | with_reducible rfl)))
                        refine wpAny_done ?_ ?_ _; decide +kernel
                        have hrd := fin_rd OWN.out
                        have hbl := BW0.out.trans (bX9.out.mono BW0.out.size)
                        clear OWN
                        go_wp2_with fail
                        all_goals go_roundw
                        case rel => exact ⟨k + 1, _, by omega, by go_num, fun h => absurd h (by omega), hrd, Lib.hid (HP2.out at'), hbl⟩
                        case measure => simp [intOf]; omega
                      exact AllReady.nil
                    exact AllReady.nil
                  exact AllReady.nil
                refine AllReady.cons rfl (fun K hK => ?_) ?_
                · (go_simp; refine hK _ _ ?_; clear hK K)
                  have ba : Below X1.heap.size X1 (X1.alloc (.cells #[.int .i64 lo, .int .i64 hi', .int .i64 kd] 57)) := below_alloc1 _ _
                  have SL := Lib.hid (rd_bag X1 lo hi' kd)
                  have SLT := Lib.hid (show X1.heap.size < (X1.alloc (.cells #[.int .i64 lo, .int .i64 hi', .int .i64 kd] 57)).heap.size by simp)
                  have NE : Hid (some X1.heap.size ≠ _) := Lib.hid (owns_far OWN.out (Nat.le_refl _))
                  replace OWN := Lib.hid (OWN.out.alloc (.cells #[.int .i64 lo, .int .i64 hi', .int .i64 kd] 57))
                  have bX10 := Lib.hid (belTrans bX1.out ba)
                  clear ba
                  generalize X1.alloc (.cells #[.int .i64 lo, .int .i64 hi', .int .i64 kd] 57) = X10 at *
                  refine wpAny_ready (rs := [4]) ?_ (by simp) ?_; decide +kernel
                  refine AllReady.cons rfl (fun K hK => ?_) ?_
                  · skip
                    refine step_append_rd rfl (.tmp 46) (.tmp 49) 47 rfl W0.heap.size 57 i1 (.agg #[.int .i64 0, .int .i64 0, .int .i64 0]) 3 24 Try.underlying47 hi1 hz01 hz11 hz21 rfl (by decide) _ _ _ (by rfl) OWN.out _ _ (by rfl) (TK.out.below bX10.out) (bagRows_one _) (by unfold maxLen; omega) (by omega) bX10.out.size ?_
                    intro V X11 own hg
                    refine hK _ _ ?_
                    clear hK K
                    have bX11 := Lib.hid (bX10.out.trans (grown_below (B := W0.heap.size) hg bX10.out.size (fun j e => (OWN.out.lt j e).1)))
                    replace SL := Lib.hid (SL.out.grown hg NE.out SLT.out)
                    replace SLT := Lib.hid (Nat.lt_of_lt_of_le SLT.out hg.size)
                    replace OWN := Lib.hid own
                    clear own hg
                    refine wpAny_ready (rs := [10]) ?_ (by simp) ?_; decide +kernel
                    refine AllReady.cons rfl (fun K hK => ?_) ?_
                    · skip
                      refine step_append_rd rfl (.tmp 50) (.tmp 55) 47 rfl W0.heap.size 57 i1 (.agg #[.int .i64 0, .int .i64 0, .int .i64 0]) 3 24 Try.underlying47 hi1 hz01 hz11 hz21 rfl (by decide) _ _ _ (by rfl) OWN.out _ _ (by rfl) SL.out (bagRows_one _) (by unfold maxLen; omega) (by omega) bX11.out.size ?_
                      intro V X12 own hg
                      refine hK _ _ ?_
                      clear hK K
                      have bX12 := Lib.hid (bX11.out.trans (grown_below (B := W0.heap.size) hg bX11.out.size (fun j e => (OWN.out.lt j e).1)))
                      replace OWN := Lib.hid own
                      clear own hg SL SLT
                      refine wpAny_ready (rs := [14]) ?_ (by simp) ?_; decide +kernel
                      refine AllReady.cons rfl (fun K hK => ?_) ?_
                      · skip
                        refine step_append_rd rfl (.tmp 56) (.tmp 59) 47 rfl W0.heap.size 57 i1 (.agg #[.int .i64 0, .int .i64 0, .int .i64 0]) 3 24 Try.underlying47 hi1 hz01 hz11 hz21 rfl (by decide) _ _ _ (by rfl) OWN.out _ _ (by rfl) (DR.out.below bX12.out) (bagRows_one _) (by unfold maxLen; omega) (by omega) bX12.out.size ?_
                        intro V X13 own hg
                        refine hK _ _ ?_
                        clear hK K
                        have bX13 := Lib.hid (bX12.out.trans (grown_below (B := W0.heap.size) hg bX12.out.size (fun j e => (OWN.out.lt j e).1)))
                        replace OWN := Lib.hid own
                        clear own hg
                        ((refine wpAny_take (i := 15) (v := ?_) rfl (by kernel_rfl) ?_ ?_ (fun _ _ _ h => h) (Or.inl ⟨by rfl, ?_⟩) ?_; rotate_left; decide +kernel; decide +kernel; focus (intro w; go_simp; first | done | with_reducible rfl)))
                        refine wpAny_done ?_ ?_ _; decide +kernel
                        have hrd := fin_rd OWN.out
                        have hbl := BW0.out.trans (bX13.out.mono BW0.out.size)
                        clear OWN
                        go_wp2_with fail
                        all_goals go_roundw
                        case rel => exact ⟨k + 1, _, by omega, by go_num, fun h => absurd h (by omega), hrd, Lib.hid (HP2.out at'), hbl⟩
                        case measure => simp [intOf]; omega
                      exact AllReady.nil
                    exact AllReady.nil
                  exact AllReady.nil
                exact AllReady.nil
              exact AllReady.nil
            refine AllReady.cons rfl (fun K hK => ?_) ?_
            · have k1 := keep bW0.out g1
              have k2 := keep bW0.out g2
              have k3 := keep bW0.out g3
              (go_simp; refine hK _ _ ?_; clear hK K)
              clear k1 k2 k3
              refine wpAny_ready (rs := [0, 9]) ?_ (by simp) ?_; decide +kernel
              refine AllReady.cons rfl (fun K hK => ?_) ?_
              · (go_simp; refine hK _ _ ?_; clear hK K)
                have ba : Below W0.heap.size W0 (W0.alloc (.cells #[] 57)) := below_alloc1 _ _
                have OWN := Lib.hid (owns_base (owns_empty W0 57 3) bW0.out.size)
                have bX14 := Lib.hid (belTrans bW0.out ba)
                clear ba
                generalize W0.alloc (.cells #[] 57) = X14 at *
                refine wpAny_ready (rs := [4, 9]) ?_ (by simp) ?_; decide +kernel
                refine AllReady.cons rfl (fun K hK => ?_) ?_
                · skip
                  refine step_append_rd rfl (.tmp 46) (.tmp 49) 47 rfl W0.heap.size 57 i1 (.agg #[.int .i64 0, .int .i64 0, .int .i64 0]) 3 24 Try.underlying47 hi1 hz01 hz11 hz21 rfl (by decide) _ _ _ (by rfl) OWN.out _ _ (by rfl) (TK.out.below bX14.out) (bagRows_one _) (by unfold maxLen; omega) (by omega) bX14.out.size ?_
                  intro V X15 own hg
                  refine hK _ _ ?_
                  clear hK K
                  have bX15 := Lib.hid (bX14.out.trans (grown_below (B := W0.heap.size) hg bX14.out.size (fun j e => (OWN.out.lt j e).1)))
                  replace OWN := Lib.hid own
                  clear own hg
                  refine wpAny_ready (rs := [9]) ?_ (by simp) ?_; decide +kernel
                  refine AllReady.cons rfl (fun K hK => ?_) ?_
                  · (go_simp; refine hK _ _ ?_; clear hK K)
                    have ba : Below X15.heap.size X15 (X15.alloc (.cells #[.int .i64 lo, .int .i64 hi', .int .i64 kd] 57)) := below_alloc1 _ _
                    have SL := Lib.hid (rd_bag X15 lo hi' kd)
                    have SLT := Lib.hid (show X15.heap.size < (X15.alloc (.cells #[.int .i64 lo, .int .i64 hi', .int .i64 kd] 57)).heap.size by simp)
                    have NE : Hid (some X15.heap.size ≠ _) := Lib.hid (owns_far OWN.out (Nat.le_refl _))
                    replace OWN := Lib.hid (OWN.out.alloc (.cells #[.int .i64 lo, .int .i64 hi', .int .i64 kd] 57))
                    have bX16 := Lib.hid (belTrans bX15.out ba)
                    clear ba
                    generalize X15.alloc (.cells #[.int .i64 lo, .int .i64 hi', .int .i64 kd] 57) = X16 at *
                    refine wpAny_ready (rs := [10]) ?_ (by simp) ?_; decide +kernel
                    refine AllReady.cons rfl (fun K hK => ?_) ?_
                    · skip
                      refine step_append_rd rfl (.tmp 50) (.tmp 55) 47 rfl W0.heap.size 57 i1 (.agg #[.int .i64 0, .int .i64 0, .int .i64 0]) 3 24 Try.underlying47 hi1 hz01 hz11 hz21 rfl (by decide) _ _ _ (by rfl) OWN.out _ _ (by rfl) SL.out (bagRows_one _) (by unfold maxLen; omega) (by omega) bX16.out.size ?_
                      intro V X17 own hg
                      refine hK _ _ ?_
                      clear hK K
                      have bX17 := Lib.hid (bX16.out.trans (grown_below (B := W0.heap.size) hg bX16.out.size (fun j e => (OWN.out.lt j e).1)))
                      replace OWN := Lib.hid own
                      clear own hg SL SLT
                      refine wpAny_ready (rs := [14]) ?_ (by simp) ?_; decide +kernel
                      refine AllReady.cons rfl (fun K hK => ?_) ?_
                      · skip
                        refine step_append_rd rfl (.tmp 56) (.tmp 59) 47 rfl W0.heap.size 57 i1 (.agg #[.int .i64 0, .int .i64 0, .int .i64 0]) 3 24 Try.underlying47 hi1 hz01 hz11 hz21 rfl (by decide) _ _ _ (by rfl) OWN.out _ _ (by rfl) (DR.out.below bX17.out) (bagRows_one _) (by unfold maxLen; omega) (by omega) bX17.out.size ?_
                        intro V X18 own hg
                        refine hK _ _ ?_
                        clear hK K
                        have bX18 := Lib.hid (bX17.out.trans (grown_below (B := W0.heap.size) hg bX17.out.size (fun j e => (OWN.out.lt j e).1)))
                        replace OWN := Lib.hid own
                        clear own hg
                        ((refine wpAny_take (i := 15) (v := ?_) rfl (by kernel_rfl) ?_ ?_ (fun _ _ _ h => h) (Or.inl ⟨by rfl, ?_⟩) ?_; rotate_left; decide +kernel; decide +kernel; focus (intro w; go_simp; first | done | with_reducible rfl)))
                        refine wpAny_done ?_ ?_ _; decide +kernel
                        have hrd := fin_rd OWN.out
                        have hbl := BW0.out.trans (bX18.out.mono BW0.out.size)
                        clear OWN
                        go_wp2_with fail
                        all_goals go_roundw
                        case rel => exact ⟨k + 1, _, by omega, by go_num, fun h => absurd h (by omega), hrd, Lib.hid (HP2.out at'), hbl⟩
                        case measure => simp [intOf]; omega
                      exact AllReady.nil
                    exact AllReady.nil
                  exact AllReady.nil
                refine AllReady.cons rfl (fun K hK => ?_) ?_
                · (go_simp; refine hK _ _ ?_; clear hK K)
                  have ba : Below X14.heap.size X14 (X14.alloc (.cells #[.int .i64 lo, .int .i64 hi', .int .i64 kd] 57)) := below_alloc1 _ _
                  have SL := Lib.hid (rd_bag X14 lo hi' kd)
                  have SLT := Lib.hid (show X14.heap.size < (X14.alloc (.cells #[.int .i64 lo, .int .i64 hi', .int .i64 kd] 57)).heap.size by simp)
                  have NE : Hid (some X14.heap.size ≠ _) := Lib.hid (owns_far OWN.out (Nat.le_refl _))
                  replace OWN := Lib.hid (OWN.out.alloc (.cells #[.int .i64 lo, .int .i64 hi', .int .i64 kd] 57))
                  have bX19 := Lib.hid (belTrans bX14.out ba)
                  clear ba
                  generalize X14.alloc (.cells #[.int .i64 lo, .int .i64 hi', .int .i64 kd] 57) = X19 at *
                  refine wpAny_ready (rs := [4]) ?_ (by simp) ?_; decide +kernel
                  refine AllReady.cons rfl (fun K hK => ?_) ?_
                  · skip
                    refine step_append_rd rfl (.tmp 46) (.tmp 49) 47 rfl W0.heap.size 57 i1 (.agg #[.int .i64 0, .int .i64 0, .int .i64 0]) 3 24 Try.underlying47 hi1 hz01 hz11 hz21 rfl (by decide) _ _ _ (by rfl) OWN.out _ _ (by rfl) (TK.out.below bX19.out) (bagRows_one _) (by unfold maxLen; omega) (by omega) bX19.out.size ?_
                    intro V X20 own hg
                    refine hK _ _ ?_
                    clear hK K
                    have bX20 := Lib.hid (bX19.out.trans (grown_below (B := W0.heap.size) hg bX19.out.size (fun j e => (OWN.out.lt j e).1)))
                    replace SL := Lib.hid (SL.out.grown hg NE.out SLT.out)
                    replace SLT := Lib.hid (Nat.lt_of_lt_of_le SLT.out hg.size)
                    replace OWN := Lib.hid own
                    clear own hg
                    refine wpAny_ready (rs := [10]) ?_ (by simp) ?_; decide +kernel
                    refine AllReady.cons rfl (fun K hK => ?_) ?_
                    · skip
                      refine step_append_rd rfl (.tmp 50) (.tmp 55) 47 rfl W0.heap.size 57 i1 (.agg #[.int .i64 0, .int .i64 0, .int .i64 0]) 3 24 Try.underlying47 hi1 hz01 hz11 hz21 rfl (by decide) _ _ _ (by rfl) OWN.out _ _ (by rfl) SL.out (bagRows_one _) (by unfold maxLen; omega) (by omega) bX20.out.size ?_
                      intro V X21 own hg
                      refine hK _ _ ?_
                      clear hK K
                      have bX21 := Lib.hid (bX20.out.trans (grown_below (B := W0.heap.size) hg bX20.out.size (fun j e => (OWN.out.lt j e).1)))
                      replace OWN := Lib.hid own
                      clear own hg SL SLT
                      refine wpAny_ready (rs := [14]) ?_ (by simp) ?_; decide +kernel
                      refine AllReady.cons rfl (fun K hK => ?_) ?_
                      · skip
                        refine step_append_rd rfl (.tmp 56) (.tmp 59) 47 rfl W0.heap.size 57 i1 (.agg #[.int .i64 0, .int .i64 0, .int .i64 0]) 3 24 Try.underlying47 hi1 hz01 hz11 hz21 rfl (by decide) _ _ _ (by rfl) OWN.out _ _ (by rfl) (DR.out.below bX21.out) (bagRows_one _) (by unfold maxLen; omega) (by omega) bX21.out.size ?_
                        intro V X22 own hg
                        refine hK _ _ ?_
                        clear hK K
                        have bX22 := Lib.hid (bX21.out.trans (grown_below (B := W0.heap.size) hg bX21.out.size (fun j e => (OWN.out.lt j e).1)))
                        replace OWN := Lib.hid own
                        clear own hg
                        ((refine wpAny_take (i := 15) (v := ?_) rfl (by kernel_rfl) ?_ ?_ (fun _ _ _ h => h) (Or.inl ⟨by rfl, ?_⟩) ?_; rotate_left; decide +kernel; decide +kernel; focus (intro w; go_simp; first | done | with_reducible rfl)))
                        refine wpAny_done ?_ ?_ _; decide +kernel
                        have hrd := fin_rd OWN.out
                        have hbl := BW0.out.trans (bX22.out.mono BW0.out.size)
                        clear OWN
                        go_wp2_with fail
                        all_goals go_roundw
                        case rel => exact ⟨k + 1, _, by omega, by go_num, fun h => absurd h (by omega), hrd, Lib.hid (HP2.out at'), hbl⟩
                        case measure => simp [intOf]; omega
                      exact AllReady.nil
                    exact AllReady.nil
                  exact AllReady.nil
                exact AllReady.nil
              refine AllReady.cons rfl (fun K hK => ?_) ?_
              · (go_simp; refine hK _ _ ?_; clear hK K)
                have ba : Below W0.heap.size W0 (W0.alloc (.cells #[.int .i64 lo, .int .i64 hi', .int .i64 kd] 57)) := below_alloc1 _ _
                have SL := Lib.hid (rd_bag W0 lo hi' kd)
                have SLT := Lib.hid (show W0.heap.size < (W0.alloc (.cells #[.int .i64 lo, .int .i64 hi', .int .i64 kd] 57)).heap.size by simp)
                have bX23 := Lib.hid (belTrans bW0.out ba)
                clear ba
                generalize W0.alloc (.cells #[.int .i64 lo, .int .i64 hi', .int .i64 kd] 57) = X23 at *
                refine wpAny_ready (rs := [0]) ?_ (by simp) ?_; decide +kernel
                refine AllReady.cons rfl (fun K hK => ?_) ?_
                · (go_simp; refine hK _ _ ?_; clear hK K)
                  have ba : Below X23.heap.size X23 (X23.alloc (.cells #[] 57)) := below_alloc1 _ _
                  have OWN := Lib.hid (owns_base (owns_empty X23 57 3) bX23.out.size)
                  have NE : Hid (some (W0.heap.size) ≠ some X23.heap.size) := Lib.hid (by have := SLT.out; simp; omega)
                  replace SL := Lib.hid (SL.out.below ba)
                  replace SLT := Lib.hid (Nat.lt_of_lt_of_le SLT.out ba.size)
                  have bX24 := Lib.hid (belTrans bX23.out ba)
                  clear ba
                  generalize X23.alloc (.cells #[] 57) = X24 at *
                  refine wpAny_ready (rs := [4]) ?_ (by simp) ?_; decide +kernel
                  refine AllReady.cons rfl (fun K hK => ?_) ?_
                  · skip
                    refine step_append_rd rfl (.tmp 46) (.tmp 49) 47 rfl W0.heap.size 57 i1 (.agg #[.int .i64 0, .int .i64 0, .int .i64 0]) 3 24 Try.underlying47 hi1 hz01 hz11 hz21 rfl (by decide) _ _ _ (by rfl) OWN.out _ _ (by rfl) (TK.out.below bX24.out) (bagRows_one _) (by unfold maxLen; omega) (by omega) bX24.out.size ?_
                    intro V X25 own hg
                    refine hK _ _ ?_
                    clear hK K
                    have bX25 := Lib.hid (bX24.out.trans (grown_below (B := W0.heap.size) hg bX24.out.size (fun j e => (OWN.out.lt j e).1)))
                    replace SL := Lib.hid (SL.out.grown hg NE.out SLT.out)
                    replace SLT := Lib.hid (Nat.lt_of_lt_of_le SLT.out hg.size)
                    replace OWN := Lib.hid own
                    clear own hg
                    refine wpAny_ready (rs := [10]) ?_ (by simp) ?_; decide +kernel
                    refine AllReady.cons rfl (fun K hK => ?_) ?_
                    · skip
                      refine step_append_rd rfl (.tmp 50) (.tmp 55) 47 rfl W0.heap.size 57 i1 (.agg #[.int .i64 0, .int .i64 0, .int .i64 0]) 3 24 Try.underlying47 hi1 hz01 hz11 hz21 rfl (by decide) _ _ _ (by rfl) OWN.out _ _ (by rfl) SL.out (bagRows_one _) (by unfold maxLen; omega) (by omega) bX25.out.size ?_
                      intro V X26 own hg
                      refine hK _ _ ?_
                      clear hK K
                      have bX26 := Lib.hid (bX25.out.trans (grown_below (B := W0.heap.size) hg bX25.out.size (fun j e => (OWN.out.lt j e).1)))
                      replace OWN := Lib.hid own
                      clear own hg SL SLT
                      refine wpAny_ready (rs := [14]) ?_ (by simp) ?_; decide +kernel
                      refine AllReady.cons rfl (fun K hK => ?_) ?_
                      · skip
                        refine step_append_rd rfl (.tmp 56) (.tmp 59) 47 rfl W0.heap.size 57 i1 (.agg #[.int .i64 0, .int .i64 0, .int .i64 0]) 3 24 Try.underlying47 hi1 hz01 hz11 hz21 rfl (by decide) _ _ _ (by rfl) OWN.out _ _ (by rfl) (DR.out.below bX26.out) (bagRows_one _) (by unfold maxLen; omega) (by omega) bX26.out.size ?_
                        intro V X27 own hg
                        refine hK _ _ ?_
                        clear hK K
                        have bX27 := Lib.hid (bX26.out.trans (grown_below (B := W0.heap.size) hg bX26.out.size (fun j e => (OWN.out.lt j e).1)))
                        replace OWN := Lib.hid own
                        clear own hg
                        ((refine wpAny_take (i := 15) (v := ?_) rfl (by kernel_rfl) ?_ ?_ (fun _ _ _ h => h) (Or.inl ⟨by rfl, ?_⟩) ?_; rotate_left; decide +kernel; decide +kernel; focus (intro w; go_simp; first | done | with_reducible rfl)))
                        refine wpAny_done ?_ ?_ _; decide +kernel
                        have hrd := fin_rd OWN.out
                        have hbl := BW0.out.trans (bX27.out.mono BW0.out.size)
                        clear OWN
                        go_wp2_with fail
                        all_goals go_roundw
                        case rel => exact ⟨k + 1, _, by omega, by go_num, fun h => absurd h (by omega), hrd, Lib.hid (HP2.out at'), hbl⟩
                        case measure => simp [intOf]; omega
                      exact AllReady.nil
                    exact AllReady.nil
                  exact AllReady.nil
                exact AllReady.nil
              exact AllReady.nil
            exact AllReady.nil
      · obtain rfl : k = bs.length := by omega
        have hp := HP.out
        rw [List.take_length] at hp
        have J2 := Lib.hid (JP.out cs hp _ _ hx)
        have d0 := keep hB c0
        have d1 := keep hB c1
        have HB3 := Lib.hid (belTrans HB2.out hB)
        clear hp hx hB c0 c1 HB2 HP
        go_wp2_with fail
        refine J2.out.mono ?_
        rintro e w3 ⟨rfl, hb⟩
        replace HB3 := Lib.hid (belTrans HB3.out hb)
        go_wp2_with fail
        refine (awake_any _).mono ?_
        rintro e w4 ⟨rfl, hb⟩
        replace HB3 := Lib.hid (belTrans HB3.out hb)
        go_wp2_with fail
        go_ret
        exact ⟨rfl, HB3.out⟩
  · have j1 := judge_no a f v bs _ HR.out he
    have j2 := fun w' (h : Rd w' 3 v (bagRows bs)) => refBags_any a f v bs w' h
    generalize beginErr a f bs = E at *
    have t1 : (E != 0) = true := by rw [bne_iff_ne]; exact he
    have J1 := Lib.hid j1
    have J2 := Lib.hid j2
    clear j1 j2 he
    go_enter Try.func16, Try.ntmps16
    go_wp2_with fail
    refine J1.out.mono ?_
    rintro e w1 ⟨rfl, hb⟩
    have c0 : w1.cell? ⟨w.heap.size, 0, none⟩ = some (.int .i64 a) := keep hb (by simp [go_sem])
    have c1 : w1.cell? ⟨w.heap.size, 1, none⟩ = some (.int .i64 f) := keep hb (by simp [go_sem])
    have HR1 := Lib.hid (HR.out.below hb)
    clear J1
    have hk : Below w.heap.size w w1 := by (repeat (first | assumption | exact Below.refl _ _ | refine Below.alloc ?_ (by (try simp) <;> omega) _ | refine below_drewN ?_ _ | refine Below.drew ?_ | refine Below.setCell ?_ (by (try simp) <;> omega) _ | refine Below.trans ?_ (Below.mono (by assumption) (by (try simp) <;> omega))))
    replace hB := hB.trans (hk.mono hB.size)
    have hzw1 := hB.size
    clear hk hb
    go_wp2_with fail
    refine (J2.out _ HR1.out).mono ?_
    rintro e w2 ⟨rfl, hb⟩
    have hk : Below w1.heap.size w1 w2 := by (repeat (first | assumption | exact Below.refl _ _ | refine Below.alloc ?_ (by (try simp) <;> omega) _ | refine below_drewN ?_ _ | refine Below.drew ?_ | refine Below.setCell ?_ (by (try simp) <;> omega) _ | refine Below.trans ?_ (Below.mono (by assumption) (by (try simp) <;> omega))))
    replace hB := hB.trans (hk.mono hB.size)
    have hzw2 := hB.size
    replace c0 := keep hk c0
    replace c1 := keep hk c1
    have lc0 := lt_of_cell c0
    clear hk hb
    go_wp2_with fail
    refine (awake_any _).mono ?_
    rintro e w3 ⟨rfl, hb⟩
    have hk : Below w2.heap.size w2 w3 := by (repeat (first | assumption | exact Below.refl _ _ | refine Below.alloc ?_ (by (try simp) <;> omega) _ | refine below_drewN ?_ _ | refine Below.drew ?_ | refine Below.setCell ?_ (by (try simp) <;> omega) _ | refine Below.trans ?_ (Below.mono (by assumption) (by (try simp) <;> omega))))
    replace hB := hB.trans (hk.mono hB.size)
    have hzw3 := hB.size
    replace c0 := keep hk c0
    replace c1 := keep hk c1
    have lc0 := lt_of_cell c0
    clear hk hb
    go_wp2_with fail
    go_ret
    exact ⟨rfl, hB⟩

end Go.Proofs.Ytnombgiacfeloaa
