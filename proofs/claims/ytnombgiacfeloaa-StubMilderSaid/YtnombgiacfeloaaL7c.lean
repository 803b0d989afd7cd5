/- The statement 'StubMilder', walked, where the verdict is 2. -/
import Derived.Test.YtnombgiacfeloaaL7b
import Derived.Test.YtnombgiacfeloaaL7a
namespace Go.Proofs.Ytnombgiacfeloaa
set_option linter.unusedVariables false
set_option linter.unusedSimpArgs false
open Go.RowKit

set_option maxRecDepth 100000 in
set_option maxHeartbeats 40000000 in
theorem milder_lawc (a f : Int) (v : Value) (bs : List Bag) (m0 m1 m2 m3 : Int) (w : World) (h : Rd w 3 v (bagRows bs)) (hm : (0 ≤ m0 ∧ m0 ≤ 65535) ∧ (0 ≤ m1 ∧ m1 ≤ 255) ∧ (0 ≤ m2 ∧ m2 ≤ 4294967295) ∧ (0 ≤ m3 ∧ m3 ≤ 255)) (hVV : beginErr a f bs = 0 → judgeR a f bs = 2) :
    Calls Try.prog 15 #[.agg #[.int .i64 a, .int .i64 f], v, .agg #[.int .u16 m0, .int .u8 m1, .int .u32 m2, .int .u8 m3]] w fun e w' => e = .returned (.bool true) ∧ Below w.heap.size w w' := by
  have hB := Below.refl w.heap.size w
  have hW2 : Below w.heap.size w ((w.alloc (.cells #[.int .i64 a, .int .i64 f] 46)).alloc (.cells #[.int .u16 m0, .int .u8 m1, .int .u32 m2, .int .u8 m3] 97)) := by (repeat (first | assumption | exact Below.refl _ _ | refine Below.alloc ?_ (by (try simp) <;> omega) _ | refine below_drewN ?_ _ | refine Below.drew ?_ | refine Below.setCell ?_ (by (try simp) <;> omega) _ | refine Below.trans ?_ (Below.mono (by assumption) (by (try simp) <;> omega))))
  have HR := Lib.hid (h.below hW2)
  clear h hW2
  obtain ⟨q0, q1, q2, q3⟩ := hm
  by_cases he : beginErr a f bs = 0
  · obtain ⟨ha, ⟨hf0, hf⟩, hlen, hg, -⟩ := beginErr_ok he
    obtain ⟨va, vc, rfl, -, hvm, -⟩ := id HR.out.bags
    obtain ⟨A, rfl⟩ : ∃ A : Nat, a = A := ⟨a.toNat, by omega⟩
    have hA : 1 ≤ A ∧ A ≤ 255 := by omega
    obtain ⟨k1, hk1⟩ : ∃ k : Nat, m1 % 8 = k := ⟨(m1 % 8).toNat, by omega⟩
    have hk8 : k1 < 8 := by omega
    have hwr : (IntKind.i64.wrap m1).tmod 8 = k1 := by
      have e : IntKind.i64.wrap m1 = m1 := wrap_small m1 (by omega)
      rw [e, Int.tmod_eq_emod_of_nonneg q1.1, hk1]
    obtain ⟨A', hA', hsub, hA1, hAd⟩ : ∃ A' : Nat, A' ≤ 255 ∧ SubK A A' ∧ 1 ≤ A' ∧ A' = if hasK A k1 then A else A + 2 ^ k1 := by
      cases hq : hasK A k1
      · obtain ⟨t1, t2⟩ := add_kind hA hk8 hq
        exact ⟨_, t1, t2, Nat.le_trans hA.1 (Nat.le_add_right _ _), rfl⟩
      · exact ⟨A, hA.2, fun _ _ h => h, hA.1, rfl⟩
    obtain ⟨f1, hf1⟩ : ∃ f1, (if f + m0 < 1000 then f + m0 else 1000) = f1 := ⟨_, rfl⟩
    have hf1b : f ≤ f1 ∧ f1 ≤ 1000 := by rw [← hf1]; split <;> omega
    obtain ⟨T, hT⟩ : ∃ T, 2 ^ k1 = T := ⟨_, rfl⟩
    have hT2 : T ≤ 128 := by
      have := Nat.pow_le_pow_right (by decide : 0 < 2) (by omega : k1 ≤ 7)
      rw [hT] at this
      exact this
    have ps := sets_any k1 (by omega)
    rw [hT] at ps
    have PS := Lib.hid ps
    clear ps
    have ms := milder_sort (A := A) (A' := A') hA.2 hA' hsub hf0 hf1b.1 hf1b.2 hg
    have hbg' : beginErr (A' : Int) f1 bs = 0 := begin_good (by omega) (by omega) hlen hg
    have j1 := judge_ok A f _ bs _ HR.out he
    have j2 := fun w' (h : Rd w' 3 (.slice va bs.length vc) (bagRows bs)) => judge_ok A' f1 _ bs w' h hbg'
    have j3 := fun (cs : List Bag) (hl : cs.length ≤ 10) (hg : Good cs) w' l (h : Rd w' 3 l (bagRows cs)) => judge_ok A f l cs w' h (begin_good ha ⟨hf0, hf⟩ hl hg)
    rw [← judgeR_eq] at j1 j2
    obtain ⟨V, hV⟩ : ∃ V, judgeR A f bs = V := ⟨_, rfl⟩
    obtain ⟨V', hV'⟩ : ∃ V', judgeR A' f1 bs = V' := ⟨_, rfl⟩
    have hvv : V = 2 := by rw [← hV]; exact hVV he
    subst hvv
    rw [hV] at j1 ms
    rw [hV'] at j2 ms
    have HV := Lib.hid hV
    have J1 := Lib.hid j1
    have J2 := Lib.hid j2
    have J3 := Lib.hid j3
    have HE := Lib.hid he
    have HG := Lib.hid hg
    have MS := Lib.hid ms
    rw [hT] at hAd
    have HAD := Lib.hid hAd
    have HF1 := Lib.hid hf1
    clear hf1 hT
    clear j1 j2 j3 he hg hV hV' hbg' ms hAd hsub
    · skip
      go_enter Try.func15, Try.ntmps15
      go_wp2_with fail
      refine J1.out.mono ?_
      rintro e w1 ⟨rfl, hb⟩
      have c0 : w1.cell? ⟨w.heap.size, 0, none⟩ = some (.int .i64 A) := keep hb (by simp [go_sem])
      have c1 : w1.cell? ⟨w.heap.size, 1, none⟩ = some (.int .i64 f) := keep hb (by simp [go_sem])
      have x0 : w1.cell? ⟨w.heap.size + 1, 0, none⟩ = some (.int .u16 m0) := keep hb (by simp [go_sem])
      have x1 : w1.cell? ⟨w.heap.size + 1, 1, none⟩ = some (.int .u8 m1) := keep hb (by simp [go_sem])
      have x2 : w1.cell? ⟨w.heap.size + 1, 2, none⟩ = some (.int .u32 m2) := keep hb (by simp [go_sem])
      have x3 : w1.cell? ⟨w.heap.size + 1, 3, none⟩ = some (.int .u8 m3) := keep hb (by simp [go_sem])
      have HR1 := Lib.hid (HR.out.below hb)
      clear J1
      have hk : Below w.heap.size w w1 := by (repeat (first | assumption | exact Below.refl _ _ | refine Below.alloc ?_ (by (try simp) <;> omega) _ | refine below_drewN ?_ _ | refine Below.drew ?_ | refine Below.setCell ?_ (by (try simp) <;> omega) _ | refine Below.trans ?_ (Below.mono (by assumption) (by (try simp) <;> omega))))
      replace hB := hB.trans (hk.mono hB.size)
      have hzw1 := hB.size
      clear hk hb
      go_wp2_with fail
      refine (refBags_any A f _ bs _ HR1.out).mono ?_
      rw [HE.out]
      rintro e w2 ⟨rfl, hb⟩
      have HR2 := Lib.hid (HR1.out.below hb)
      have hk : Below w1.heap.size w1 w2 := by (repeat (first | assumption | exact Below.refl _ _ | refine Below.alloc ?_ (by (try simp) <;> omega) _ | refine below_drewN ?_ _ | refine Below.drew ?_ | refine Below.setCell ?_ (by (try simp) <;> omega) _ | refine Below.trans ?_ (Below.mono (by assumption) (by (try simp) <;> omega))))
      replace hB := hB.trans (hk.mono hB.size)
      have hzw2 := hB.size
      replace c0 := keep hk c0
      replace c1 := keep hk c1
      replace x0 := keep hk x0
      replace x1 := keep hk x1
      replace x2 := keep hk x2
      replace x3 := keep hk x3
      have lc0 := lt_of_cell c0
      have lx0 := lt_of_cell x0
      clear hk hb
      clear HR1
      go_upto_if 48 with (go_at_call 52; refine (has_at A k1 _ rfl (by omega) (by omega) _).mono ?_; rintro e w5 ⟨rfl, hww⟩; obtain rfl := hww.symm)
      rw [HF1.out]
      go_cut [] (fun wx => wx.cell? ⟨w2.heap.size, 0, none⟩ = some (.int .i64 A') ∧ wx.cell? ⟨w2.heap.size, 1, none⟩ = some (.int .i64 f1) ∧ Below w2.heap.size w2 wx)
      case first =>
        have had := HAD.out
        cases hq : hasK A k1
        · rw [hq, if_neg Bool.false_ne_true] at had
          have hwa : IntKind.i64.wrap ((A : Int) + T) = A + T := wrap_small _ (by omega)
          go_upto_region 6 with fail
          refine wp_region_k (by kernel_rfl) 10 rfl ?_
          obtain ⟨W0, hW0⟩ : ∃ W0, (w2.alloc (.cells #[.int .i64 A, .int .i64 f1] 46)).drew = W0 := ⟨_, rfl⟩
          have e0 : W0.cell? ⟨w2.heap.size, 0, none⟩ = some (.int .i64 A) := by rw [← hW0]; simp [go_sem]
          have e1 : W0.cell? ⟨w2.heap.size, 1, none⟩ = some (.int .i64 f1) := by rw [← hW0]; simp [go_sem]
          have fz : W0.frozen? ⟨w2.heap.size, 0, none⟩ = false := by rw [← hW0]; simp [go_sem]
          have bd : Below w2.heap.size w2 W0 := by rw [← hW0]; exact Below.drew (below_alloc1 _ _)
          have ex := keep bd x1
          rw [hW0]
          clear hW0
          ((refine wpAny_take (i := 0) (v := ?_) rfl (by kernel_rfl) ?_ ?_ (fun _ _ _ h => h) (Or.inl ⟨by rfl, ?_⟩) ?_; rotate_left; decide +kernel; decide +kernel; focus (intro w; go_simp; first | done | with_reducible rfl)); (refine wpAny_take (i := 2) (v := ?_) rfl (by kernel_rfl) ?_ ?_ (fun _ _ _ h => h) (Or.inl ⟨by rfl, ?_⟩) ?_; rotate_left; decide +kernel; decide +kernel; focus (intro w; go_simp; first | done | with_reducible rfl)))
          refine wpAny_ready (rs := [1, 3]) ?_ (by simp) ?_; decide +kernel
          refine AllReady.cons rfl (fun K hK => ?_) ?_
          · (go_simp; refine hK _ _ ?_; clear hK K)
            refine wpAny_ready (rs := [3]) ?_ (by simp) ?_; decide +kernel
            refine AllReady.cons rfl (fun K hK => ?_) ?_
            · (go_simp; refine hK _ _ ?_; clear hK K)
              ((refine wpAny_take (i := 4) (v := ?_) rfl (by kernel_rfl) ?_ ?_ (fun _ _ _ h => h) (Or.inl ⟨by rfl, ?_⟩) ?_; rotate_left; decide +kernel; decide +kernel; focus (intro w; go_simp; first | done | with_reducible rfl)); (refine wpAny_take (i := 5) (v := ?_) rfl (by kernel_rfl) ?_ ?_ (fun _ _ _ h => h) (Or.inl ⟨by rfl, ?_⟩) ?_; rotate_left; decide +kernel; decide +kernel; focus (intro w; go_simp; first | done | with_reducible rfl)))
              refine wpAny_ready (rs := [6]) ?_ (by simp) ?_; decide +kernel
              refine AllReady.cons rfl (fun K hK => ?_) ?_
              · go_simp
                refine (PS.out _).mono ?_
                rintro e w5 ⟨rfl, hww⟩
                obtain rfl := hww.symm
                go_simp
                refine hK _ _ ?_
                clear hK K hww
                ((refine wpAny_take (i := 7) (v := ?_) rfl (by kernel_rfl) ?_ ?_ (fun _ _ _ h => h) (Or.inl ⟨by rfl, ?_⟩) ?_; rotate_left; decide +kernel; decide +kernel; focus (intro w; go_simp; first | done | with_reducible rfl)); (refine wpAny_take (i := 8) (v := ?_) rfl (by kernel_rfl) ?_ ?_ (fun _ _ _ h => h) (Or.inl ⟨by rfl, ?_⟩) ?_; rotate_left; decide +kernel; decide +kernel; focus (intro w; go_simp; first | done | with_reducible rfl)))
                refine wpAny_ready (rs := [9]) ?_ (by simp) ?_; decide +kernel
                refine AllReady.cons rfl (fun K hK => ?_) ?_
                · (go_simp; refine hK _ _ ?_; clear hK K)
                  refine wpAny_done ?_ ?_ _; decide +kernel
                  go_wp2_with fail
                  go_meet
                  exact ⟨by rw [had]; simp [go_sem, e0, hwa], by simp [go_sem, e1], Below.setCell bd (Nat.le_refl _) _⟩
                exact AllReady.nil
              exact AllReady.nil
            exact AllReady.nil
          refine AllReady.cons rfl (fun K hK => ?_) ?_
          · (go_simp; refine hK _ _ ?_; clear hK K)
            ((refine wpAny_take (i := 4) (v := ?_) rfl (by kernel_rfl) ?_ ?_ (fun _ _ _ h => h) (Or.inl ⟨by rfl, ?_⟩) ?_; rotate_left; decide +kernel; decide +kernel; focus (intro w; go_simp; first | done | with_reducible rfl)); (refine wpAny_take (i := 5) (v := ?_) rfl (by kernel_rfl) ?_ ?_ (fun _ _ _ h => h) (Or.inl ⟨by rfl, ?_⟩) ?_; rotate_left; decide +kernel; decide +kernel; focus (intro w; go_simp; first | done | with_reducible rfl)))
            refine wpAny_ready (rs := [1, 6]) ?_ (by simp) ?_; decide +kernel
            refine AllReady.cons rfl (fun K hK => ?_) ?_
            · (go_simp; refine hK _ _ ?_; clear hK K)
              refine wpAny_ready (rs := [6]) ?_ (by simp) ?_; decide +kernel
              refine AllReady.cons rfl (fun K hK => ?_) ?_
              · go_simp
                refine (PS.out _).mono ?_
                rintro e w5 ⟨rfl, hww⟩
                obtain rfl := hww.symm
                go_simp
                refine hK _ _ ?_
                clear hK K hww
                ((refine wpAny_take (i := 7) (v := ?_) rfl (by kernel_rfl) ?_ ?_ (fun _ _ _ h => h) (Or.inl ⟨by rfl, ?_⟩) ?_; rotate_left; decide +kernel; decide +kernel; focus (intro w; go_simp; first | done | with_reducible rfl)); (refine wpAny_take (i := 8) (v := ?_) rfl (by kernel_rfl) ?_ ?_ (fun _ _ _ h => h) (Or.inl ⟨by rfl, ?_⟩) ?_; rotate_left; decide +kernel; decide +kernel; focus (intro w; go_simp; first | done | with_reducible rfl)))
                refine wpAny_ready (rs := [9]) ?_ (by simp) ?_; decide +kernel
                refine AllReady.cons rfl (fun K hK => ?_) ?_
                · (go_simp; refine hK _ _ ?_; clear hK K)
                  refine wpAny_done ?_ ?_ _; decide +kernel
                  go_wp2_with fail
                  go_meet
                  exact ⟨by rw [had]; simp [go_sem, e0, hwa], by simp [go_sem, e1], Below.setCell bd (Nat.le_refl _) _⟩
                exact AllReady.nil
              exact AllReady.nil
            refine AllReady.cons rfl (fun K hK => ?_) ?_
            · go_simp
              refine (PS.out _).mono ?_
              rintro e w5 ⟨rfl, hww⟩
              obtain rfl := hww.symm
              go_simp
              refine hK _ _ ?_
              clear hK K hww
              refine wpAny_ready (rs := [1]) ?_ (by simp) ?_; decide +kernel
              refine AllReady.cons rfl (fun K hK => ?_) ?_
              · (go_simp; refine hK _ _ ?_; clear hK K)
                ((refine wpAny_take (i := 7) (v := ?_) rfl (by kernel_rfl) ?_ ?_ (fun _ _ _ h => h) (Or.inl ⟨by rfl, ?_⟩) ?_; rotate_left; decide +kernel; decide +kernel; focus (intro w; go_simp; first | done | with_reducible rfl)); (refine wpAny_take (i := 8) (v := ?_) rfl (by kernel_rfl) ?_ ?_ (fun _ _ _ h => h) (Or.inl ⟨by rfl, ?_⟩) ?_; rotate_left; decide +kernel; decide +kernel; focus (intro w; go_simp; first | done | with_reducible rfl)))
                refine wpAny_ready (rs := [9]) ?_ (by simp) ?_; decide +kernel
                refine AllReady.cons rfl (fun K hK => ?_) ?_
                · (go_simp; refine hK _ _ ?_; clear hK K)
                  refine wpAny_done ?_ ?_ _; decide +kernel
                  go_wp2_with fail
                  go_meet
                  exact ⟨by rw [had]; simp [go_sem, e0, hwa], by simp [go_sem, e1], Below.setCell bd (Nat.le_refl _) _⟩
                exact AllReady.nil
              exact AllReady.nil
            exact AllReady.nil
          exact AllReady.nil
        · rw [hq, if_pos rfl] at had
          go_wp2_with fail
          go_meet
          refine ⟨?_, ?_, ?_⟩
          · rw [had]; simp [go_sem]
          · simp [go_sem]
          · exact below_alloc1 _ _
      case rest =>
        obtain ⟨d0, d1, hb⟩ := hcut
        replace c0 := keep hb c0
        replace c1 := keep hb c1
        replace x0 := keep hb x0
        replace x1 := keep hb x1
        replace x2 := keep hb x2
        replace x3 := keep hb x3
        replace HR2 := Lib.hid (HR2.out.below hb)
        have HB := Lib.hid (belTrans hB hb)
        have ms1 := MS.out
        clear hb hB
        go_wp2_with fail
        refine (J2.out _ HR2.out).mono ?_
        rintro e w5 ⟨rfl, hb⟩
        replace c0 := keep hb c0
        replace c1 := keep hb c1
        replace x0 := keep hb x0
        replace x1 := keep hb x1
        replace x2 := keep hb x2
        replace x3 := keep hb x3
        replace HR2 := Lib.hid (HR2.out.below hb)
        replace HB := Lib.hid (belTrans HB.out hb)
        clear hb d0 d1
        have t2 : (V' == 0) = false := by rw [beq_eq_false_iff_ne]; exact MS.out.2 (by first | rfl | trivial)
        go_upto_if 88 with fail
        go_cut [10, 11, 12] (fun s10 s11 s12 wx => Below w5.heap.size w5 wx)
        case first =>
          by_cases hl : bs.length < 10
          · have hl' : (bs.length : Int) < 10 := by omega
            obtain ⟨x, hx⟩ : ∃ x, m2 % 1000001 = x := ⟨_, rfl⟩
            have hxb : 0 ≤ x ∧ x ≤ 1000000 := by omega
            have mb := milder_bag (f := f) (x := x) hA hf0 hf HG.out hxb.1
            rw [HV.out] at mb
            have hgc : Good (bs ++ [⟨x, x, A⟩]) := by
              intro b hb
              rw [List.mem_append, List.mem_singleton] at hb
              rcases hb with hb | rfl
              · exact HG.out b hb
              · dsimp only; omega
            have j4 := J3.out (bs ++ [⟨x, x, A⟩]) (by simp; omega) hgc
            rw [← judgeR_eq] at j4
            obtain ⟨V2, hV2⟩ : ∃ V2, judgeR A f (bs ++ [⟨x, x, A⟩]) = V2 := ⟨_, rfl⟩
            rw [hV2] at j4 mb
            have J4 := Lib.hid j4
            have MB := Lib.hid mb
            have t3 : (V2 == 0) = false := by rw [beq_eq_false_iff_ne]; exact MB.out.2 (by first | rfl | trivial)
            have L1 : (bagRows bs).length ≤ 10 := by rw [bagRows, List.length_map]; omega
            have L2 : (bagRows [⟨x, x, (A : Int)⟩]).length = 1 := rfl
            obtain ⟨i1, hi1, hz01, hz11, hz21⟩ := info_parts info57
            clear j4 mb hgc hV2
            go_upto_region 12 with fail
            have HC0 := Lib.hid c0
            have HC1 := Lib.hid c1
            go_region_held3 (fun w' => w'.cell? ⟨w.heap.size, 0, none⟩ = some (.int .i64 A) ∧ w'.cell? ⟨w.heap.size, 1, none⟩ = some (.int .i64 f) ∧ Below w5.heap.size w5 w')
              (first | exact ⟨keep hbb HC0.out, keep hbb HC1.out, hbb⟩ | (go_split_ands; refine s_three HC0.out HC1.out ?_; with_reducible first | exact belTrans (by assumption) hb | (repeat' first | assumption | exact Below.refl _ _ | refine Below.drew ?_ | refine belAlloc ?_ _)))
              (first
                | (go_at_call 38; refine (span_any _ _ _).mono ?_; rintro e w3 ⟨rfl, hb⟩)
                | (go_loud (refine step_ap3 w5 i1 hi1 hz01 hz11 hz21 rfl (.tmp 95) (.tmp 96) rfl _ bs (by rfl) (by rfl) HR2.out hlen (by first
                    | exact owns_empty w5 57 3
                    | exact owns_below (owns_emptyD w5) hb
                    | exact (owns_below (owns_emptyD w5) hb).alloc _
                    | exact owns_base (owns_empty w3 57 3) (by have := hb.size; simpa using this)
                    | exact (owns_base (owns_empty w3 57 3) (by have := hb.size; simpa using this)).alloc _
                    | exact owns_base (owns_empty (w3.alloc (.cells #[.int .i64 x, .int .i64 x, .int .i64 A] 57)) 57 3) (by have := hb.size; simp at this ⊢; omega)) (by with_reducible (repeat' first | assumption | exact Below.refl _ _ | exact belTrans (by assumption) hb | refine Below.drew ?_ | refine belAlloc ?_ _)) ?_); intro V4 W4 own4 hg4 hbb; try (first
                    | have SLc := Rd.grown (rd_bag w3 x x A) hg4 (by have := hb.size; simp [Value.ownBlock] at this ⊢; omega) (by simp)
                    | have SLc := Rd.grown (rd_bag (w3.alloc (.cells #[] 57)) x x A) hg4 (by simp [Value.ownBlock]) (by simp)
                    | have SLc := Rd.grown ((rd_bag w3 x x A).below (below_alloc1 _ (.cells #[] 57))) hg4 (by simp [Value.ownBlock]) (by simp)))
                | (go_loud (refine step_ap11 w5 i1 hi1 hz01 hz11 hz21 rfl (.tmp 97) (.tmp 104) rfl _ bs ⟨x, x, A⟩ (by rfl) (by rfl) hlen (by first | exact SLc | exact rd_bag w3 x x A | exact rd_bag W4 x x A) (by first | exact own4 | exact own4.alloc _ | exact (owns_below own4 hb).alloc _) (by with_reducible (repeat' first | assumption | exact Below.refl _ _ | exact belTrans (by assumption) hb | refine Below.drew ?_ | refine belAlloc ?_ _)) ?_); intro V5 W5 rd5 hbb)
                | (go_at_call 30; refine (J4.out _ _ rd5).mono ?_; rintro e w6 ⟨rfl, hb⟩))
            all_goals
              rename_i hH2
              have hfin := hH2.2.2
              clear hH2
              go_wp2_with fail
              go_meet
              exact hfin
          · have hl' : ¬ (bs.length : Int) < 10 := by omega
            go_wp2_with fail
            go_meet
            exact Below.refl _ _
        case rest =>
          have hb := hcut
          replace c0 := keep hb c0
          replace c1 := keep hb c1
          replace x0 := keep hb x0
          replace x1 := keep hb x1
          replace x3 := keep hb x3
          replace HR2 := Lib.hid (HR2.out.below hb)
          replace HB := Lib.hid (belTrans HB.out hb)
          clear hb hcut x2
          by_cases hl0 : bs.length = 0
          · have hl0' : ((bs.length : Int) == 0) = true := by rw [beq_iff_eq]; omega
            clear hl0
            go_wp2_with fail
            refine (awake_any _).mono ?_
            rintro e w6 ⟨rfl, hb⟩
            replace HB := Lib.hid (belTrans HB.out hb)
            go_wp2_with fail
            go_ret
            exact ⟨rfl, HB.out⟩
          · have hl0' : ((bs.length : Int) == 0) = false := by rw [beq_eq_false_iff_ne]; omega
            clear hl0
            obtain ⟨i1, hi1, hz01, hz11, hz21⟩ := info_parts info57
            have L1 : (bagRows bs).length ≤ 10 := by rw [bagRows, List.length_map]; omega
            obtain ⟨w7, rfl⟩ : ∃ w7, w7 = wc := ⟨_, rfl⟩
            go_wp2_with (at_builtin; refine wpList_append_rd rfl (.tmp 131) (.tmp 132) 47 rfl w7.heap.size 57 i1 (.agg #[.int .i64 0, .int .i64 0, .int .i64 0]) 3 24 Try.underlying47 hi1 hz01 hz11 hz21 rfl (by decide) _ 0 [] (by rfl) (owns_empty w7 57 3) _ (bagRows bs) (by rfl) (HR2.out.below (below_alloc1 _ _)) (bagRows_one _) (by unfold maxLen; omega) (by omega) (by simp) ?_)
            intro V4 w8 own4 hg4
            have rd4 := Rd.of_owns own4 (fun r hr => by obtain ⟨z, -, rfl⟩ := List.mem_map.1 hr; rfl)
            have hb : Below w7.heap.size w7 w8 := (below_alloc1 w7 (.cells #[] 57)).trans (grown_below hg4 (by simp) (fun j e => by simp [Value.ownBlock] at e; omega))
            have hl4 : (bagRows bs).length = bs.length := by rw [bagRows, List.length_map]
            rw [hl4] at own4
            obtain ⟨g, cap, cur, rfl, hgb, hgc, hcap, -⟩ : ∃ g cap cur, V4 = .slice (some ⟨g, 0, none⟩) bs.length cap ∧ w7.heap.size ≤ g ∧ w8.heap[g]? = some (.cells cur 57 (0, 0)) ∧ bs.length ≤ cap ∧ True := by
              rcases own4.2 with ⟨-, h0⟩ | ⟨g, cap, cur, e, h1, h2, h3, -⟩
              · simp [h0] at hl0'
              · exact ⟨g, cap, cur, e, h1, h2, h3, trivial⟩
            have hgw : w.heap.size ≤ g := Nat.le_trans HB.out.size hgb
            have fzg : ∀ o, w8.frozen? ⟨g, o, none⟩ = false := fun o => frozen_of_row hgc
            obtain ⟨a4, cc4, e4, -, -, hr4⟩ := rd4.bags
            simp only [Value.slice.injEq] at e4
            obtain ⟨rfl, -, rfl⟩ := e4
            obtain ⟨b4, o4, e5, hbl4, hc4⟩ := hr4 (by rcases Nat.eq_zero_or_pos bs.length with e | e; (· simp [e] at hl0'); (· exact e))
            simp only [Option.some.injEq, Addr.mk.injEq, and_true] at e5
            obtain ⟨rfl, rfl⟩ := e5
            have RD4 := Lib.hid rd4
            replace c0 := keep hb c0
            replace c1 := keep hb c1
            replace x1 := keep hb x1
            replace x3 := keep hb x3
            replace HB := Lib.hid (belTrans HB.out hb)
            have HB78 := Lib.hid hb
            have hlen0 : 0 < bs.length := by
              rcases Nat.eq_zero_or_pos bs.length with e | e
              · simp [e] at hl0'
              · exact e
            obtain ⟨ki, hki, hkl⟩ : ∃ ki : Nat, m3 % bs.length = ki ∧ ki < bs.length := ⟨(m3 % bs.length).toNat, by have := Int.emod_nonneg m3 (by omega : (bs.length : Int) ≠ 0); omega, by have := Int.emod_nonneg m3 (by omega : (bs.length : Int) ≠ 0); have := Int.emod_lt_of_pos m3 (by omega : (0 : Int) < bs.length); omega⟩
            obtain ⟨kd, hkd⟩ : ∃ kd : Nat, m1 / 8 % 8 = kd := ⟨(m1 / 8 % 8).toNat, by omega⟩
            have hkd8 : kd < 8 := by omega
            have u1 : (IntKind.i64.wrap m3).tmod bs.length = ki := by rw [wrap_small m3 (by omega), Int.tmod_eq_emod_of_nonneg q3.1, hki]
            have u2 : ((IntKind.i64.wrap m1).tdiv 8).tmod 8 = kd := by
              rw [wrap_small m1 (by omega), Int.tdiv_eq_ediv_of_nonneg q1.1, Int.tmod_eq_emod_of_nonneg (by omega), hkd]
            obtain ⟨y1, y2, y3⟩ := hc4 ki hkl
            have mK := HG.out bs[ki] (List.getElem_mem hkl)
            obtain ⟨K, hK⟩ : ∃ K : Nat, bs[ki].kinds = K := ⟨bs[ki].kinds.toNat, by omega⟩
            rw [hK] at y3 mK
            have FK := fun h hne => fewer_kinds (A := A) (f := f) hA hf0 hf HG.out hkl hK hkd8 h hne
            have HFK := Lib.hid FK
            have hkl2 : (ki : Int) < bs.length := by omega
            rw [Nat.zero_add] at y1 y2 y3
            clear own4 rd4 hg4 hb HR2 hc4 hr4 FK hK
            go_wp2_with fail
            go_quiet (fail)
            all_goals go_wp2_with fail
            rw [hki, hkd]
            have hd := below_drewN (Below.refl w8.heap.size w8) nq
            replace c0 := keep hd c0
            replace c1 := keep hd c1
            replace y1 := keep hd y1
            replace y2 := keep hd y2
            replace y3 := keep hd y3
            have fz3 : (w8.drewN nq).frozen? ⟨g, ki * 3 + 2, none⟩ = false := keepF hd (by have := lt_of_cell y3; simpa using this) (fzg _)
            replace RD4 := Lib.hid (RD4.out.below hd)
            replace HB := Lib.hid (belTrans HB.out hd)
            have HB7q := Lib.hid (belTrans HB78.out hd)
            clear fzg x1 x3 hd HB78
            generalize w8.drewN nq = wq at *
            obtain ⟨T2, hT2⟩ : ∃ T2, 2 ^ kd = T2 := ⟨_, rfl⟩
            have pk := sets_any kd (by omega)
            rw [hT2] at pk
            have PK := Lib.hid pk
            have HT2 := Lib.hid hT2
            have jb := J3.out bs hlen HG.out
            rw [← judgeR_eq, HV.out] at jb
            have JB := Lib.hid jb
            clear pk hT2 jb
            cases b1 : hasK K kd
            · go_quiet (first | (go_at_call 52; exact Calls.quiet_of_same (has_at K kd _ b1 (by omega) (by omega) _)) | (go_at_call 50; exact Calls.quiet_of_same (PK.out _)))
              have hd := below_drewN (Below.refl wq.heap.size wq) nq
              have hfin := belTrans HB.out hd
              clear HFK HT2 PK y1 y2 y3 fz3 HB7q
              go_wp2_with fail
              refine (JB.out _ _ (RD4.out.below hd)).mono ?_
              rintro e w9 ⟨rfl, hb⟩
              replace hfin := belTrans hfin hb
              go_wp2_with fail
              refine (awake_any _).mono ?_
              rintro e w10 ⟨rfl, hb⟩
              replace hfin := belTrans hfin hb
              go_wp2_with fail
              go_ret
              exact ⟨rfl, hfin⟩
            · by_cases hKe : K = T2
              · have hne : ((K : Int) != T2) = false := by rw [bne_eq_false_iff_eq]; omega
                clear hKe
                go_quiet (first | (go_at_call 52; exact Calls.quiet_of_same (has_at K kd _ b1 (by omega) (by omega) _)) | (go_at_call 50; exact Calls.quiet_of_same (PK.out _)))
                have hd := below_drewN (Below.refl wq.heap.size wq) nq
                have hfin := belTrans HB.out hd
                clear HFK HT2 PK y1 y2 y3 fz3 HB7q
                go_wp2_with fail
                refine (JB.out _ _ (RD4.out.below hd)).mono ?_
                rintro e w9 ⟨rfl, hb⟩
                replace hfin := belTrans hfin hb
                go_wp2_with fail
                refine (awake_any _).mono ?_
                rintro e w10 ⟨rfl, hb⟩
                replace hfin := belTrans hfin hb
                go_wp2_with fail
                go_ret
                exact ⟨rfl, hfin⟩
              · have hne : ((K : Int) != T2) = true := by rw [bne_iff_ne]; omega
                obtain ⟨hgd, hsame⟩ := HFK.out b1 (by rw [HT2.out]; exact hKe)
                have hlk := (less_kind (by omega : 1 ≤ K ∧ K ≤ 255) hkd8 b1 (by rw [HT2.out]; exact hKe)).1
                rw [HT2.out] at hgd hsame hlk
                have hT2K : T2 ≤ K := by
                  rcases Nat.le_total T2 K with e | e
                  · exact e
                  · have := hgd _ (List.mem_iff_getElem.2 ⟨ki, by rw [List.length_set]; exact hkl, List.getElem_set_self _⟩)
                    dsimp only at this
                    omega
                have hsub : ((K - T2 : Nat) : Int) = (K : Int) - T2 := by omega
                rw [hsub] at hgd hsame
                have j5 := J3.out (bs.set ki ⟨bs[ki].lo, bs[ki].hi, (K : Int) - T2⟩) (by rw [List.length_set]; exact hlen) hgd
                have rd5 := fun (w' : World) (h : Rd w' 3 (.slice (some ⟨g, 0, none⟩) bs.length cap) (bagRows bs)) => h.setKinds hkl ((K : Int) - T2)
                rw [← judgeR_eq] at j5
                rw [HV.out] at hsame
                obtain ⟨V3, hV3⟩ : ∃ V3, judgeR A f (bs.set ki ⟨bs[ki].lo, bs[ki].hi, (K : Int) - T2⟩) = V3 := ⟨_, rfl⟩
                rw [hV3] at j5 hsame
                have J5 := Lib.hid j5
                have RD5 := Lib.hid rd5
                have HS5 := Lib.hid hsame
                clear j5 rd5 hsame hgd hV3 HFK HT2 JB
                have hws : IntKind.i64.wrap ((K : Int) - T2) = (K : Int) - T2 := by rw [wrap_small _ (by omega)]
                have HWS := Lib.hid hws
                clear hws hKe hlk hsub
                go_quiet (first | (go_at_call 52; exact Calls.quiet_of_same (has_at K kd _ b1 (by omega) (by omega) _)) | (go_at_call 50; exact Calls.quiet_of_same (PK.out _)))
                have hd := below_drewN (Below.refl wq.heap.size wq) nq
                replace c0 := keep hd c0
                replace c1 := keep hd c1
                replace y1 := keep hd y1
                replace y2 := keep hd y2
                replace y3 := keep hd y3
                replace fz3 := keepF hd (by have := lt_of_cell y3; simpa using this) fz3
                replace RD4 := Lib.hid (RD4.out.below hd)
                replace HB := Lib.hid (belTrans HB.out hd)
                replace HB7q := Lib.hid (belTrans HB7q.out hd)
                clear hd
                generalize wq.drewN nq = wz at *
                go_upto_region 20 with fail
                refine wp_region_k (by kernel_rfl) 13 rfl ?_
                ((refine wpAny_take (i := 0) (v := ?_) rfl (by kernel_rfl) ?_ ?_ (fun _ _ _ h => h) (Or.inl ⟨by rfl, ?_⟩) ?_; rotate_left; decide +kernel; decide +kernel; focus (intro w; go_simp; first | done | with_reducible rfl)); (refine wpAny_take (i := 1) (v := ?_) rfl (by kernel_rfl) ?_ ?_ (fun _ _ _ h => h) (Or.inl ⟨by rfl, ?_⟩) ?_; rotate_left; decide +kernel; decide +kernel; focus (intro w; go_simp; first | done | with_reducible rfl)); (refine wpAny_take (i := 2) (v := ?_) rfl (by kernel_rfl) ?_ ?_ (fun _ _ _ h => h) (Or.inl ⟨by rfl, ?_⟩) ?_; rotate_left; decide +kernel; decide +kernel; focus (intro w; go_simp; first | done | with_reducible rfl)); (refine wpAny_take (i := 3) (v := ?_) rfl (by kernel_rfl) ?_ ?_ (fun _ _ _ h => h) (Or.inl ⟨by rfl, ?_⟩) ?_; rotate_left; decide +kernel; decide +kernel; focus (intro w; go_simp; first | done | with_reducible rfl)); (refine wpAny_take (i := 4) (v := ?_) rfl (by kernel_rfl) ?_ ?_ (fun _ _ _ h => h) (Or.inl ⟨by rfl, ?_⟩) ?_; rotate_left; decide +kernel; decide +kernel; focus (intro w; go_simp; first | done | with_reducible rfl)); (refine wpAny_take (i := 5) (v := ?_) rfl (by kernel_rfl) ?_ ?_ (fun _ _ _ h => h) (Or.inl ⟨by rfl, ?_⟩) ?_; rotate_left; decide +kernel; decide +kernel; focus (intro w; go_simp; first | done | with_reducible rfl)); (refine wpAny_take (i := 7) (v := ?_) rfl (by kernel_rfl) ?_ ?_ (fun _ _ _ h => h) (Or.inl ⟨by rfl, ?_⟩) ?_; rotate_left; decide +kernel; decide +kernel; focus (intro w; go_simp; first | done | with_reducible rfl)))
                refine wpAny_ready (rs := [6, 8]) ?_ (by simp) ?_; decide +kernel
                refine AllReady.cons rfl (fun K hK => ?_) ?_
                · (go_simp; refine hK _ _ ?_; clear hK K)
                  refine wpAny_ready (rs := [8]) ?_ (by simp) ?_; decide +kernel
                  refine AllReady.cons rfl (fun K hK => ?_) ?_
                  · go_simp
                    refine (PK.out _).mono ?_
                    rintro e w9 ⟨rfl, hww⟩
                    obtain rfl := hww.symm
                    go_simp
                    refine hK _ _ ?_
                    clear hK K hww
                    ((refine wpAny_take (i := 9) (v := ?_) rfl (by kernel_rfl) ?_ ?_ (fun _ _ _ h => h) (Or.inl ⟨by rfl, ?_⟩) ?_; rotate_left; decide +kernel; decide +kernel; focus (intro w; go_simp; first | done | with_reducible rfl)); (refine wpAny_take (i := 10) (v := ?_) rfl (by kernel_rfl) ?_ ?_ (fun _ _ _ h => h) (Or.inl ⟨by rfl, ?_⟩) ?_; rotate_left; decide +kernel; decide +kernel; focus (intro w; go_simp; first | done | with_reducible rfl)); (refine wpAny_take (i := 11) (v := ?_) rfl (by kernel_rfl) ?_ ?_ (fun _ _ _ h => h) (Or.inl ⟨by rfl, ?_⟩) ?_; rotate_left; decide +kernel; decide +kernel; focus (intro w; go_simp; first | done | with_reducible rfl)))
                    refine wpAny_ready (rs := [12]) ?_ (by simp) ?_; decide +kernel
                    refine AllReady.cons rfl (fun K hK => ?_) ?_
                    · (go_simp; refine hK _ _ ?_; clear hK K)
                      refine wpAny_done ?_ ?_ _; decide +kernel
                      go_wp2_with fail
                      refine (J5.out _ _ (RD5.out _ (RD4.out.below (Below.drew (Below.refl _ _))))).mono ?_
                      rintro e w9 ⟨rfl, hb⟩
                      have hfin := belTrans ((HB.out.drew).setCell hgw _) hb
                      go_wp2_with fail
                      refine (awake_any _).mono ?_
                      rintro e w10 ⟨rfl, hb⟩
                      replace hfin := belTrans hfin hb
                      go_wp2_with fail
                      go_ret
                      exact ⟨rfl, hfin⟩
                    exact AllReady.nil
                  exact AllReady.nil
                refine AllReady.cons rfl (fun K hK => ?_) ?_
                · go_simp
                  refine (PK.out _).mono ?_
                  rintro e w9 ⟨rfl, hww⟩
                  obtain rfl := hww.symm
                  go_simp
                  refine hK _ _ ?_
                  clear hK K hww
                  refine wpAny_ready (rs := [6]) ?_ (by simp) ?_; decide +kernel
                  refine AllReady.cons rfl (fun K hK => ?_) ?_
                  · (go_simp; refine hK _ _ ?_; clear hK K)
                    ((refine wpAny_take (i := 9) (v := ?_) rfl (by kernel_rfl) ?_ ?_ (fun _ _ _ h => h) (Or.inl ⟨by rfl, ?_⟩) ?_; rotate_left; decide +kernel; decide +kernel; focus (intro w; go_simp; first | done | with_reducible rfl)); (refine wpAny_take (i := 10) (v := ?_) rfl (by kernel_rfl) ?_ ?_ (fun _ _ _ h => h) (Or.inl ⟨by rfl, ?_⟩) ?_; rotate_left; decide +kernel; decide +kernel; focus (intro w; go_simp; first | done | with_reducible rfl)); (refine wpAny_take (i := 11) (v := ?_) rfl (by kernel_rfl) ?_ ?_ (fun _ _ _ h => h) (Or.inl ⟨by rfl, ?_⟩) ?_; rotate_left; decide +kernel; decide +kernel; focus (intro w; go_simp; first | done | with_reducible rfl)))
                    refine wpAny_ready (rs := [12]) ?_ (by simp) ?_; decide +kernel
                    refine AllReady.cons rfl (fun K hK => ?_) ?_
                    · (go_simp; refine hK _ _ ?_; clear hK K)
                      refine wpAny_done ?_ ?_ _; decide +kernel
                      go_wp2_with fail
                      refine (J5.out _ _ (RD5.out _ (RD4.out.below (Below.drew (Below.refl _ _))))).mono ?_
                      rintro e w9 ⟨rfl, hb⟩
                      have hfin := belTrans ((HB.out.drew).setCell hgw _) hb
                      go_wp2_with fail
                      refine (awake_any _).mono ?_
                      rintro e w10 ⟨rfl, hb⟩
                      replace hfin := belTrans hfin hb
                      go_wp2_with fail
                      go_ret
                      exact ⟨rfl, hfin⟩
                    exact AllReady.nil
                  exact AllReady.nil
                exact AllReady.nil
  · have j1 := judge_no a f v bs _ HR.out he
    have j2 := fun w' (h : Rd w' 3 v (bagRows bs)) => refBags_any a f v bs w' h
    generalize beginErr a f bs = E at *
    have t1 : (E != 0) = true := by rw [bne_iff_ne]; exact he
    have J1 := Lib.hid j1
    have J2 := Lib.hid j2
    clear j1 j2 he
    go_enter Try.func15, Try.ntmps15
    go_wp2_with fail
    refine J1.out.mono ?_
    rintro e w1 ⟨rfl, hb⟩
    have c0 : w1.cell? ⟨w.heap.size, 0, none⟩ = some (.int .i64 a) := keep hb (by simp [go_sem])
    have c1 : w1.cell? ⟨w.heap.size, 1, none⟩ = some (.int .i64 f) := keep hb (by simp [go_sem])
    have HR1 := Lib.hid (HR.out.below hb)
    clear J1
    have hk : Below w.heap.size w w1 := by (repeat (first | assumption | exact Below.refl _ _ | refine Below.alloc ?_ (by (try simp) <;> omega) _ | refine below_drewN ?_ _ | refine Below.drew ?_ | refine Below.setCell ?_ (by (try simp) <;> omega) _ | refine Below.trans ?_ (Below.mono (by assumption) (by (try simp) <;> omega))))
    replace hB := hB.trans (hk.mono hB.size)
    have hzw1 := hB.size
    clear hk hb
    go_wp2_with fail
    refine (J2.out _ HR1.out).mono ?_
    rintro e w2 ⟨rfl, hb⟩
    have hk : Below w1.heap.size w1 w2 := by (repeat (first | assumption | exact Below.refl _ _ | refine Below.alloc ?_ (by (try simp) <;> omega) _ | refine below_drewN ?_ _ | refine Below.drew ?_ | refine Below.setCell ?_ (by (try simp) <;> omega) _ | refine Below.trans ?_ (Below.mono (by assumption) (by (try simp) <;> omega))))
    replace hB := hB.trans (hk.mono hB.size)
    have hzw2 := hB.size
    replace c0 := keep hk c0
    replace c1 := keep hk c1
    have lc0 := lt_of_cell c0
    clear hk hb
    go_wp2_with fail
    refine (awake_any _).mono ?_
    rintro e w3 ⟨rfl, hb⟩
    have hk : Below w2.heap.size w2 w3 := by (repeat (first | assumption | exact Below.refl _ _ | refine Below.alloc ?_ (by (try simp) <;> omega) _ | refine below_drewN ?_ _ | refine Below.drew ?_ | refine Below.setCell ?_ (by (try simp) <;> omega) _ | refine Below.trans ?_ (Below.mono (by assumption) (by (try simp) <;> omega))))
    replace hB := hB.trans (hk.mono hB.size)
    have hzw3 := hB.size
    replace c0 := keep hk c0
    replace c1 := keep hk c1
    have lc0 := lt_of_cell c0
    clear hk hb
    go_wp2_with fail
    go_ret
    exact ⟨rfl, hB⟩

theorem milder_law (a f : Int) (v : Value) (bs : List Bag) (m0 m1 m2 m3 : Int) (w : World) (h : Rd w 3 v (bagRows bs)) (hm : (0 ≤ m0 ∧ m0 ≤ 65535) ∧ (0 ≤ m1 ∧ m1 ≤ 255) ∧ (0 ≤ m2 ∧ m2 ≤ 4294967295) ∧ (0 ≤ m3 ∧ m3 ≤ 255)) :
    Calls Try.prog 15 #[.agg #[.int .i64 a, .int .i64 f], v, .agg #[.int .u16 m0, .int .u8 m1, .int .u32 m2, .int .u8 m3]] w fun e w' => e = .returned (.bool true) ∧ Below w.heap.size w w' := by
  rcases verdict_range a f bs with hv | hv | hv
  · exact milder_lawa a f v bs m0 m1 m2 m3 w h hm fun _ => hv
  · exact milder_lawb a f v bs m0 m1 m2 m3 w h hm fun _ => hv
  · exact milder_lawc a f v bs m0 m1 m2 m3 w h hm fun _ => hv

end Go.Proofs.Ytnombgiacfeloaa
