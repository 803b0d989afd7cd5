/- The walks of mould's Check and of the reference's. -/
import Derived.Test.YtcncmlpppabbcaaGreatD2
namespace Go.Proofs.YtcncmlpppabbcaaGreat
set_option linter.unusedVariables false
set_option linter.unusedSimpArgs false
open Go.RowKit

set_option maxRecDepth 100000 in
set_option maxHeartbeats 4000000 in
theorem checkM_any (m : Mo) (w : World) : Calls Tryz.prog 30 #[.agg m.cells] w fun e w' => e = .returned (.int .i64 (chkM m)) ∧ Below w.heap.size w w' := by
  have HM := Lib.hid (MoAt.new w m 25)
  have HB := Lib.hid (below_alloc1 w (.cells m.cells 25))
  unfold Mo.cells
  go_enter Tryz.func30, Tryz.ntmps30
  go_upto_region 1 with fail
  obtain ⟨w0, hw0⟩ : ∃ w0, w.alloc (.cells m.cells 25) = w0 := ⟨_, rfl⟩
  rw [hw0] at HM HB
  have hw0' : w.alloc (.cells #[.int .i64 m.rings, .int .i64 m.give, .int .i64 m.plo, .int .i64 m.phi, .int .i64 m.wlo, .int .i64 m.whi, .int .i64 m.set, .int .i64 m.shrink, .int .i64 m.skin, .int .i64 m.fill, .int .i64 m.gap, .int .i64 m.deep] 25) = w0 := hw0
  rw [hw0']
  clear hw0 hw0'

  have c0 := HM.out.c0
  go_wp2_with fail
  refine (outM1 (1) (8) m.rings w0 _ rfl).mono ?_
  rintro e w1 ⟨rfl, hb⟩
  replace HM := Lib.hid (HM.out.below hb)
  replace HB := Lib.hid (belT HB.out hb)
  clear hb c0
  by_cases e1 : anyOut (1) (8) [m.rings] = true
  · have E : chkM m = 7 := by simp [chkM, e1]
    rw [e1]
    have EE := Lib.hid E
    clear E e1
    go_wp2_with fail
    go_ret
    exact ⟨by rw [EE.out] <;> rfl, HB.out⟩
  · replace e1 : anyOut (1) (8) [m.rings] = false := by simpa using e1
    rw [e1]
    have c1 := HM.out.c1
    go_wp2_with fail
    refine (outM1 (1) (500) m.give w1 _ rfl).mono ?_
    rintro e w2 ⟨rfl, hb⟩
    replace HM := Lib.hid (HM.out.below hb)
    replace HB := Lib.hid (belT HB.out hb)
    clear hb c1
    by_cases e2 : anyOut (1) (500) [m.give] = true
    · have E : chkM m = 7 := by simp [chkM, e1, e2]
      rw [e2]
      have EE := Lib.hid E
      clear E e1 e2
      go_wp2_with fail
      go_ret
      exact ⟨by rw [EE.out] <;> rfl, HB.out⟩
    · replace e2 : anyOut (1) (500) [m.give] = false := by simpa using e2
      rw [e2]
      have c7 := HM.out.c7
      go_wp2_with fail
      refine (outM1 (0) (200) m.shrink w2 _ rfl).mono ?_
      rintro e w3 ⟨rfl, hb⟩
      replace HM := Lib.hid (HM.out.below hb)
      replace HB := Lib.hid (belT HB.out hb)
      clear hb c7
      by_cases e3 : anyOut (0) (200) [m.shrink] = true
      · have E : chkM m = 7 := by simp [chkM, e1, e2, e3]
        rw [e3]
        have EE := Lib.hid E
        clear E e1 e2 e3
        go_wp2_with fail
        go_ret
        exact ⟨by rw [EE.out] <;> rfl, HB.out⟩
      · replace e3 : anyOut (0) (200) [m.shrink] = false := by simpa using e3
        rw [e3]
        have c0 := HM.out.c0
        have c8 := HM.out.c8
        go_wp2_with fail
        refine (outM1 (0) (m.rings) m.skin w3 _ rfl).mono ?_
        rintro e w4 ⟨rfl, hb⟩
        replace HM := Lib.hid (HM.out.below hb)
        replace HB := Lib.hid (belT HB.out hb)
        clear hb c0 c8
        by_cases e4 : anyOut (0) (m.rings) [m.skin] = true
        · have E : chkM m = 7 := by simp [chkM, e1, e2, e3, e4]
          rw [e4]
          have EE := Lib.hid E
          clear E e1 e2 e3 e4
          go_wp2_with fail
          go_ret
          exact ⟨by rw [EE.out] <;> rfl, HB.out⟩
        · replace e4 : anyOut (0) (m.rings) [m.skin] = false := by simpa using e4
          rw [e4]
          have c2 := HM.out.c2
          have c3 := HM.out.c3
          have c4 := HM.out.c4
          have c5 := HM.out.c5
          have c6 := HM.out.c6
          go_wp2_with fail
          refine (outM_any 0 2000 _ [m.plo, m.phi, m.wlo, m.whi, m.set] _ (Rd.made w4 [.int .i64 m.plo, .int .i64 m.phi, .int .i64 m.wlo, .int .i64 m.whi, .int .i64 m.set] 3 (by simp))).mono ?_
          rintro e w5 ⟨rfl, hb⟩
          replace hb := belT (below_alloc1 _ _) hb
          replace HM := Lib.hid (HM.out.below hb)
          replace HB := Lib.hid (belT HB.out hb)
          clear hb c2 c3 c4 c5 c6
          by_cases e5 : anyOut (0) (2000) [m.plo, m.phi, m.wlo, m.whi, m.set] = true
          · have E : chkM m = 7 := by simp [chkM, e1, e2, e3, e4, e5]
            rw [e5]
            have EE := Lib.hid E
            clear E e1 e2 e3 e4 e5
            go_wp2_with fail
            go_ret
            exact ⟨by rw [EE.out] <;> rfl, HB.out⟩
          · replace e5 : anyOut (0) (2000) [m.plo, m.phi, m.wlo, m.whi, m.set] = false := by simpa using e5
            rw [e5]
            have c9 := HM.out.c9
            go_wp2_with fail
            refine (outM1 (1) (100000) m.fill w5 _ rfl).mono ?_
            rintro e w6 ⟨rfl, hb⟩
            replace HM := Lib.hid (HM.out.below hb)
            replace HB := Lib.hid (belT HB.out hb)
            clear hb c9
            by_cases e6 : anyOut (1) (100000) [m.fill] = true
            · have E : chkM m = 7 := by simp [chkM, e1, e2, e3, e4, e5, e6]
              rw [e6]
              have EE := Lib.hid E
              clear E e1 e2 e3 e4 e5 e6
              go_wp2_with fail
              go_ret
              exact ⟨by rw [EE.out] <;> rfl, HB.out⟩
            · replace e6 : anyOut (1) (100000) [m.fill] = false := by simpa using e6
              rw [e6]
              have c10 := HM.out.c10
              go_wp2_with fail
              refine (outM1 (1) (60) m.gap w6 _ rfl).mono ?_
              rintro e w7 ⟨rfl, hb⟩
              replace HM := Lib.hid (HM.out.below hb)
              replace HB := Lib.hid (belT HB.out hb)
              clear hb c10
              by_cases e7 : anyOut (1) (60) [m.gap] = true
              · have E : chkM m = 7 := by simp [chkM, e1, e2, e3, e4, e5, e6, e7]
                rw [e7]
                have EE := Lib.hid E
                clear E e1 e2 e3 e4 e5 e6 e7
                go_wp2_with fail
                go_ret
                exact ⟨by rw [EE.out] <;> rfl, HB.out⟩
              · replace e7 : anyOut (1) (60) [m.gap] = false := by simpa using e7
                rw [e7]
                have c11 := HM.out.c11
                go_wp2_with fail
                refine (outM1 (0) (100000) m.deep w7 _ rfl).mono ?_
                rintro e w8 ⟨rfl, hb⟩
                replace HM := Lib.hid (HM.out.below hb)
                replace HB := Lib.hid (belT HB.out hb)
                clear hb c11
                by_cases e8 : anyOut (0) (100000) [m.deep] = true
                · have E : chkM m = 7 := by simp [chkM, e1, e2, e3, e4, e5, e6, e7, e8]
                  rw [e8]
                  have EE := Lib.hid E
                  clear E e1 e2 e3 e4 e5 e6 e7 e8
                  go_wp2_with fail
                  go_ret
                  exact ⟨by rw [EE.out] <;> rfl, HB.out⟩
                · replace e8 : anyOut (0) (100000) [m.deep] = false := by simpa using e8
                  rw [e8]
                  have c2 := HM.out.c2
                  have c3 := HM.out.c3
                  have c4 := HM.out.c4
                  have c5 := HM.out.c5
                  by_cases h1 : m.phi < m.plo
                  · skip
                    have E : chkM m = 2 := by simp [chkM, e1, e2, e3, e4, e5, e6, e7, e8, h1]
                    have EE := Lib.hid E
                    clear E e1 e2 e3 e4 e5 e6 e7 e8
                    go_wp2_with fail
                    go_ret
                    exact ⟨by rw [EE.out] <;> rfl, HB.out⟩
                  · have h1' : m.plo ≤ m.phi := by omega
                    by_cases h2 : m.whi < m.wlo
                    · skip
                      have E : chkM m = 2 := by simp [chkM, e1, e2, e3, e4, e5, e6, e7, e8, h1, h2]
                      have EE := Lib.hid E
                      clear E e1 e2 e3 e4 e5 e6 e7 e8
                      go_wp2_with fail
                      go_ret
                      exact ⟨by rw [EE.out] <;> rfl, HB.out⟩
                    · have h2' : m.wlo ≤ m.whi := by omega
                      have E : chkM m = 0 := by simp [chkM, e1, e2, e3, e4, e5, e6, e7, e8, h1', h2']
                      have EE := Lib.hid E
                      clear E e1 e2 e3 e4 e5 e6 e7 e8
                      go_wp2_with fail
                      go_ret
                      exact ⟨by rw [EE.out] <;> rfl, HB.out⟩

set_option maxRecDepth 100000 in
set_option maxHeartbeats 4000000 in
theorem refCheckM_ok (m : Mo) (hm : MoOk m) (w : World) : Calls Tryz.prog 5 #[.agg m.cells] w fun e w' => e = .returned (.int .i64 0) ∧ Below w.heap.size w w' := by
  have HM := Lib.hid (MoAt.new w m 25)
  have HB := Lib.hid (below_alloc1 w (.cells m.cells 25))
  have HO := Lib.hid hm
  clear hm
  unfold Mo.cells
  go_enter Tryz.func5, Tryz.ntmps5
  go_upto_region 1 with fail
  obtain ⟨w0, hw0⟩ : ∃ w0, w.alloc (.cells m.cells 25) = w0 := ⟨_, rfl⟩
  rw [hw0] at HM HB
  have hw0' : w.alloc (.cells #[.int .i64 m.rings, .int .i64 m.give, .int .i64 m.plo, .int .i64 m.phi, .int .i64 m.wlo, .int .i64 m.whi, .int .i64 m.set, .int .i64 m.shrink, .int .i64 m.skin, .int .i64 m.fill, .int .i64 m.gap, .int .i64 m.deep] 25) = w0 := hw0
  rw [hw0']
  clear hw0 hw0'

  have c0 := HM.out.c0
  go_wp2_with fail
  refine (in5_any m.rings (1) (8) _ (by have := HO.out.rings; omega)).mono ?_
  rintro e w' ⟨rfl, rfl⟩
  clear c0
  have c1 := HM.out.c1
  go_wp2_with fail
  refine (in5_any m.give (1) (500) _ (by have := HO.out.give; omega)).mono ?_
  rintro e w' ⟨rfl, rfl⟩
  clear c1
  have c2 := HM.out.c2
  have c3 := HM.out.c3
  go_wp2_with fail
  refine (warm_any m.plo m.phi _ (by have := HO.out.pour; omega)).mono ?_
  rintro e u2 ⟨rfl, hb⟩
  replace HM := Lib.hid (HM.out.below hb)
  replace HB := Lib.hid (belT HB.out hb)
  clear hb c2 c3
  have c4 := HM.out.c4
  have c5 := HM.out.c5
  go_wp2_with fail
  refine (warm_any m.wlo m.whi _ (by have := HO.out.wall; omega)).mono ?_
  rintro e u3 ⟨rfl, hb⟩
  replace HM := Lib.hid (HM.out.below hb)
  replace HB := Lib.hid (belT HB.out hb)
  clear hb c4 c5
  have c6 := HM.out.c6
  go_wp2_with fail
  refine (in5_any m.set (0) (2000) _ (by have := HO.out.set; omega)).mono ?_
  rintro e w' ⟨rfl, rfl⟩
  clear c6
  have c7 := HM.out.c7
  go_wp2_with fail
  refine (in5_any m.shrink (0) (200) _ (by have := HO.out.shrink; omega)).mono ?_
  rintro e w' ⟨rfl, rfl⟩
  clear c7
  have c8 := HM.out.c8
  have c0 := HM.out.c0
  go_wp2_with fail
  refine (in5_any m.skin (0) (m.rings) _ (by have := HO.out.skin; omega)).mono ?_
  rintro e w' ⟨rfl, rfl⟩
  clear c8 c0
  have c9 := HM.out.c9
  go_wp2_with fail
  refine (in5_any m.fill (1) (100000) _ (by have := HO.out.fill; omega)).mono ?_
  rintro e w' ⟨rfl, rfl⟩
  clear c9
  have c10 := HM.out.c10
  go_wp2_with fail
  refine (in5_any m.gap (1) (60) _ (by have := HO.out.gap; omega)).mono ?_
  rintro e w' ⟨rfl, rfl⟩
  clear c10
  have c11 := HM.out.c11
  go_wp2_with fail
  refine (in5_any m.deep (0) (100000) _ (by have := HO.out.deep; omega)).mono ?_
  rintro e w' ⟨rfl, rfl⟩
  clear c11
  have c2 := HM.out.c2
  have c3 := HM.out.c3
  have c4 := HM.out.c4
  have c5 := HM.out.c5
  have h1 : m.plo ≤ m.phi := by have := HO.out.pour; omega
  have h2 : m.wlo ≤ m.whi := by have := HO.out.wall; omega
  go_wp2_with fail
  go_ret
  exact ⟨rfl, HB.out⟩

end Go.Proofs.YtcncmlpppabbcaaGreat
