/- Proved here: contracts of functions of the program, each for every input that its statement names. The walk of the reference's names. -/
import Derived.Test.YtnombgiacfeloaaW7
namespace Go.Proofs.Ytnombgiacfeloaa
set_option linter.unusedVariables false
set_option linter.unusedSimpArgs false
open Go.RowKit

/-! ### The reference's own question -/

/-- What the reference asks of the letter i. -/
def refChar (s : ByteArray) (i : Nat) : Prop := ∀ h : i < s.size, ((s[i]).toNat = 45 ∨ 97 ≤ (s[i]).toNat ∧ (s[i]).toNat ≤ 122) ∧ (∀ hi : 0 < i, ¬ ((s[i]).toNat = 45 ∧ (s[i - 1]'(by omega)).toNat = 45))

set_option maxHeartbeats 1000000 in
theorem refName_any (s : ByteArray) (w : World) (hs : s.size ≤ 9223372036854775807) :
    Calls Try.prog 62 #[.string s] w fun e w' => e = .returned (.bool (nameOk s)) ∧ w = w' := by
  by_cases h1 : 1 ≤ s.size
  · by_cases h2 : s.size ≤ 20
    · go_enter Try.func62, Try.ntmps62
      go_wp2_with fail
      refine (in1_any _ _ _ _).mono ?_
      have e1 : (decide ((1 : Int) ≤ (s.size : Int)) && decide ((s.size : Int) ≤ 20)) = true := by simp; omega
      rw [e1]
      rintro e w' ⟨rfl, rfl⟩
      have hl0 : 0 < s.size := by omega
      have hll : s.size - 1 < s.size := by omega
      have hfst : ∀ c l', s.data.toList = c :: l' → c = s[0] := by
        intro c l' h
        have := drop_cons s 0 hl0
        rw [List.drop_zero, h] at this
        exact (List.cons.inj this).1
      have hlst : s.data.toList.getLast? = some s[s.size - 1] := by
        have hne : s.data.toList ≠ [] := by
          intro h
          have e : s.data.toList.length = s.size := by simp
          rw [h] at e
          simp at e
          omega
        rw [List.getLast?_eq_some_getLast hne, List.getLast_eq_getElem]
        congr 1
      have hidx : ∀ i (h : i < s.data.toList.length), s.data.toList[i] = s[i]'(by simpa using h) := fun i h => rfl
      have HI := Lib.hid (nameGo_iff s.data.toList true)
      have HFST := Lib.hid hfst
      have HLST := Lib.hid hlst
      have HIDX := Lib.hid hidx
      have hn20 : nameOk s = nameGo true s.data.toList := by unfold nameOk; rw [show decide (s.size ≤ 20) = true from by simpa using h2]; simp
      have HN := Lib.hid hn20
      clear hfst hlst hidx hn20 e1
      by_cases c0 : (s[0]).toNat = 45
      · have hno : nameOk s = false := by
          rw [HN.out]
          cases hb : nameGo true s.data.toList with
          | false => rfl
          | true =>
            have h := (HI.out.1 hb).2.1
            exfalso
            have hd := drop_cons s 0 hl0
            rw [List.drop_zero] at hd
            exact h _ _ hd rfl c0
        have HNO := Lib.hid hno
        clear hno
        have c0' : (((s[0]).toNat : Int) == 45) = true := by rw [beq_iff_eq]; omega
        clear c0
        go_wp2_with fail
        go_ret
        exact ⟨ret_bool HNO.out.symm, rfl⟩
      · have c0' : (((s[0]).toNat : Int) == 45) = false := by rw [beq_eq_false_iff_ne]; omega
        have C0 := Lib.hid c0
        clear c0
        by_cases cl : (s[s.size - 1]).toNat = 45
        · have hno : nameOk s = false := by
            rw [HN.out]
            cases hb : nameGo true s.data.toList with
            | false => rfl
            | true => exact absurd cl ((HI.out.1 hb).2.2.1 _ HLST.out)
          have HNO := Lib.hid hno
          clear hno
          have cl' : (((s[s.size - 1]).toNat : Int) == 45) = true := by rw [beq_iff_eq]; omega
          clear cl
          go_wp2_with fail
          go_ret
          exact ⟨ret_bool HNO.out.symm, rfl⟩
        · have cl' : (((s[s.size - 1]).toNat : Int) == 45) = false := by rw [beq_eq_false_iff_ne]; omega
          have CL := Lib.hid cl
          clear cl
          go_wp2_with fail
          clear c0' cl'
          go_loop [3] (fun i => ∃ k : Nat, k ≤ s.size ∧ i = .int .i64 k ∧ Hid (∀ j, j < k → refChar s j)) (fun i => s.size - (intOf i).toNat)
          case atStart => exact ⟨0, Nat.zero_le _, rfl, fun j hj => absurd hj (Nat.not_lt_zero _)⟩
          case round =>
            obtain ⟨k, hk, rfl, A⟩ := hrel
            by_cases hlt : k < s.size
            · have bad : ∀ (P : Prop), ¬ refChar s k → Hid (nameOk s = false) := by
                intro _ hb
                show nameOk s = false
                rw [HN.out]
                cases hg : nameGo true s.data.toList with
                | false => rfl
                | true => exact absurd (fun h => (HI.out.1 hg).2.2.2 k (by simpa using h)) hb
              have BAD := Lib.hid bad
              clear bad
              have hb256 : (s[k]).toNat < 256 := (s[k]).toNat_lt
              by_cases hb : (s[k]).toNat = 45
              · have t1 : (((s[k]).toNat : Int) != 45) = false := by simp [hb]
                have t2 : (((s[k]).toNat : Int) == 45) = true := by simp [hb]
                have HB := Lib.hid hb
                clear hb
                by_cases hk0 : 0 < k
                · have hk1 : k - 1 < s.size := by omega
                  by_cases hp : (s[k - 1]).toNat = 45
                  · have t3 : (((s[k - 1]).toNat : Int) == 45) = true := by simp [hp]
                    have HNO := BAD.out True (fun h => (h hlt).2 hk0 ⟨HB.out, hp⟩)
                    clear hp
                    go_wp2_with fail
                    go_ret
                    exact ⟨ret_bool HNO.out.symm, rfl⟩
                  · have t3 : (((s[k - 1]).toNat : Int) == 45) = false := by rw [beq_eq_false_iff_ne]; omega
                    have HP := Lib.hid hp
                    clear hp
                    go_wp2_with fail
                    go_round
                    case rel =>
                      refine ⟨k + 1, by omega, by go_num, fun j hj => ?_⟩
                      by_cases e : j = k
                      · subst e; exact fun h => ⟨.inl HB.out, fun _ g => HP.out g.2⟩
                      · exact A.out j (by omega)
                    case measure => simp [intOf]; omega
                · go_wp2_with fail
                  go_round
                  case rel =>
                    refine ⟨k + 1, by omega, by go_num, fun j hj => ?_⟩
                    by_cases e : j = k
                    · subst e; exact fun h => ⟨.inl HB.out, fun g => absurd g hk0⟩
                    · exact A.out j (by omega)
                  case measure => simp [intOf]; omega
              · have t1 : (((s[k]).toNat : Int) != 45) = true := by rw [bne_iff_ne]; omega
                have t2 : (((s[k]).toNat : Int) == 45) = false := by rw [beq_eq_false_iff_ne]; omega
                have HB := Lib.hid hb
                clear hb
                go_wp2_with fail
                refine (in1_any _ _ _ _).mono ?_
                by_cases hr : 97 ≤ (s[k]).toNat ∧ (s[k]).toNat ≤ 122
                · have e1 : (decide ((97 : Int) ≤ ((s[k]).toNat : Int)) && decide (((s[k]).toNat : Int) ≤ 122)) = true := by simp; omega
                  rw [e1]
                  have HR := Lib.hid hr
                  clear e1 hr
                  rintro e w' ⟨rfl, rfl⟩
                  by_cases hk0 : 0 < k
                  all_goals
                    go_wp2_with fail
                    go_round
                    case rel =>
                      refine ⟨k + 1, by omega, by go_num, fun j hj => ?_⟩
                      by_cases e : j = k
                      · subst e; exact fun h => ⟨.inr HR.out, fun _ g => HB.out g.1⟩
                      · exact A.out j (by omega)
                    case measure => simp [intOf]; omega
                · have e1 : (decide ((97 : Int) ≤ ((s[k]).toNat : Int)) && decide (((s[k]).toNat : Int) ≤ 122)) = false := by simp; omega
                  rw [e1]
                  have HNO := BAD.out True (fun h => (h hlt).1.elim HB.out hr)
                  clear e1 hr
                  rintro e w' ⟨rfl, rfl⟩
                  go_wp2_with fail
                  go_ret
                  exact ⟨ret_bool HNO.out.symm, rfl⟩
            · go_wp2_with fail
              go_ret
              refine ⟨ret_bool ?_, rfl⟩
              rw [HN.out]
              have hsz : s.data.toList.length = s.size := by simp
              refine (HI.out.2 ⟨fun h => ?_, fun c l' h _ => by rw [HFST.out c l' h]; exact C0.out, fun c h => ?_, fun i h => ?_⟩).symm
              · rw [h] at hsz
                simp at hsz
                omega
              · rw [HLST.out] at h
                obtain rfl := Option.some.inj h
                exact CL.out
              · have hi : i < s.size := by omega
                exact A.out i (by omega) hi
    · go_enter Try.func62, Try.ntmps62
      go_wp2_with fail
      refine (in1_any _ _ _ _).mono ?_
      have e1 : (decide ((1 : Int) ≤ (s.size : Int)) && decide ((s.size : Int) ≤ 20)) = false := by simp; omega
      rw [e1]
      clear e1
      rintro e w' ⟨rfl, rfl⟩
      go_wp2_with fail
      go_ret
      refine ⟨ret_bool ?_, rfl⟩
      unfold nameOk
      rw [show decide (s.size ≤ 20) = false from by simpa using h2]
      simp
  · go_enter Try.func62, Try.ntmps62
    go_wp2_with fail
    refine (in1_any _ _ _ _).mono ?_
    have e1 : (decide ((1 : Int) ≤ (s.size : Int)) && decide ((s.size : Int) ≤ 20)) = false := by simp; omega
    rw [e1]
    clear e1
    rintro e w' ⟨rfl, rfl⟩
    have hnil : s.data.toList = [] := by
      apply List.eq_nil_of_length_eq_zero
      have hsz : s.data.toList.length = s.size := by simp
      omega
    have HNIL := Lib.hid hnil
    clear hnil
    go_wp2_with fail
    go_ret
    refine ⟨ret_bool ?_, rfl⟩
    unfold nameOk
    rw [HNIL.out]
    rfl

end Go.Proofs.Ytnombgiacfeloaa
