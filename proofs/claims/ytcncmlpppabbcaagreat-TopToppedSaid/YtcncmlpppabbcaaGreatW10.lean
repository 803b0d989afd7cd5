/- Proved here: contracts of functions of the program, each for every input that its statement names. The walk of the names of wax. Proved here: contracts of functions of the program, each for every input that its statement names. The walk of the reference's names. Proved here: contracts of functions of the program, each for every input that its statement names. The walk of the check of one step. Proved here: contracts of functions of the program, each for every input that its statement names. The walk of the program's 'Check'. -/
import Derived.Test.YtcncmlpppabbcaaGreatW1
import Derived.Test.YtcncmlpppabbcaaGreatM1
namespace Go.Proofs.YtcncmlpppabbcaaGreat
set_option linter.unusedVariables false
set_option linter.unusedSimpArgs false
open Go.RowKit

set_option maxHeartbeats 1000000 in
theorem waxName_any (s : ByteArray) (w : World) (hs : s.size ≤ 9223372036854775807) :
    Calls Tryz.prog 99 #[.string s] w fun e w' => e = .returned (.bool (nameOk s)) ∧ Below w.heap.size w w' := by
  go_enter Tryz.func99, Tryz.ntmps99
  go_wp2
  go_loopw [3] (fun c wr => ∃ (p : Nat) (l : Int), p ≤ s.size ∧ wr = w.iter s p ∧ c = .int .i32 l ∧ 0 ≤ l ∧ l ≤ 122 ∧ Hid (nameGo true s.data.toList = nameGo (l == 45) (s.data.toList.drop p))) (fun _ wr => s.size - wr.iterPos w.heap.size)
  case atStart => exact ⟨0, 45, Nat.zero_le _, rfl, rfl, by omega, by omega, by simp [Hid]⟩
  case round =>
    obtain ⟨p, l, hp, rfl, rfl, hl0, hl1, A⟩ := hrel
    by_cases hlt : p < s.size
    · have hd := drop_cons s p hlt
      by_cases ha : (s[p]).toNat < 128
      · have hn := fun ty => run_next_ascii (P := Tryz.prog) w s p ty hlt ha
        generalize s[p] = b at hd ha hn
        by_cases hb : b.toNat = 45
        · rw [hb] at hn
          by_cases hl : l = 45
          · subst hl
            have hA : nameGo true s.data.toList = false := by rw [A.out, hd, nameGo_dash _ _ hb]; rfl
            have HA := Lib.hid hA
            clear hA hd
            go_wp2
            go_ret
            exact ⟨ret_bool (by simp [nameOk, HA.out]), by (repeat (first | assumption | exact Below.refl _ _ | refine Below.alloc ?_ (by (try simp) <;> omega) _ | refine below_drewN ?_ _ | refine Below.drew ?_ | refine Below.setCell ?_ (by (try simp) <;> omega) _ | refine Below.trans ?_ (Below.mono (by assumption) (by (try simp) <;> omega))))⟩
          · have hl' : (l == 45) = false := by simp [hl]
            have hA : nameGo true s.data.toList = nameGo (((45 : Nat) : Int) == 45) (s.data.toList.drop (p + 1)) := by rw [A.out, hd, nameGo_dash _ _ hb, hl']; rfl
            have HA := Lib.hid hA
            clear hA hd
            go_wp2
            go_roundw
            case rel => exact ⟨p + 1, 45, by omega, rfl, rfl, by omega, by omega, HA⟩
            case measure => simp; omega
        · by_cases hr : 97 ≤ b.toNat ∧ b.toNat ≤ 122
          · have hA : nameGo true s.data.toList = nameGo (((b.toNat : Nat) : Int) == 45) (s.data.toList.drop (p + 1)) := by
              rw [A.out, hd, nameGo_letter _ _ hr.1 hr.2]
              have : (((b.toNat : Nat) : Int) == 45) = false := by rw [beq_eq_false_iff_ne]; omega
              rw [this]
            have HA := Lib.hid hA
            clear hA hd
            obtain ⟨hr1, hr2⟩ := hr
            generalize b.toNat = n at hn hb hr1 hr2 HA
            have t1 : (((n : Nat) : Int) != 45) = true := by rw [bne_iff_ne]; omega
            have t2 : (((n : Nat) : Int) == 45) = false := by rw [beq_eq_false_iff_ne]; omega
            have HT := Lib.hid t2
            go_wp2
            go_roundw
            case rel => exact ⟨p + 1, n, by omega, rfl, rfl, by omega, by omega, HA⟩
            case measure => simp; omega
          · have hA : nameGo true s.data.toList = false := by rw [A.out, hd, nameGo_bad _ _ hb hr]
            have HA := Lib.hid hA
            clear hA hd
            generalize b.toNat = n at hn hb hr
            have t1 : (((n : Nat) : Int) != 45) = true := by rw [bne_iff_ne]; omega
            by_cases hn97 : n < 97
            · go_wp2
              go_ret
              exact ⟨ret_bool (by simp [nameOk, HA.out]), by (repeat (first | assumption | exact Below.refl _ _ | refine Below.alloc ?_ (by (try simp) <;> omega) _ | refine below_drewN ?_ _ | refine Below.drew ?_ | refine Below.setCell ?_ (by (try simp) <;> omega) _ | refine Below.trans ?_ (Below.mono (by assumption) (by (try simp) <;> omega))))⟩
            · have hn122 : 122 < n := by omega
              go_wp2
              go_ret
              exact ⟨ret_bool (by simp [nameOk, HA.out]), by (repeat (first | assumption | exact Below.refl _ _ | refine Below.alloc ?_ (by (try simp) <;> omega) _ | refine below_drewN ?_ _ | refine Below.drew ?_ | refine Below.setCell ?_ (by (try simp) <;> omega) _ | refine Below.trans ?_ (Below.mono (by assumption) (by (try simp) <;> omega))))⟩
      · have hn := fun ty => run_next_any (P := Tryz.prog) w s p ty hlt
        have hd1 := decode_high s p hlt (by omega)
        have hd2 := decode_le s p
        have hA : nameGo true s.data.toList = false := by rw [A.out, hd, nameGo_bad _ _ (by omega) (by omega)]
        have HA := Lib.hid hA
        clear hA hd
        generalize Utf8.decode s p = d at hn hd1 hd2
        obtain ⟨r, dw⟩ := d
        dsimp only at hn hd1 hd2
        obtain ⟨hd1, hd3⟩ := hd1
        have t1 : (((r : Nat) : Int) != 45) = true := by rw [bne_iff_ne]; omega
        go_wp2
        go_ret
        exact ⟨ret_bool (by simp [nameOk, HA.out]), by (repeat (first | assumption | exact Below.refl _ _ | refine Below.alloc ?_ (by (try simp) <;> omega) _ | refine below_drewN ?_ _ | refine Below.drew ?_ | refine Below.setCell ?_ (by (try simp) <;> omega) _ | refine Below.trans ?_ (Below.mono (by assumption) (by (try simp) <;> omega))))⟩
    · have hn := fun ty => run_next_end (P := Tryz.prog) w s p ty hlt
      have hd : s.data.toList.drop p = [] := by apply List.drop_eq_nil_of_le; simp; omega
      have hA : nameGo true s.data.toList = !(l == 45) := by rw [A.out, hd]; rfl
      have HA := Lib.hid hA
      clear hA hd
      by_cases hl : l = 45
      · have t1 : (l != 45) = false := by simp [hl]
        have t2 : (l == 45) = true := by simp [hl]
        have T2 := Lib.hid t2
        clear t2 hl
        go_wp2
        go_ret
        exact ⟨ret_bool (by simp [nameOk, HA.out, T2.out]), by (repeat (first | assumption | exact Below.refl _ _ | refine Below.alloc ?_ (by (try simp) <;> omega) _ | refine below_drewN ?_ _ | refine Below.drew ?_ | refine Below.setCell ?_ (by (try simp) <;> omega) _ | refine Below.trans ?_ (Below.mono (by assumption) (by (try simp) <;> omega))))⟩
      · have t1 : (l != 45) = true := by simp [hl]
        have t2 : (l == 45) = false := by simp [hl]
        have T2 := Lib.hid t2
        clear t2 hl
        go_wp2
        go_ret
        refine ⟨ret_bool ?_, by (repeat (first | assumption | exact Below.refl _ _ | refine Below.alloc ?_ (by (try simp) <;> omega) _ | refine below_drewN ?_ _ | refine Below.drew ?_ | refine Below.setCell ?_ (by (try simp) <;> omega) _ | refine Below.trans ?_ (Below.mono (by assumption) (by (try simp) <;> omega))))⟩
        unfold nameOk
        rw [HA.out, T2.out]
        simp only [Bool.not_false, Bool.true_and]
        exact decide_eq_decide.2 (by omega)

end Go.Proofs.YtcncmlpppabbcaaGreat

namespace Go.Proofs.YtcncmlpppabbcaaGreat
set_option linter.unusedVariables false
set_option linter.unusedSimpArgs false
open Go.RowKit

/-! ### The reference's own question -/

/-- What the reference asks of the letter i. -/
def refChar (s : ByteArray) (i : Nat) : Prop := ∀ h : i < s.size, ((s[i]).toNat = 45 ∨ 97 ≤ (s[i]).toNat ∧ (s[i]).toNat ≤ 122) ∧ (∀ hi : 0 < i, ¬ ((s[i]).toNat = 45 ∧ (s[i - 1]'(by omega)).toNat = 45))

set_option maxHeartbeats 1000000 in
theorem refName_any (s : ByteArray) (w : World) (hs : s.size ≤ 9223372036854775807) :
    Calls Tryz.prog 48 #[.string s] w fun e w' => e = .returned (.bool (nameOk s)) ∧ w = w' := by
  by_cases h1 : 1 ≤ s.size
  · by_cases h2 : s.size ≤ 20
    · go_enter Tryz.func48, Tryz.ntmps48
      go_wp2_with fail
      refine (in1_any _ _ _ _).mono ?_
      have e1 : (decide ((1 : Int) ≤ (s.size : Int)) && decide ((s.size : Int) ≤ 20)) = true := by simp; omega
      rw [e1]
      rintro e w' ⟨rfl, rfl⟩
      have hl0 : 0 < s.size := by omega
      have hll : s.size - 1 < s.size := by omega
      have hfst : ∀ c l', s.data.toList = c :: l' → c = s[0] := by
        intro c l' h
        have := drop_cons s 0 hl0
        rw [List.drop_zero, h] at this
        exact (List.cons.inj this).1
      have hlst : s.data.toList.getLast? = some s[s.size - 1] := by
        have hne : s.data.toList ≠ [] := by
          intro h
          have e : s.data.toList.length = s.size := by simp
          rw [h] at e
          simp at e
          omega
        rw [List.getLast?_eq_some_getLast hne, List.getLast_eq_getElem]
        congr 1
      have hidx : ∀ i (h : i < s.data.toList.length), s.data.toList[i] = s[i]'(by simpa using h) := fun i h => rfl
      have HI := Lib.hid (nameGo_iff s.data.toList true)
      have HFST := Lib.hid hfst
      have HLST := Lib.hid hlst
      have HIDX := Lib.hid hidx
      have hn20 : nameOk s = nameGo true s.data.toList := by unfold nameOk; rw [show decide (s.size ≤ 20) = true from by simpa using h2]; simp
      have HN := Lib.hid hn20
      clear hfst hlst hidx hn20 e1
      by_cases c0 : (s[0]).toNat = 45
      · have hno : nameOk s = false := by
          rw [HN.out]
          cases hb : nameGo true s.data.toList with
          | false => rfl
          | true =>
            have h := (HI.out.1 hb).2.1
            exfalso
            have hd := drop_cons s 0 hl0
            rw [List.drop_zero] at hd
            exact h _ _ hd rfl c0
        have HNO := Lib.hid hno
        clear hno
        have c0' : (((s[0]).toNat : Int) == 45) = true := by rw [beq_iff_eq]; omega
        clear c0
        go_wp2_with fail
        go_ret
        exact ⟨ret_bool HNO.out.symm, rfl⟩
      · have c0' : (((s[0]).toNat : Int) == 45) = false := by rw [beq_eq_false_iff_ne]; omega
        have C0 := Lib.hid c0
        clear c0
        by_cases cl : (s[s.size - 1]).toNat = 45
        · have hno : nameOk s = false := by
            rw [HN.out]
            cases hb : nameGo true s.data.toList with
            | false => rfl
            | true => exact absurd cl ((HI.out.1 hb).2.2.1 _ HLST.out)
          have HNO := Lib.hid hno
          clear hno
          have cl' : (((s[s.size - 1]).toNat : Int) == 45) = true := by rw [beq_iff_eq]; omega
          clear cl
          go_wp2_with fail
          go_ret
          exact ⟨ret_bool HNO.out.symm, rfl⟩
        · have cl' : (((s[s.size - 1]).toNat : Int) == 45) = false := by rw [beq_eq_false_iff_ne]; omega
          have CL := Lib.hid cl
          clear cl
          go_wp2_with fail
          clear c0' cl'
          go_loop [3] (fun i => ∃ k : Nat, k ≤ s.size ∧ i = .int .i64 k ∧ Hid (∀ j, j < k → refChar s j)) (fun i => s.size - (intOf i).toNat)
          case atStart => exact ⟨0, Nat.zero_le _, rfl, fun j hj => absurd hj (Nat.not_lt_zero _)⟩
          case round =>
            obtain ⟨k, hk, rfl, A⟩ := hrel
            by_cases hlt : k < s.size
            · have bad : ∀ (P : Prop), ¬ refChar s k → Hid (nameOk s = false) := by
                intro _ hb
                show nameOk s = false
                rw [HN.out]
                cases hg : nameGo true s.data.toList with
                | false => rfl
                | true => exact absurd (fun h => (HI.out.1 hg).2.2.2 k (by simpa using h)) hb
              have BAD := Lib.hid bad
              clear bad
              have hb256 : (s[k]).toNat < 256 := (s[k]).toNat_lt
              by_cases hb : (s[k]).toNat = 45
              · have t1 : (((s[k]).toNat : Int) != 45) = false := by simp [hb]
                have t2 : (((s[k]).toNat : Int) == 45) = true := by simp [hb]
                have HB := Lib.hid hb
                clear hb
                by_cases hk0 : 0 < k
                · have hk1 : k - 1 < s.size := by omega
                  by_cases hp : (s[k - 1]).toNat = 45
                  · have t3 : (((s[k - 1]).toNat : Int) == 45) = true := by simp [hp]
                    have HNO := BAD.out True (fun h => (h hlt).2 hk0 ⟨HB.out, hp⟩)
                    clear hp
                    go_wp2_with fail
                    go_ret
                    exact ⟨ret_bool HNO.out.symm, rfl⟩
                  · have t3 : (((s[k - 1]).toNat : Int) == 45) = false := by rw [beq_eq_false_iff_ne]; omega
                    have HP := Lib.hid hp
                    clear hp
                    go_wp2_with fail
                    go_round
                    case rel =>
                      refine ⟨k + 1, by omega, by go_num, fun j hj => ?_⟩
                      by_cases e : j = k
                      · subst e; exact fun h => ⟨.inl HB.out, fun _ g => HP.out g.2⟩
                      · exact A.out j (by omega)
                    case measure => simp [intOf]; omega
                · go_wp2_with fail
                  go_round
                  case rel =>
                    refine ⟨k + 1, by omega, by go_num, fun j hj => ?_⟩
                    by_cases e : j = k
                    · subst e; exact fun h => ⟨.inl HB.out, fun g => absurd g hk0⟩
                    · exact A.out j (by omega)
                  case measure => simp [intOf]; omega
              · have t1 : (((s[k]).toNat : Int) != 45) = true := by rw [bne_iff_ne]; omega
                have t2 : (((s[k]).toNat : Int) == 45) = false := by rw [beq_eq_false_iff_ne]; omega
                have HB := Lib.hid hb
                clear hb
                go_wp2_with fail
                refine (in1_any _ _ _ _).mono ?_
                by_cases hr : 97 ≤ (s[k]).toNat ∧ (s[k]).toNat ≤ 122
                · have e1 : (decide ((97 : Int) ≤ ((s[k]).toNat : Int)) && decide (((s[k]).toNat : Int) ≤ 122)) = true := by simp; omega
                  rw [e1]
                  have HR := Lib.hid hr
                  clear e1 hr
                  rintro e w' ⟨rfl, rfl⟩
                  by_cases hk0 : 0 < k
                  all_goals
                    go_wp2_with fail
                    go_round
                    case rel =>
                      refine ⟨k + 1, by omega, by go_num, fun j hj => ?_⟩
                      by_cases e : j = k
                      · subst e; exact fun h => ⟨.inr HR.out, fun _ g => HB.out g.1⟩
                      · exact A.out j (by omega)
                    case measure => simp [intOf]; omega
                · have e1 : (decide ((97 : Int) ≤ ((s[k]).toNat : Int)) && decide (((s[k]).toNat : Int) ≤ 122)) = false := by simp; omega
                  rw [e1]
                  have HNO := BAD.out True (fun h => (h hlt).1.elim HB.out hr)
                  clear e1 hr
                  rintro e w' ⟨rfl, rfl⟩
                  go_wp2_with fail
                  go_ret
                  exact ⟨ret_bool HNO.out.symm, rfl⟩
            · go_wp2_with fail
              go_ret
              refine ⟨ret_bool ?_, rfl⟩
              rw [HN.out]
              have hsz : s.data.toList.length = s.size := by simp
              refine (HI.out.2 ⟨fun h => ?_, fun c l' h _ => by rw [HFST.out c l' h]; exact C0.out, fun c h => ?_, fun i h => ?_⟩).symm
              · rw [h] at hsz
                simp at hsz
                omega
              · rw [HLST.out] at h
                obtain rfl := Option.some.inj h
                exact CL.out
              · have hi : i < s.size := by omega
                exact A.out i (by omega) hi
    · go_enter Tryz.func48, Tryz.ntmps48
      go_wp2_with fail
      refine (in1_any _ _ _ _).mono ?_
      have e1 : (decide ((1 : Int) ≤ (s.size : Int)) && decide ((s.size : Int) ≤ 20)) = false := by simp; omega
      rw [e1]
      clear e1
      rintro e w' ⟨rfl, rfl⟩
      go_wp2_with fail
      go_ret
      refine ⟨ret_bool ?_, rfl⟩
      unfold nameOk
      rw [show decide (s.size ≤ 20) = false from by simpa using h2]
      simp
  · go_enter Tryz.func48, Tryz.ntmps48
    go_wp2_with fail
    refine (in1_any _ _ _ _).mono ?_
    have e1 : (decide ((1 : Int) ≤ (s.size : Int)) && decide ((s.size : Int) ≤ 20)) = false := by simp; omega
    rw [e1]
    clear e1
    rintro e w' ⟨rfl, rfl⟩
    have hnil : s.data.toList = [] := by
      apply List.eq_nil_of_length_eq_zero
      have hsz : s.data.toList.length = s.size := by simp
      omega
    have HNIL := Lib.hid hnil
    clear hnil
    go_wp2_with fail
    go_ret
    refine ⟨ret_bool ?_, rfl⟩
    unfold nameOk
    rw [HNIL.out]
    rfl

end Go.Proofs.YtcncmlpppabbcaaGreat

namespace Go.Proofs.YtcncmlpppabbcaaGreat
set_option linter.unusedVariables false
set_option linter.unusedSimpArgs false
open Go.RowKit

set_option maxHeartbeats 1000000 in
theorem checkEq_any (x y : Stp) (B : Nat) (w : World) (hp : w.cell? ⟨B, 0, none⟩ = some (.string x.name)) :
    Calls Tryz.prog 101 #[.agg #[.string y.name, .int .i64 y.lo, .int .i64 y.hi, .int .i64 y.err], .pointer (some ⟨B, 0, none⟩)] w fun e w' => e = .returned (.bool (eqN y.name x.name)) ∧ Below w.heap.size w w' := by
  obtain ⟨n, lo, hi, er⟩ := y
  have hl := lt_of_cell hp
  go_enter Tryz.func101, Tryz.ntmps101
  go_wp2_with fail
  go_ret
  exact ⟨rfl, by (repeat (first | assumption | exact Below.refl _ _ | refine Below.alloc ?_ (by (try simp) <;> omega) _ | refine below_drewN ?_ _ | refine Below.drew ?_ | refine Below.setCell ?_ (by (try simp) <;> omega) _ | refine Below.trans ?_ (Below.mono (by assumption) (by (try simp) <;> omega))))⟩

set_option maxHeartbeats 1000000 in
theorem indexStp_any (x : Stp) (B : Nat) (v : Value) (ss : List Stp) (w : World) (h : Rd w 4 v (stpRows ss)) (hp : w.cell? ⟨B, 0, none⟩ = some (.string x.name)) :
    Calls Tryz.prog 105 #[v, .func (.func 101) #[] #[.pointer (some ⟨B, 0, none⟩)]] w fun e w' => e = .returned (.int .i64 (idx (fun y : Stp => eqN y.name x.name) ss 0)) ∧ Below w.heap.size w w' := by
  obtain ⟨a, c, rfl, -, hm, hr⟩ := h.stps
  have H := Lib.hid hr
  have P0 := Lib.hid hp
  clear hr h hp
  go_enter Tryz.func105, Tryz.ntmps105
  go_wp2_with fail
  go_loopw [5, 8] (fun _ i wr => ∃ k : Nat, k ≤ ss.length ∧ i = .int .i64 k ∧ Below w.heap.size w wr ∧ Hid (∀ j (hj : j < k) (hz : j < ss.length), eqN ss[j].name x.name = false)) (fun _ i _ => ss.length - (intOf i).toNat)
  case atStart => exact ⟨0, Nat.zero_le _, rfl, Below.refl _ _, fun j hj => absurd hj (Nat.not_lt_zero _)⟩
  case round =>
    obtain ⟨k, hk, rfl, hB, A⟩ := hrel
    by_cases hlt : k < ss.length
    · obtain ⟨b, off, rfl, hbl, hc⟩ := H.out (by omega)
      obtain ⟨g1, g2, g3, g4⟩ := hc k hlt
      clear hc
      rw [← hB.cell (p := ⟨b, _, none⟩) hbl] at g1 g2 g3 g4
      generalize hy : ss[k] = y at g1 g2 g3 g4
      have HY := Lib.hid hy
      clear hy
      cases hq : eqN y.name x.name
      · have HQ := Lib.hid hq
        clear hq
        go_wp2_with fail
        refine (checkEq_any x y B _ (keep hB P0.out)).mono ?_
        rw [HQ.out]
        rintro e w1 ⟨rfl, hb⟩
        have hk : Below wr.heap.size wr w1 := by (repeat (first | assumption | exact Below.refl _ _ | refine Below.alloc ?_ (by (try simp) <;> omega) _ | refine below_drewN ?_ _ | refine Below.drew ?_ | refine Below.setCell ?_ (by (try simp) <;> omega) _ | refine Below.trans ?_ (Below.mono (by assumption) (by (try simp) <;> omega))))
        replace hB := hB.trans (hk.mono hB.size)
        have hzw1 := hB.size
        clear hk hb
        go_wp2_with fail
        go_roundw
        case rel =>
          refine ⟨k + 1, by omega, by go_num, hB, fun j hj hz => ?_⟩
          by_cases e : j = k
          · subst e; rw [HY.out]; exact HQ.out
          · exact A.out j (by omega) hz
        case measure => simp [intOf]; omega
      · have HQ := Lib.hid hq
        clear hq
        go_wp2_with fail
        refine (checkEq_any x y B _ (keep hB P0.out)).mono ?_
        rw [HQ.out]
        rintro e w1 ⟨rfl, hb⟩
        have hk : Below wr.heap.size wr w1 := by (repeat (first | assumption | exact Below.refl _ _ | refine Below.alloc ?_ (by (try simp) <;> omega) _ | refine below_drewN ?_ _ | refine Below.drew ?_ | refine Below.setCell ?_ (by (try simp) <;> omega) _ | refine Below.trans ?_ (Below.mono (by assumption) (by (try simp) <;> omega))))
        replace hB := hB.trans (hk.mono hB.size)
        have hzw1 := hB.size
        clear hk hb
        go_wp2_with fail
        go_ret
        refine ⟨ret_int ?_, hB⟩
        rw [idx_hit _ ss 0 k hlt (by rw [HY.out]; exact HQ.out) (fun j hj => A.out j hj _)]
        simp
    · go_wp2_with fail
      go_ret
      refine ⟨ret_int ?_, hB⟩
      rw [idx_miss _ ss 0 (fun j hj => A.out j (by omega) hj)]

set_option maxHeartbeats 1000000 in
theorem containsStp_any (x : Stp) (B : Nat) (v : Value) (ss : List Stp) (w : World) (h : Rd w 4 v (stpRows ss)) (hp : w.cell? ⟨B, 0, none⟩ = some (.string x.name)) :
    Calls Tryz.prog 100 #[v, .func (.func 101) #[] #[.pointer (some ⟨B, 0, none⟩)]] w fun e w' => e = .returned (.bool (ss.any (fun y => eqN y.name x.name))) ∧ Below w.heap.size w w' := by
  go_enter Tryz.func100, Tryz.ntmps100
  go_wp2_with (go_at_call 105; refine (indexStp_any x B v ss _ h hp).mono ?_; rintro e w' ⟨rfl, hb⟩)
  go_ret
  exact ⟨ret_bool (idx_any _ _ _), hb⟩

set_option maxHeartbeats 1000000 in
theorem checkStep_any (err : Int) (ss : List Stp) (i B b off c : Nat) (x : Stp) (w : World) (h0 : w.cell? ⟨B, 0, none⟩ = some (.int .i64 err)) (h1 : w.cell? ⟨B, 1, none⟩ = some (.slice (some ⟨b, off, none⟩) ss.length c))
    (h : Rd w 4 (.slice (some ⟨b, off, none⟩) ss.length c) (stpRows ss)) (hi : i < ss.length) (hs : x.name.size ≤ 9223372036854775807) :
    Calls Tryz.prog 98 #[.int .i64 i, .agg #[.string x.name, .int .i64 x.lo, .int .i64 x.hi, .int .i64 x.err], .pointer (some ⟨B, 0, none⟩)] w fun e w' => e = .returned (.int .i64 (stepErr (ss.take i) x)) ∧ Below w.heap.size w w' := by
  have hB := Below.refl w.heap.size w
  have hl0 := lt_of_cell h0
  have hct := h
  obtain ⟨_, _, hv, hcc, hm, -⟩ := hct
  simp only [Value.slice.injEq] at hv
  obtain ⟨-, -, rfl⟩ := hv
  rw [stpRows_length] at hcc hm
  have htk : stpRows (ss.take i) = (stpRows ss).take i := by simp [stpRows]
  have HR := Lib.hid h
  have HT := Lib.hid htk
  clear h htk
  obtain ⟨n, lo, hi', er⟩ := x
  dsimp only at hs
  go_enter Tryz.func98, Tryz.ntmps98
  go_wp2_with fail
  refine (waxName_any n _ hs).mono ?_
  rintro e w1 ⟨rfl, hb⟩
  have g0 : w1.cell? ⟨w.heap.size, 0, none⟩ = some (.string n) := keep hb (by simp [go_sem])
  have g1 : w1.cell? ⟨w.heap.size, 1, none⟩ = some (.int .i64 lo) := keep hb (by simp [go_sem])
  have g2 : w1.cell? ⟨w.heap.size, 2, none⟩ = some (.int .i64 hi') := keep hb (by simp [go_sem])
  have g3 : w1.cell? ⟨w.heap.size, 3, none⟩ = some (.int .i64 er) := keep hb (by simp [go_sem])
  have hk : Below w.heap.size w w1 := by (repeat (first | assumption | exact Below.refl _ _ | refine Below.alloc ?_ (by (try simp) <;> omega) _ | refine below_drewN ?_ _ | refine Below.drew ?_ | refine Below.setCell ?_ (by (try simp) <;> omega) _ | refine Below.trans ?_ (Below.mono (by assumption) (by (try simp) <;> omega))))
  replace hB := hB.trans (hk.mono hB.size)
  have hzw1 := hB.size
  replace h0 := keep hk h0
  replace h1 := keep hk h1
  have lh0 := lt_of_cell h0
  clear hk hb
  have lg := lt_of_cell g0
  cases hq1 : nameOk n
  · go_wp2_with fail
    go_ret
    exact ⟨ret_int (by simp [stepErr, hq1]), by (repeat (first | assumption | exact Below.refl _ _ | refine Below.alloc ?_ (by (try simp) <;> omega) _ | refine below_drewN ?_ _ | refine Below.drew ?_ | refine Below.setCell ?_ (by (try simp) <;> omega) _ | refine Below.trans ?_ (Below.mono (by assumption) (by (try simp) <;> omega))))⟩
  · go_wp2_with fail
    refine (containsStp_any ⟨n, lo, hi', er⟩ w.heap.size _ (ss.take i) _ (by rw [HT.out]; exact (HR.out.below hB).take i (by rw [stpRows_length]; omega)) g0).mono ?_
    rintro e w2 ⟨rfl, hb⟩
    have hk : Below w1.heap.size w1 w2 := by (repeat (first | assumption | exact Below.refl _ _ | refine Below.alloc ?_ (by (try simp) <;> omega) _ | refine below_drewN ?_ _ | refine Below.drew ?_ | refine Below.setCell ?_ (by (try simp) <;> omega) _ | refine Below.trans ?_ (Below.mono (by assumption) (by (try simp) <;> omega))))
    replace hB := hB.trans (hk.mono hB.size)
    have hzw2 := hB.size
    replace h0 := keep hk h0
    replace h1 := keep hk h1
    replace g0 := keep hk g0
    replace g1 := keep hk g1
    replace g2 := keep hk g2
    replace g3 := keep hk g3
    have lh0 := lt_of_cell h0
    have lg0 := lt_of_cell g0
    clear hk hb
    generalize hq2' : (ss.take i).any (fun y => eqN y.name n) = q2
    have HQ2 := Lib.hid hq2'
    clear hq2'
    cases q2
    · go_wp2_with fail
      refine (out_any _ _ _ [lo, hi', er] _ (Rd.made3 _ _ _ _ _ _ (by simp))).mono ?_
      rintro e w3 ⟨rfl, hb⟩
      have hk : Below w2.heap.size w2 w3 := by (repeat (first | assumption | exact Below.refl _ _ | refine Below.alloc ?_ (by (try simp) <;> omega) _ | refine below_drewN ?_ _ | refine Below.drew ?_ | refine Below.setCell ?_ (by (try simp) <;> omega) _ | refine Below.trans ?_ (Below.mono (by assumption) (by (try simp) <;> omega))))
      replace hB := hB.trans (hk.mono hB.size)
      have hzw3 := hB.size
      replace g0 := keep hk g0
      replace g1 := keep hk g1
      replace g2 := keep hk g2
      replace g3 := keep hk g3
      have lg0 := lt_of_cell g0
      clear hk hb
      cases hq3 : anyOut 0 1000000 [lo, hi', er]
      · by_cases hlt : hi' < lo
        all_goals
          go_wp2_with fail
          go_ret
          exact ⟨ret_int (by simp [stepErr, hq1, HQ2.out, hq3, hlt]), by (repeat (first | assumption | exact Below.refl _ _ | refine Below.alloc ?_ (by (try simp) <;> omega) _ | refine below_drewN ?_ _ | refine Below.drew ?_ | refine Below.setCell ?_ (by (try simp) <;> omega) _ | refine Below.trans ?_ (Below.mono (by assumption) (by (try simp) <;> omega))))⟩
      · go_wp2_with fail
        go_ret
        exact ⟨ret_int (by simp [stepErr, hq1, HQ2.out, hq3]), by (repeat (first | assumption | exact Below.refl _ _ | refine Below.alloc ?_ (by (try simp) <;> omega) _ | refine below_drewN ?_ _ | refine Below.drew ?_ | refine Below.setCell ?_ (by (try simp) <;> omega) _ | refine Below.trans ?_ (Below.mono (by assumption) (by (try simp) <;> omega))))⟩
    · go_wp2_with fail
      go_ret
      exact ⟨ret_int (by simp [stepErr, hq1, HQ2.out]), by (repeat (first | assumption | exact Below.refl _ _ | refine Below.alloc ?_ (by (try simp) <;> omega) _ | refine below_drewN ?_ _ | refine Below.drew ?_ | refine Below.setCell ?_ (by (try simp) <;> omega) _ | refine Below.trans ?_ (Below.mono (by assumption) (by (try simp) <;> omega))))⟩

end Go.Proofs.YtcncmlpppabbcaaGreat

namespace Go.Proofs.YtcncmlpppabbcaaGreat
set_option linter.unusedVariables false
set_option linter.unusedSimpArgs false
open Go.RowKit

def NamesFit (ss : List Stp) : Prop := ∀ x ∈ ss, x.name.size ≤ 9223372036854775807

set_option maxHeartbeats 1000000 in
theorem findStp_any (err : Int) (ss : List Stp) (B : Nat) (v : Value) (w : World) (h0 : w.cell? ⟨B, 0, none⟩ = some (.int .i64 err)) (h1 : w.cell? ⟨B, 1, none⟩ = some v)
    (h : Rd w 4 v (stpRows ss)) (hs : NamesFit ss) :
    Calls Tryz.prog 97 #[v, .func (.func 98) #[] #[.pointer (some ⟨B, 0, none⟩)]] w fun e w' => e = .returned (.tuple #[.int .i64 (firstAt (stepErrAt ss) ss.length 0).1, .int .i64 (firstAt (stepErrAt ss) ss.length 0).2]) ∧ Below w.heap.size w w' := by
  have HR := Lib.hid h
  obtain ⟨a, c, rfl, -, hm, hr⟩ := h.stps
  have H := Lib.hid hr
  have H0 := Lib.hid h0
  have H1 := Lib.hid h1
  have HS := Lib.hid hs
  clear hr h h0 h1 hs
  go_enter Tryz.func97, Tryz.ntmps97
  go_wp2_with fail
  go_loopw [10] (fun i wr => ∃ k : Nat, k ≤ ss.length ∧ i = .int .i64 k ∧ Below w.heap.size w wr ∧ Hid (∀ j (hj : j < k), stepErrAt ss j = 0)) (fun i _ => ss.length - (intOf i).toNat)
  case atStart => exact ⟨0, Nat.zero_le _, rfl, Below.refl _ _, fun j hj => absurd hj (Nat.not_lt_zero _)⟩
  case round =>
    obtain ⟨k, hk, rfl, hB, A⟩ := hrel
    have hzB := hB.size
    by_cases hlt : k < ss.length
    · obtain ⟨b, off, rfl, hbl, hc⟩ := H.out (by omega)
      obtain ⟨g1, g2, g3, g4⟩ := hc k hlt
      clear hc
      rw [← hB.cell (p := ⟨b, _, none⟩) hbl] at g1 g2 g3 g4
      have hat : stepErrAt ss k = stepErr (ss.take k) ss[k] := by simp [stepErrAt, hlt]
      have hsz := HS.out ss[k] (List.getElem_mem _)
      generalize hx : ss[k] = x at g1 g2 g3 g4 hat hsz
      have HA := Lib.hid hat
      clear hx hat
      have hsub := below_alloc1 wr (Obj.cells #[Value.string x.name, Value.int IntKind.i64 x.lo, Value.int IntKind.i64 x.hi, Value.int IntKind.i64 x.err] 41)
      have hc := checkStep_any err ss k B b off c x _ (keep hsub (keep hB H0.out)) (keep hsub (keep hB H1.out)) ((HR.out.below hB).below hsub) hlt hsz
      rw [← HA.out] at hc
      clear hsub
      have HC := Lib.hid hc
      clear hc
      by_cases hq : stepErrAt ss k = 0
      · have HQ := Lib.hid hq
        clear hq
        go_wp2_with fail
        refine HC.out.mono ?_
        rw [HQ.out]
        rintro e w1 ⟨rfl, hb⟩
        have hk : Below wr.heap.size wr w1 := by (repeat (first | assumption | exact Below.refl _ _ | refine Below.alloc ?_ (by (try simp) <;> omega) _ | refine below_drewN ?_ _ | refine Below.drew ?_ | refine Below.setCell ?_ (by (try simp) <;> omega) _ | refine Below.trans ?_ (Below.mono (by assumption) (by (try simp) <;> omega))))
        replace hB := hB.trans (hk.mono hB.size)
        have hzw1 := hB.size
        clear hk hb
        go_wp2_with fail
        go_roundw
        case rel =>
          refine ⟨k + 1, by omega, by go_num, hB, fun j hj => ?_⟩
          by_cases e : j = k
          · subst e; exact HQ.out
          · exact A.out j (by omega)
        case measure => simp [intOf]; omega
      · have t1 : (stepErrAt ss k != 0) = true := by simp [hq]
        have HQ := Lib.hid hq
        clear hq
        go_wp2_with fail
        refine HC.out.mono ?_
        rintro e w1 ⟨rfl, hb⟩
        have hk : Below wr.heap.size wr w1 := by (repeat (first | assumption | exact Below.refl _ _ | refine Below.alloc ?_ (by (try simp) <;> omega) _ | refine below_drewN ?_ _ | refine Below.drew ?_ | refine Below.setCell ?_ (by (try simp) <;> omega) _ | refine Below.trans ?_ (Below.mono (by assumption) (by (try simp) <;> omega))))
        replace hB := hB.trans (hk.mono hB.size)
        have hzw1 := hB.size
        clear hk hb
        go_wp2_with fail
        go_ret2
        refine ⟨?_, hB⟩
        rw [firstAt_hit (stepErrAt ss) ss.length 0 k hlt (by rw [Nat.zero_add]; exact HQ.out) (fun j hj => by rw [Nat.zero_add]; exact A.out j hj)]
        simp
    · go_wp2_with fail
      go_ret2
      refine ⟨?_, hB⟩
      rw [firstAt_miss (stepErrAt ss) ss.length 0 (fun j hj => by rw [Nat.zero_add]; exact A.out j (by omega))]
      rfl

set_option maxHeartbeats 1000000 in
theorem check_any (err : Int) (ss : List Stp) (v : Value) (w : World) (h : Rd w 4 v (stpRows ss)) (hs : NamesFit ss) :
    Calls Tryz.prog 84 #[.agg #[.int .i64 err, v]] w fun e w' => e = .returned (.tuple #[.int .i64 (chk err ss).1, .int .i64 (chk err ss).2.1, .int .i64 (chk err ss).2.2]) ∧ Below w.heap.size w w' := by
  have hB := Below.refl w.heap.size w
  have HR := Lib.hid h
  have HS := Lib.hid hs
  obtain ⟨a, c, rfl, -, hm, -⟩ := h
  rw [stpRows_length] at hm
  have hsl := stpRows_length ss
  rw [hsl] at HR ⊢
  clear hs hsl
  go_enter Tryz.func84, Tryz.ntmps84
  go_wp2_with fail
  refine (out_any _ _ _ [err] _ (Rd.made1 _ _ _ _ (by simp))).mono ?_
  rintro e w1 ⟨rfl, hb⟩
  have g0 : w1.cell? ⟨w.heap.size, 0, none⟩ = some (.int .i64 err) := keep hb (by simp [go_sem])
  have g1 : w1.cell? ⟨w.heap.size, 1, none⟩ = some (.slice a ss.length c) := keep hb (by simp [go_sem])
  have hk : Below w.heap.size w w1 := by (repeat (first | assumption | exact Below.refl _ _ | refine Below.alloc ?_ (by (try simp) <;> omega) _ | refine below_drewN ?_ _ | refine Below.drew ?_ | refine Below.setCell ?_ (by (try simp) <;> omega) _ | refine Below.trans ?_ (Below.mono (by assumption) (by (try simp) <;> omega))))
  replace hB := hB.trans (hk.mono hB.size)
  have hzw1 := hB.size
  clear hk hb
  have lg := lt_of_cell g0
  cases hq1 : anyOut 0 1000000 [err]
  · go_wp2_with fail
    refine (out_any _ _ _ [(ss.length : Int)] _ (Rd.made1 _ _ _ _ (by simp))).mono ?_
    rintro e w2 ⟨rfl, hb⟩
    have hk : Below w1.heap.size w1 w2 := by (repeat (first | assumption | exact Below.refl _ _ | refine Below.alloc ?_ (by (try simp) <;> omega) _ | refine below_drewN ?_ _ | refine Below.drew ?_ | refine Below.setCell ?_ (by (try simp) <;> omega) _ | refine Below.trans ?_ (Below.mono (by assumption) (by (try simp) <;> omega))))
    replace hB := hB.trans (hk.mono hB.size)
    have hzw2 := hB.size
    replace g0 := keep hk g0
    replace g1 := keep hk g1
    have lg0 := lt_of_cell g0
    clear hk hb
    cases hq2 : anyOut 1 6 [(ss.length : Int)]
    · go_wp2_with fail
      refine (findStp_any err ss w.heap.size _ _ g0 g1 (HR.out.below hB) HS.out).mono ?_
      rintro e w3 ⟨rfl, hb⟩
      have hk : Below w2.heap.size w2 w3 := by (repeat (first | assumption | exact Below.refl _ _ | refine Below.alloc ?_ (by (try simp) <;> omega) _ | refine below_drewN ?_ _ | refine Below.drew ?_ | refine Below.setCell ?_ (by (try simp) <;> omega) _ | refine Below.trans ?_ (Below.mono (by assumption) (by (try simp) <;> omega))))
      replace hB := hB.trans (hk.mono hB.size)
      have hzw3 := hB.size
      clear hk hb
      generalize hr : firstAt (stepErrAt ss) ss.length 0 = r
      have HF := Lib.hid hr
      clear hr
      obtain ⟨ri, re⟩ := r
      dsimp only
      by_cases hre : re = 0
      · have t1 : (re != 0) = false := by simp [hre]
        have HE := Lib.hid hre
        clear hre
        go_wp2_with fail
        go_ret3
        exact ⟨by simp [chk, hq1, hq2, HF.out, HE.out], hB⟩
      · have t1 : (re != 0) = true := by simp [hre]
        have HE := Lib.hid hre
        clear hre
        go_wp2_with fail
        go_ret3
        exact ⟨by simp [chk, hq1, hq2, HF.out, HE.out], hB⟩
    · go_wp2_with fail
      go_ret3
      exact ⟨by simp [chk, hq1, hq2], hB⟩
  · go_wp2_with fail
    go_ret3
    exact ⟨by simp [chk, hq1], hB⟩

set_option maxHeartbeats 1000000 in
theorem open1_any (i r : Int) (w : World) :
    Calls Tryz.prog 86 #[.int .i64 i, .int .i64 r] w fun e w' => e = .returned (.int .i64 (rdErr1 r)) ∧ Below w.heap.size w w' := by
  have hB := Below.refl w.heap.size w
  by_cases hr : r = -1
  · have t1 : (r != -1) = false := by simp [hr]
    have HR := Lib.hid hr
    clear hr
    go_enter Tryz.func86, Tryz.ntmps86
    go_wp2_with fail
    go_ret
    exact ⟨ret_int (by simp [rdErr1, HR.out]), hB⟩
  · have t1 : (r != -1) = true := by simp [hr]
    have HR := Lib.hid hr
    clear hr
    go_enter Tryz.func86, Tryz.ntmps86
    go_wp2_with fail
    refine (out_any _ _ _ [r] _ (Rd.made1 _ _ _ _ (by simp))).mono ?_
    rintro e w1 ⟨rfl, hb⟩
    have hk : Below w.heap.size w w1 := by (repeat (first | assumption | exact Below.refl _ _ | refine Below.alloc ?_ (by (try simp) <;> omega) _ | refine below_drewN ?_ _ | refine Below.drew ?_ | refine Below.setCell ?_ (by (try simp) <;> omega) _ | refine Below.trans ?_ (Below.mono (by assumption) (by (try simp) <;> omega))))
    replace hB := hB.trans (hk.mono hB.size)
    have hzw1 := hB.size
    clear hk hb
    cases hq : anyOut 0 1000000 [r]
    · go_wp2_with fail
      go_ret
      exact ⟨ret_int (by simp [rdErr1, HR.out, hq]), hB⟩
    · go_wp2_with fail
      go_ret
      exact ⟨ret_int (by have := HR.out; simp [rdErr1, this, hq]), hB⟩

set_option maxHeartbeats 1000000 in
theorem findInts_any (v : Value) (rs : List Int) (w : World) (h : Rd w 1 v (ints rs)) :
    Calls Tryz.prog 85 #[v, .func (.func 86) #[] #[]] w fun e w' => e = .returned (.tuple #[.int .i64 (firstErr rdErr1 rs 0).1, .int .i64 (firstErr rdErr1 rs 0).2]) ∧ Below w.heap.size w w' := by
  obtain ⟨a, c, rfl, -, hm, hr⟩ := h.ints
  have H := Lib.hid hr
  clear hr h
  go_enter Tryz.func85, Tryz.ntmps85
  go_wp2_with fail
  go_loopw [10] (fun i wr => ∃ k : Nat, k ≤ rs.length ∧ i = .int .i64 k ∧ Below w.heap.size w wr ∧ Hid (∀ j (hj : j < k) (hz : j < rs.length), rdErr1 rs[j] = 0)) (fun i _ => rs.length - (intOf i).toNat)
  case atStart => exact ⟨0, Nat.zero_le _, rfl, Below.refl _ _, fun j hj => absurd hj (Nat.not_lt_zero _)⟩
  case round =>
    obtain ⟨k, hk, rfl, hB, A⟩ := hrel
    have hzB := hB.size
    by_cases hlt : k < rs.length
    · obtain ⟨b, off, rfl, hbl, hc⟩ := H.out (by omega)
      have g1 := hc k hlt
      clear hc
      rw [← hB.cell (p := ⟨b, _, none⟩) hbl] at g1
      generalize hx : rs[k] = x at g1
      have HX := Lib.hid hx
      clear hx
      by_cases hq : rdErr1 x = 0
      · have HQ := Lib.hid hq
        clear hq
        go_wp2_with fail
        refine (open1_any _ x _).mono ?_
        rw [HQ.out]
        rintro e w1 ⟨rfl, hb⟩
        have hk : Below wr.heap.size wr w1 := by (repeat (first | assumption | exact Below.refl _ _ | refine Below.alloc ?_ (by (try simp) <;> omega) _ | refine below_drewN ?_ _ | refine Below.drew ?_ | refine Below.setCell ?_ (by (try simp) <;> omega) _ | refine Below.trans ?_ (Below.mono (by assumption) (by (try simp) <;> omega))))
        replace hB := hB.trans (hk.mono hB.size)
        have hzw1 := hB.size
        clear hk hb
        go_wp2_with fail
        go_roundw
        case rel =>
          refine ⟨k + 1, by omega, by go_num, hB, fun j hj hz => ?_⟩
          by_cases e : j = k
          · subst e; rw [HX.out]; exact HQ.out
          · exact A.out j (by omega) hz
        case measure => simp [intOf]; omega
      · have t1 : (rdErr1 x != 0) = true := by simp [hq]
        have HQ := Lib.hid hq
        clear hq
        go_wp2_with fail
        refine (open1_any _ x _).mono ?_
        rintro e w1 ⟨rfl, hb⟩
        have hk : Below wr.heap.size wr w1 := by (repeat (first | assumption | exact Below.refl _ _ | refine Below.alloc ?_ (by (try simp) <;> omega) _ | refine below_drewN ?_ _ | refine Below.drew ?_ | refine Below.setCell ?_ (by (try simp) <;> omega) _ | refine Below.trans ?_ (Below.mono (by assumption) (by (try simp) <;> omega))))
        replace hB := hB.trans (hk.mono hB.size)
        have hzw1 := hB.size
        clear hk hb
        go_wp2_with fail
        go_ret2
        refine ⟨?_, hB⟩
        rw [firstErr_hit rdErr1 rs 0 k hlt (by rw [HX.out]; exact HQ.out) (fun j hj => A.out j hj _), HX.out]
        simp
    · go_wp2_with fail
      go_ret2
      refine ⟨?_, hB⟩
      rw [firstErr_miss rdErr1 rs 0 (fun j hj => A.out j (by omega) hj)]
      rfl

end Go.Proofs.YtcncmlpppabbcaaGreat
