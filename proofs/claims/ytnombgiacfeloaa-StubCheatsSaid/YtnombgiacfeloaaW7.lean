/- Proved here: contracts of functions of the program, each for every input that its statement names. The walk of the names of wax. -/
import Derived.Test.YtnombgiacfeloaaW1
import Derived.Test.YtnombgiacfeloaaM1
namespace Go.Proofs.Ytnombgiacfeloaa
set_option linter.unusedVariables false
set_option linter.unusedSimpArgs false
open Go.RowKit

set_option maxHeartbeats 1000000 in
theorem waxName_any (s : ByteArray) (w : World) (hs : s.size ≤ 9223372036854775807) :
    Calls Try.prog 57 #[.string s] w fun e w' => e = .returned (.bool (nameOk s)) ∧ Below w.heap.size w w' := by
  go_enter Try.func57, Try.ntmps57
  go_wp2
  go_loopw [3] (fun c wr => ∃ (p : Nat) (l : Int), p ≤ s.size ∧ wr = w.iter s p ∧ c = .int .i32 l ∧ 0 ≤ l ∧ l ≤ 122 ∧ Hid (nameGo true s.data.toList = nameGo (l == 45) (s.data.toList.drop p))) (fun _ wr => s.size - wr.iterPos w.heap.size)
  case atStart => exact ⟨0, 45, Nat.zero_le _, rfl, rfl, by omega, by omega, by simp [Hid]⟩
  case round =>
    obtain ⟨p, l, hp, rfl, rfl, hl0, hl1, A⟩ := hrel
    by_cases hlt : p < s.size
    · have hd := drop_cons s p hlt
      by_cases ha : (s[p]).toNat < 128
      · have hn := fun ty => run_next_ascii (P := Try.prog) w s p ty hlt ha
        generalize s[p] = b at hd ha hn
        by_cases hb : b.toNat = 45
        · rw [hb] at hn
          by_cases hl : l = 45
          · subst hl
            have hA : nameGo true s.data.toList = false := by rw [A.out, hd, nameGo_dash _ _ hb]; rfl
            have HA := Lib.hid hA
            clear hA hd
            go_wp2
            go_ret
            exact ⟨ret_bool (by simp [nameOk, HA.out]), by (repeat (first | assumption | exact Below.refl _ _ | refine Below.alloc ?_ (by (try simp) <;> omega) _ | refine below_drewN ?_ _ | refine Below.drew ?_ | refine Below.setCell ?_ (by (try simp) <;> omega) _ | refine Below.trans ?_ (Below.mono (by assumption) (by (try simp) <;> omega))))⟩
          · have hl' : (l == 45) = false := by simp [hl]
            have hA : nameGo true s.data.toList = nameGo (((45 : Nat) : Int) == 45) (s.data.toList.drop (p + 1)) := by rw [A.out, hd, nameGo_dash _ _ hb, hl']; rfl
            have HA := Lib.hid hA
            clear hA hd
            go_wp2
            go_roundw
            case rel => exact ⟨p + 1, 45, by omega, rfl, rfl, by omega, by omega, HA⟩
            case measure => simp; omega
        · by_cases hr : 97 ≤ b.toNat ∧ b.toNat ≤ 122
          · have hA : nameGo true s.data.toList = nameGo (((b.toNat : Nat) : Int) == 45) (s.data.toList.drop (p + 1)) := by
              rw [A.out, hd, nameGo_letter _ _ hr.1 hr.2]
              have : (((b.toNat : Nat) : Int) == 45) = false := by rw [beq_eq_false_iff_ne]; omega
              rw [this]
            have HA := Lib.hid hA
            clear hA hd
            obtain ⟨hr1, hr2⟩ := hr
            generalize b.toNat = n at hn hb hr1 hr2 HA
            have t1 : (((n : Nat) : Int) != 45) = true := by rw [bne_iff_ne]; omega
            have t2 : (((n : Nat) : Int) == 45) = false := by rw [beq_eq_false_iff_ne]; omega
            have HT := Lib.hid t2
            go_wp2
            go_roundw
            case rel => exact ⟨p + 1, n, by omega, rfl, rfl, by omega, by omega, HA⟩
            case measure => simp; omega
          · have hA : nameGo true s.data.toList = false := by rw [A.out, hd, nameGo_bad _ _ hb hr]
            have HA := Lib.hid hA
            clear hA hd
            generalize b.toNat = n at hn hb hr
            have t1 : (((n : Nat) : Int) != 45) = true := by rw [bne_iff_ne]; omega
            by_cases hn97 : n < 97
            · go_wp2
              go_ret
              exact ⟨ret_bool (by simp [nameOk, HA.out]), by (repeat (first | assumption | exact Below.refl _ _ | refine Below.alloc ?_ (by (try simp) <;> omega) _ | refine below_drewN ?_ _ | refine Below.drew ?_ | refine Below.setCell ?_ (by (try simp) <;> omega) _ | refine Below.trans ?_ (Below.mono (by assumption) (by (try simp) <;> omega))))⟩
            · have hn122 : 122 < n := by omega
              go_wp2
              go_ret
              exact ⟨ret_bool (by simp [nameOk, HA.out]), by (repeat (first | assumption | exact Below.refl _ _ | refine Below.alloc ?_ (by (try simp) <;> omega) _ | refine below_drewN ?_ _ | refine Below.drew ?_ | refine Below.setCell ?_ (by (try simp) <;> omega) _ | refine Below.trans ?_ (Below.mono (by assumption) (by (try simp) <;> omega))))⟩
      · have hn := fun ty => run_next_any (P := Try.prog) w s p ty hlt
        have hd1 := decode_high s p hlt (by omega)
        have hd2 := decode_le s p
        have hA : nameGo true s.data.toList = false := by rw [A.out, hd, nameGo_bad _ _ (by omega) (by omega)]
        have HA := Lib.hid hA
        clear hA hd
        generalize Utf8.decode s p = d at hn hd1 hd2
        obtain ⟨r, dw⟩ := d
        dsimp only at hn hd1 hd2
        obtain ⟨hd1, hd3⟩ := hd1
        have t1 : (((r : Nat) : Int) != 45) = true := by rw [bne_iff_ne]; omega
        go_wp2
        go_ret
        exact ⟨ret_bool (by simp [nameOk, HA.out]), by (repeat (first | assumption | exact Below.refl _ _ | refine Below.alloc ?_ (by (try simp) <;> omega) _ | refine below_drewN ?_ _ | refine Below.drew ?_ | refine Below.setCell ?_ (by (try simp) <;> omega) _ | refine Below.trans ?_ (Below.mono (by assumption) (by (try simp) <;> omega))))⟩
    · have hn := fun ty => run_next_end (P := Try.prog) w s p ty hlt
      have hd : s.data.toList.drop p = [] := by apply List.drop_eq_nil_of_le; simp; omega
      have hA : nameGo true s.data.toList = !(l == 45) := by rw [A.out, hd]; rfl
      have HA := Lib.hid hA
      clear hA hd
      by_cases hl : l = 45
      · have t1 : (l != 45) = false := by simp [hl]
        have t2 : (l == 45) = true := by simp [hl]
        have T2 := Lib.hid t2
        clear t2 hl
        go_wp2
        go_ret
        exact ⟨ret_bool (by simp [nameOk, HA.out, T2.out]), by (repeat (first | assumption | exact Below.refl _ _ | refine Below.alloc ?_ (by (try simp) <;> omega) _ | refine below_drewN ?_ _ | refine Below.drew ?_ | refine Below.setCell ?_ (by (try simp) <;> omega) _ | refine Below.trans ?_ (Below.mono (by assumption) (by (try simp) <;> omega))))⟩
      · have t1 : (l != 45) = true := by simp [hl]
        have t2 : (l == 45) = false := by simp [hl]
        have T2 := Lib.hid t2
        clear t2 hl
        go_wp2
        go_ret
        refine ⟨ret_bool ?_, by (repeat (first | assumption | exact Below.refl _ _ | refine Below.alloc ?_ (by (try simp) <;> omega) _ | refine below_drewN ?_ _ | refine Below.drew ?_ | refine Below.setCell ?_ (by (try simp) <;> omega) _ | refine Below.trans ?_ (Below.mono (by assumption) (by (try simp) <;> omega))))⟩
        unfold nameOk
        rw [HA.out, T2.out]
        simp only [Bool.not_false, Bool.true_and]
        exact decide_eq_decide.2 (by omega)

end Go.Proofs.Ytnombgiacfeloaa
