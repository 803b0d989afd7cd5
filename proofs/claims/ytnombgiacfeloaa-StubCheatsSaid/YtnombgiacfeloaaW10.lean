/- Proved here: contracts of functions of the program, each for every input that its statement names. The walk of the program's 'Check'. -/
import Derived.Test.YtnombgiacfeloaaW9
namespace Go.Proofs.Ytnombgiacfeloaa
set_option linter.unusedVariables false
set_option linter.unusedSimpArgs false
open Go.RowKit

def NamesFit (ss : List Stp) : Prop := ∀ x ∈ ss, x.name.size ≤ 9223372036854775807

set_option maxHeartbeats 1000000 in
theorem findStp_any (err : Int) (ss : List Stp) (B : Nat) (v : Value) (w : World) (h0 : w.cell? ⟨B, 0, none⟩ = some (.int .i64 err)) (h1 : w.cell? ⟨B, 1, none⟩ = some v)
    (h : Rd w 4 v (stpRows ss)) (hs : NamesFit ss) :
    Calls Try.prog 55 #[v, .func (.func 56) #[] #[.pointer (some ⟨B, 0, none⟩)]] w fun e w' => e = .returned (.tuple #[.int .i64 (firstAt (stepErrAt ss) ss.length 0).1, .int .i64 (firstAt (stepErrAt ss) ss.length 0).2]) ∧ Below w.heap.size w w' := by
  have HR := Lib.hid h
  obtain ⟨a, c, rfl, -, hm, hr⟩ := h.stps
  have H := Lib.hid hr
  have H0 := Lib.hid h0
  have H1 := Lib.hid h1
  have HS := Lib.hid hs
  clear hr h h0 h1 hs
  go_enter Try.func55, Try.ntmps55
  go_wp2_with fail
  go_loopw [10] (fun i wr => ∃ k : Nat, k ≤ ss.length ∧ i = .int .i64 k ∧ Below w.heap.size w wr ∧ Hid (∀ j (hj : j < k), stepErrAt ss j = 0)) (fun i _ => ss.length - (intOf i).toNat)
  case atStart => exact ⟨0, Nat.zero_le _, rfl, Below.refl _ _, fun j hj => absurd hj (Nat.not_lt_zero _)⟩
  case round =>
    obtain ⟨k, hk, rfl, hB, A⟩ := hrel
    have hzB := hB.size
    by_cases hlt : k < ss.length
    · obtain ⟨b, off, rfl, hbl, hc⟩ := H.out (by omega)
      obtain ⟨g1, g2, g3, g4⟩ := hc k hlt
      clear hc
      rw [← hB.cell (p := ⟨b, _, none⟩) hbl] at g1 g2 g3 g4
      have hat : stepErrAt ss k = stepErr (ss.take k) ss[k] := by simp [stepErrAt, hlt]
      have hsz := HS.out ss[k] (List.getElem_mem _)
      generalize hx : ss[k] = x at g1 g2 g3 g4 hat hsz
      have HA := Lib.hid hat
      clear hx hat
      have hsub := below_alloc1 wr (Obj.cells #[Value.string x.name, Value.int IntKind.i64 x.lo, Value.int IntKind.i64 x.hi, Value.int IntKind.i64 x.err] 76)
      have hc := checkStep_any err ss k B b off c x _ (keep hsub (keep hB H0.out)) (keep hsub (keep hB H1.out)) ((HR.out.below hB).below hsub) hlt hsz
      rw [← HA.out] at hc
      clear hsub
      have HC := Lib.hid hc
      clear hc
      by_cases hq : stepErrAt ss k = 0
      · have HQ := Lib.hid hq
        clear hq
        go_wp2_with fail
        refine HC.out.mono ?_
        rw [HQ.out]
        rintro e w1 ⟨rfl, hb⟩
        have hk : Below wr.heap.size wr w1 := by (repeat (first | assumption | exact Below.refl _ _ | refine Below.alloc ?_ (by (try simp) <;> omega) _ | refine below_drewN ?_ _ | refine Below.drew ?_ | refine Below.setCell ?_ (by (try simp) <;> omega) _ | refine Below.trans ?_ (Below.mono (by assumption) (by (try simp) <;> omega))))
        replace hB := hB.trans (hk.mono hB.size)
        have hzw1 := hB.size
        clear hk hb
        go_wp2_with fail
        go_roundw
        case rel =>
          refine ⟨k + 1, by omega, by go_num, hB, fun j hj => ?_⟩
          by_cases e : j = k
          · subst e; exact HQ.out
          · exact A.out j (by omega)
        case measure => simp [intOf]; omega
      · have t1 : (stepErrAt ss k != 0) = true := by simp [hq]
        have HQ := Lib.hid hq
        clear hq
        go_wp2_with fail
        refine HC.out.mono ?_
        rintro e w1 ⟨rfl, hb⟩
        have hk : Below wr.heap.size wr w1 := by (repeat (first | assumption | exact Below.refl _ _ | refine Below.alloc ?_ (by (try simp) <;> omega) _ | refine below_drewN ?_ _ | refine Below.drew ?_ | refine Below.setCell ?_ (by (try simp) <;> omega) _ | refine Below.trans ?_ (Below.mono (by assumption) (by (try simp) <;> omega))))
        replace hB := hB.trans (hk.mono hB.size)
        have hzw1 := hB.size
        clear hk hb
        go_wp2_with fail
        go_ret2
        refine ⟨?_, hB⟩
        rw [firstAt_hit (stepErrAt ss) ss.length 0 k hlt (by rw [Nat.zero_add]; exact HQ.out) (fun j hj => by rw [Nat.zero_add]; exact A.out j hj)]
        simp
    · go_wp2_with fail
      go_ret2
      refine ⟨?_, hB⟩
      rw [firstAt_miss (stepErrAt ss) ss.length 0 (fun j hj => by rw [Nat.zero_add]; exact A.out j (by omega))]
      rfl

set_option maxHeartbeats 1000000 in
theorem check_any (err : Int) (ss : List Stp) (v : Value) (w : World) (h : Rd w 4 v (stpRows ss)) (hs : NamesFit ss) :
    Calls Try.prog 17 #[.agg #[.int .i64 err, v]] w fun e w' => e = .returned (.tuple #[.int .i64 (chk err ss).1, .int .i64 (chk err ss).2.1, .int .i64 (chk err ss).2.2]) ∧ Below w.heap.size w w' := by
  have hB := Below.refl w.heap.size w
  have HR := Lib.hid h
  have HS := Lib.hid hs
  obtain ⟨a, c, rfl, -, hm, -⟩ := h
  rw [stpRows_length] at hm
  have hsl := stpRows_length ss
  rw [hsl] at HR ⊢
  clear hs hsl
  go_enter Try.func17, Try.ntmps17
  go_wp2_with fail
  refine (out_any _ _ _ [err] _ (Rd.made1 _ _ _ _ (by simp))).mono ?_
  rintro e w1 ⟨rfl, hb⟩
  have g0 : w1.cell? ⟨w.heap.size, 0, none⟩ = some (.int .i64 err) := keep hb (by simp [go_sem])
  have g1 : w1.cell? ⟨w.heap.size, 1, none⟩ = some (.slice a ss.length c) := keep hb (by simp [go_sem])
  have hk : Below w.heap.size w w1 := by (repeat (first | assumption | exact Below.refl _ _ | refine Below.alloc ?_ (by (try simp) <;> omega) _ | refine below_drewN ?_ _ | refine Below.drew ?_ | refine Below.setCell ?_ (by (try simp) <;> omega) _ | refine Below.trans ?_ (Below.mono (by assumption) (by (try simp) <;> omega))))
  replace hB := hB.trans (hk.mono hB.size)
  have hzw1 := hB.size
  clear hk hb
  have lg := lt_of_cell g0
  cases hq1 : anyOut 0 1000000 [err]
  · go_wp2_with fail
    refine (out_any _ _ _ [(ss.length : Int)] _ (Rd.made1 _ _ _ _ (by simp))).mono ?_
    rintro e w2 ⟨rfl, hb⟩
    have hk : Below w1.heap.size w1 w2 := by (repeat (first | assumption | exact Below.refl _ _ | refine Below.alloc ?_ (by (try simp) <;> omega) _ | refine below_drewN ?_ _ | refine Below.drew ?_ | refine Below.setCell ?_ (by (try simp) <;> omega) _ | refine Below.trans ?_ (Below.mono (by assumption) (by (try simp) <;> omega))))
    replace hB := hB.trans (hk.mono hB.size)
    have hzw2 := hB.size
    replace g0 := keep hk g0
    replace g1 := keep hk g1
    have lg0 := lt_of_cell g0
    clear hk hb
    cases hq2 : anyOut 1 6 [(ss.length : Int)]
    · go_wp2_with fail
      refine (findStp_any err ss w.heap.size _ _ g0 g1 (HR.out.below hB) HS.out).mono ?_
      rintro e w3 ⟨rfl, hb⟩
      have hk : Below w2.heap.size w2 w3 := by (repeat (first | assumption | exact Below.refl _ _ | refine Below.alloc ?_ (by (try simp) <;> omega) _ | refine below_drewN ?_ _ | refine Below.drew ?_ | refine Below.setCell ?_ (by (try simp) <;> omega) _ | refine Below.trans ?_ (Below.mono (by assumption) (by (try simp) <;> omega))))
      replace hB := hB.trans (hk.mono hB.size)
      have hzw3 := hB.size
      clear hk hb
      generalize hr : firstAt (stepErrAt ss) ss.length 0 = r
      have HF := Lib.hid hr
      clear hr
      obtain ⟨ri, re⟩ := r
      dsimp only
      by_cases hre : re = 0
      · have t1 : (re != 0) = false := by simp [hre]
        have HE := Lib.hid hre
        clear hre
        go_wp2_with fail
        go_ret3
        exact ⟨by simp [chk, hq1, hq2, HF.out, HE.out], hB⟩
      · have t1 : (re != 0) = true := by simp [hre]
        have HE := Lib.hid hre
        clear hre
        go_wp2_with fail
        go_ret3
        exact ⟨by simp [chk, hq1, hq2, HF.out, HE.out], hB⟩
    · go_wp2_with fail
      go_ret3
      exact ⟨by simp [chk, hq1, hq2], hB⟩
  · go_wp2_with fail
    go_ret3
    exact ⟨by simp [chk, hq1], hB⟩

set_option maxHeartbeats 1000000 in
theorem open1_any (i r : Int) (w : World) :
    Calls Try.prog 93 #[.int .i64 i, .int .i64 r] w fun e w' => e = .returned (.int .i64 (rdErr1 r)) ∧ Below w.heap.size w w' := by
  have hB := Below.refl w.heap.size w
  by_cases hr : r = -1
  · have t1 : (r != -1) = false := by simp [hr]
    have HR := Lib.hid hr
    clear hr
    go_enter Try.func93, Try.ntmps93
    go_wp2_with fail
    go_ret
    exact ⟨ret_int (by simp [rdErr1, HR.out]), hB⟩
  · have t1 : (r != -1) = true := by simp [hr]
    have HR := Lib.hid hr
    clear hr
    go_enter Try.func93, Try.ntmps93
    go_wp2_with fail
    refine (out_any _ _ _ [r] _ (Rd.made1 _ _ _ _ (by simp))).mono ?_
    rintro e w1 ⟨rfl, hb⟩
    have hk : Below w.heap.size w w1 := by (repeat (first | assumption | exact Below.refl _ _ | refine Below.alloc ?_ (by (try simp) <;> omega) _ | refine below_drewN ?_ _ | refine Below.drew ?_ | refine Below.setCell ?_ (by (try simp) <;> omega) _ | refine Below.trans ?_ (Below.mono (by assumption) (by (try simp) <;> omega))))
    replace hB := hB.trans (hk.mono hB.size)
    have hzw1 := hB.size
    clear hk hb
    cases hq : anyOut 0 1000000 [r]
    · go_wp2_with fail
      go_ret
      exact ⟨ret_int (by simp [rdErr1, HR.out, hq]), hB⟩
    · go_wp2_with fail
      go_ret
      exact ⟨ret_int (by have := HR.out; simp [rdErr1, this, hq]), hB⟩

set_option maxHeartbeats 1000000 in
theorem findInts_any (v : Value) (rs : List Int) (w : World) (h : Rd w 1 v (ints rs)) :
    Calls Try.prog 92 #[v, .func (.func 93) #[] #[]] w fun e w' => e = .returned (.tuple #[.int .i64 (firstErr rdErr1 rs 0).1, .int .i64 (firstErr rdErr1 rs 0).2]) ∧ Below w.heap.size w w' := by
  obtain ⟨a, c, rfl, -, hm, hr⟩ := h.ints
  have H := Lib.hid hr
  clear hr h
  go_enter Try.func92, Try.ntmps92
  go_wp2_with fail
  go_loopw [10] (fun i wr => ∃ k : Nat, k ≤ rs.length ∧ i = .int .i64 k ∧ Below w.heap.size w wr ∧ Hid (∀ j (hj : j < k) (hz : j < rs.length), rdErr1 rs[j] = 0)) (fun i _ => rs.length - (intOf i).toNat)
  case atStart => exact ⟨0, Nat.zero_le _, rfl, Below.refl _ _, fun j hj => absurd hj (Nat.not_lt_zero _)⟩
  case round =>
    obtain ⟨k, hk, rfl, hB, A⟩ := hrel
    have hzB := hB.size
    by_cases hlt : k < rs.length
    · obtain ⟨b, off, rfl, hbl, hc⟩ := H.out (by omega)
      have g1 := hc k hlt
      clear hc
      rw [← hB.cell (p := ⟨b, _, none⟩) hbl] at g1
      generalize hx : rs[k] = x at g1
      have HX := Lib.hid hx
      clear hx
      by_cases hq : rdErr1 x = 0
      · have HQ := Lib.hid hq
        clear hq
        go_wp2_with fail
        refine (open1_any _ x _).mono ?_
        rw [HQ.out]
        rintro e w1 ⟨rfl, hb⟩
        have hk : Below wr.heap.size wr w1 := by (repeat (first | assumption | exact Below.refl _ _ | refine Below.alloc ?_ (by (try simp) <;> omega) _ | refine below_drewN ?_ _ | refine Below.drew ?_ | refine Below.setCell ?_ (by (try simp) <;> omega) _ | refine Below.trans ?_ (Below.mono (by assumption) (by (try simp) <;> omega))))
        replace hB := hB.trans (hk.mono hB.size)
        have hzw1 := hB.size
        clear hk hb
        go_wp2_with fail
        go_roundw
        case rel =>
          refine ⟨k + 1, by omega, by go_num, hB, fun j hj hz => ?_⟩
          by_cases e : j = k
          · subst e; rw [HX.out]; exact HQ.out
          · exact A.out j (by omega) hz
        case measure => simp [intOf]; omega
      · have t1 : (rdErr1 x != 0) = true := by simp [hq]
        have HQ := Lib.hid hq
        clear hq
        go_wp2_with fail
        refine (open1_any _ x _).mono ?_
        rintro e w1 ⟨rfl, hb⟩
        have hk : Below wr.heap.size wr w1 := by (repeat (first | assumption | exact Below.refl _ _ | refine Below.alloc ?_ (by (try simp) <;> omega) _ | refine below_drewN ?_ _ | refine Below.drew ?_ | refine Below.setCell ?_ (by (try simp) <;> omega) _ | refine Below.trans ?_ (Below.mono (by assumption) (by (try simp) <;> omega))))
        replace hB := hB.trans (hk.mono hB.size)
        have hzw1 := hB.size
        clear hk hb
        go_wp2_with fail
        go_ret2
        refine ⟨?_, hB⟩
        rw [firstErr_hit rdErr1 rs 0 k hlt (by rw [HX.out]; exact HQ.out) (fun j hj => A.out j hj _), HX.out]
        simp
    · go_wp2_with fail
      go_ret2
      refine ⟨?_, hB⟩
      rw [firstErr_miss rdErr1 rs 0 (fun j hj => A.out j (by omega) hj)]
      rfl

end Go.Proofs.Ytnombgiacfeloaa
