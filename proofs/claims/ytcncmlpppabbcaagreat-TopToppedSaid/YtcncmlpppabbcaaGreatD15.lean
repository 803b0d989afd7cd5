/- Contracts: skin (how many numbers are at most another), slices.Max. The walk of the closure of mould's Hollow: has too much set in a minute? slices.IndexFunc and ContainsFunc over the closure of mould's Hollow. -/
import Derived.Test.YtcncmlpppabbcaaGreatD2
import Derived.LoopNIn
import Derived.LoopIn
namespace Go.Proofs.YtcncmlpppabbcaaGreat
set_option linter.unusedVariables false
set_option linter.unusedSimpArgs false
open Go.RowKit

/-- How many of the first k are at most n. -/
def cntLe (n : Int) (zs : List Int) (k : Nat) : Nat := ((zs.take k).filter fun z => decide (z ≤ n)).length

theorem cntLe_le (n : Int) (zs : List Int) (k : Nat) : cntLe n zs k ≤ k := by
  unfold cntLe
  refine Nat.le_trans (List.length_filter_le _ _) ?_
  simp
  omega
theorem cntLe_succ (n : Int) (zs : List Int) (k : Nat) (h : k < zs.length) : cntLe n zs (k + 1) = cntLe n zs k + (if zs[k] ≤ n then 1 else 0) := by
  unfold cntLe
  rw [List.take_succ_eq_append_getElem h, List.filter_append, List.length_append]
  by_cases e : zs[k] ≤ n
  · simp [e]
  · simp [e]

set_option maxHeartbeats 400000 in
theorem skin_any (n : Int) (v : Value) (zs : List Int) (w : World) (h : Rd w 1 v (ints zs)) :
    Calls Tryz.prog 20 #[v, .int .i64 n] w fun e w' => e = .returned (.int .i64 (cntLe n zs zs.length)) ∧ w = w' := by
  obtain ⟨a, c, rfl, -, hm, hr⟩ := h.ints
  have H := Lib.hid hr
  clear hr h
  go_enter Tryz.func20, Tryz.ntmps20
  go_wp2
  go_loop [4, 9] (fun s i => ∃ k : Nat, k ≤ zs.length ∧ s = .int .i64 (cntLe n zs k) ∧ i = .int .i64 k) (fun _ i => zs.length - (intOf i).toNat)
  case atStart => exact ⟨0, Nat.zero_le _, rfl, rfl⟩
  case round =>
    obtain ⟨k, hk, rfl, rfl⟩ := hrel
    by_cases hlt : k < zs.length
    · obtain ⟨b, off, rfl, hb, hc⟩ := H.out (by omega)
      have hcell := hc k hlt
      have hs := cntLe_succ n zs k hlt
      have hl := cntLe_le n zs k
      clear hc
      generalize zs[k] = z at hcell hs
      generalize hq : cntLe n zs k = q at hs hl
      have HS := Lib.hid hs
      clear hs hq
      by_cases e : z ≤ n
      · go_wp2
        go_round
        case rel => exact ⟨k + 1, by omega, by rw [HS.out, if_pos e]; go_num, by go_num⟩
        case measure => simp [intOf]; omega
      · go_wp2
        go_round
        case rel => exact ⟨k + 1, by omega, by rw [HS.out, if_neg e]; rfl, by go_num⟩
        case measure => simp [intOf]; omega
    · obtain rfl : k = zs.length := by omega
      go_wp2
      go_ret
      exact ⟨rfl, rfl⟩

end Go.Proofs.YtcncmlpppabbcaaGreat

namespace Go.Proofs.YtcncmlpppabbcaaGreat
set_option linter.unusedVariables false
set_option linter.unusedSimpArgs false
open Go.RowKit
attribute [local go_sem] Oper.semAt_some

set_option maxHeartbeats 400000 in
theorem over_any (n : Int) (m : Mo) (B : Nat) (v : Value) (zs : List Int) (w : World) (h : Rd w 1 v (ints zs)) (hm : MoAt w B m) (hv : w.cell? ⟨B, 12, none⟩ = some v) :
    Calls Tryz.prog 19 #[.int .i64 n, .pointer (some ⟨B, 0, none⟩)] w fun e w' => e = .returned (.bool (decide (m.skin < (cntLe n zs zs.length : Int)))) ∧ Below w.heap.size w w' := by
  have HR := Lib.hid h
  have c8 := hm.c8
  clear hm h
  go_enter Tryz.func19, Tryz.ntmps19
  go_upto_region 1 with fail
  go_region_with (go_at_call 20; refine (skin_any n v zs w.drew HR.out).mono ?_; rintro e w' ⟨rfl, rfl⟩)
  trace_state
  all_goals simp [Act.put]
  all_goals go_wp2_with fail
  all_goals go_ret
  all_goals exact ⟨rfl, (Below.refl _ _).drew⟩

end Go.Proofs.YtcncmlpppabbcaaGreat

namespace Go.Proofs.YtcncmlpppabbcaaGreat
set_option linter.unusedVariables false
set_option linter.unusedSimpArgs false
open Go.RowKit
attribute [local go_sem] Oper.semAt_some

def overB (m : Mo) (zs : List Int) (n : Int) : Bool := decide (m.skin < (cntLe n zs zs.length : Int))

set_option maxHeartbeats 400000 in
theorem indexO_any (m : Mo) (B : Nat) (fv v : Value) (zs plan : List Int) (w : World) (h : Rd w 1 fv (ints zs)) (hm : MoAt w B m) (hv : w.cell? ⟨B, 12, none⟩ = some fv) (hp : Rd w 1 v (ints plan)) :
    Calls Tryz.prog 61 #[v, .func (.func 19) #[] #[.pointer (some ⟨B, 0, none⟩)]] w fun e w' => e = .returned (.int .i64 (idx (overB m zs) plan 0)) ∧ Below w.heap.size w w' := by
  have HP := Lib.hid hp
  obtain ⟨a, c, rfl, -, hmx, -⟩ := hp.ints
  have HO : Hid (∀ (n : Int) (w' : World), Below w.heap.size w w' → Calls Tryz.prog 19 #[.int .i64 n, .pointer (some ⟨B, 0, none⟩)] w' fun e w2 => e = .returned (.bool (overB m zs n)) ∧ Below w'.heap.size w' w2) :=
    Lib.hid fun n w' hb => over_any n m B fv zs w' (h.below hb) (hm.below hb) (keep hb hv)
  clear h hm hv hp
  go_enter Tryz.func61, Tryz.ntmps61
  go_wp2_with fail
  go_loopw [8] (fun i wr => ∃ k : Nat, k ≤ plan.length ∧ i = .int .i64 k ∧ Hid (Below w.heap.size w wr ∧ ∀ j (hj : j < k) (hz : j < plan.length), overB m zs plan[j] = false)) (fun i _ => plan.length - (intOf i).toNat)
  case atStart => exact ⟨0, Nat.zero_le _, rfl, Lib.hid ⟨Below.refl _ _, fun j hj => absurd hj (Nat.not_lt_zero _)⟩⟩
  case round =>
    obtain ⟨k, hk, rfl, HI⟩ := hrel
    by_cases hlt : k < plan.length
    · obtain ⟨a2, c2, e2, -, -, hq⟩ := (HP.out.below HI.out.1).ints
      obtain ⟨b, off, ha, -, hc⟩ := hq (by omega)
      simp only [Value.slice.injEq] at e2
      obtain ⟨rfl, -, rfl⟩ := e2
      subst ha
      have hcell := hc k hlt
      clear hc hq
      generalize hz : plan[k] = z at hcell
      have HZ := Lib.hid hz
      clear hz
      have HC := Lib.hid (HO.out z wr HI.out.1)
      cases hq' : overB m zs z with
      | true =>
        have HQ := Lib.hid hq'
        clear hq'
        go_wp2_with (go_at_call 19; refine HC.out.mono ?_; rw [HQ.out]; rintro e w' ⟨rfl, hb⟩)
        go_ret
        refine ⟨ret_int ?_, belT HI.out.1 hb⟩
        rw [idx_hit _ plan 0 k hlt (by rw [HZ.out]; exact HQ.out) (fun j hj => HI.out.2 j hj _)]
        simp
      | false =>
        have HQ := Lib.hid hq'
        clear hq'
        go_wp2_with (go_at_call 19; refine HC.out.mono ?_; rw [HQ.out]; rintro e w' ⟨rfl, hb⟩)
        go_roundw
        case rel =>
          refine ⟨k + 1, by omega, by go_num, Lib.hid ⟨belT HI.out.1 hb, fun j hj hz => ?_⟩⟩
          by_cases e : j = k
          · subst e; rw [HZ.out]; exact HQ.out
          · exact HI.out.2 j (by omega) hz
        case measure => simp [intOf]; omega
    · go_wp2_with fail
      go_ret
      refine ⟨ret_int ?_, HI.out.1⟩
      rw [idx_miss _ plan 0 (fun j hj => HI.out.2 j (by omega) hj)]

set_option maxHeartbeats 400000 in
theorem containsO_any (m : Mo) (B : Nat) (fv v : Value) (zs plan : List Int) (w : World) (h : Rd w 1 fv (ints zs)) (hm : MoAt w B m) (hv : w.cell? ⟨B, 12, none⟩ = some fv) (hp : Rd w 1 v (ints plan)) :
    Calls Tryz.prog 18 #[v, .func (.func 19) #[] #[.pointer (some ⟨B, 0, none⟩)]] w fun e w' => e = .returned (.bool (plan.any (overB m zs))) ∧ Below w.heap.size w w' := by
  go_enter Tryz.func18, Tryz.ntmps18
  go_wp2_with (go_at_call 61; refine (indexO_any m B fv v zs plan w h hm hv hp).mono ?_; rintro e w' ⟨rfl, hb⟩)
  go_ret
  exact ⟨ret_bool (idx_any _ _ _), hb⟩

end Go.Proofs.YtcncmlpppabbcaaGreat
