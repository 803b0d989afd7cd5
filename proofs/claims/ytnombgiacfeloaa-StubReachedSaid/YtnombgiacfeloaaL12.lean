/- The statement 'StubReached', walked: each end of each range is reached. -/
import Derived.Test.YtnombgiacfeloaaW27
import Derived.Test.YtnombgiacfeloaaW14
import Derived.Test.YtnombgiacfeloaaW17
import Derived.Test.YtnombgiacfeloaaW19
import Derived.Deep.LoopGhost
namespace Go.Proofs.Ytnombgiacfeloaa
set_option linter.unusedVariables false
set_option linter.unusedSimpArgs false
open Go.RowKit

theorem insideAt (n a b : Int) (h : a ≤ n ∧ n ≤ b) (w : World) : Calls Try.prog 41 #[.int .i64 n, .agg #[.int .i64 a, .int .i64 b]] w fun e w' => e = .returned (.bool true) ∧ Below w.heap.size w w' := by
  have e : inB a b n = true := by unfold inB; rw [decide_eq_true h.1, decide_eq_true h.2]; rfl
  have := inside_any n a b w
  rw [e] at this
  exact this

theorem min_le_or (x y : Int) : min x y = x ∨ min x y = y := by omega

/-- One of two numbers. -/
def two (x y : Int) (n : Nat) : Int := if n = 0 then x else y
theorem two_or (x y : Int) (n : Nat) : two x y n = x ∨ two x y n = y := by
  unfold two
  split
  · exact .inl rfl
  · exact .inr rfl
theorem two_cell {w : World} {x y : Int} {t : TypeId} : ∀ n, n < 2 → (w.alloc (.cells #[.int .i64 x, .int .i64 y] t)).cell? ⟨w.heap.size, n, none⟩ = some (.int .i64 (two x y n)) := by
  intro n hn
  have : n = 0 ∨ n = 1 := by omega
  rcases this with rfl | rfl
  · exact cell_new_lit w [_, _] t 0
  · exact cell_new_lit w [_, _] t 1

theorem pinS_names {ss : List Stp} (hS : NamesFit ss) (p : Nat) : NamesFit (pinS ss p) := by
  intro x hx
  obtain ⟨i, hi, rfl⟩ := List.getElem_of_mem hx
  have h2 : i < ss.length := by rw [← pinS_len ss p]; exact hi
  rw [pinS_get ss p i h2]
  have h3 := hS ss[i] (List.getElem_mem h2)
  split
  · exact h3
  · exact h3

theorem newF {W w9 : World} (hb : Below ((W.alloc (.cells #[.int .i64 0, .slice none 0 0] 24)).drew).heap.size ((W.alloc (.cells #[.int .i64 0, .slice none 0 0] 24)).drew) w9) :
    w9.cell? ⟨W.heap.size, 0, none⟩ = some (.int .i64 0) ∧ w9.cell? ⟨W.heap.size, 1, none⟩ = some (.slice none 0 0) ∧ w9.frozen? ⟨W.heap.size, 0, none⟩ = false ∧ w9.frozen? ⟨W.heap.size, 1, none⟩ = false :=
  ⟨keep hb (keep (Below.drew (Below.refl _ _)) (cell_new_lit W [_, _] 24 0)), keep hb (keep (Below.drew (Below.refl _ _)) (cell_new_lit W [_, _] 24 1)),
    keepF hb (by simp) (frozen_of_row (heap_alloc_new W _)), keepF hb (by simp) (frozen_of_row (heap_alloc_new W _))⟩

/-- A pinned line, where the struct's block is made ahead of the call. -/
def RetPin2 (err : Int) (ss : List Stp) (rs : List Int) (W : World) (e : Ending) (w' : World) : Prop := ∃ g2 c2 g c : Nat, e = .returned (.tuple #[.agg #[.int .i64 err, .slice (some ⟨g2, 0, none⟩) ss.length c2], .slice (some ⟨g, 0, none⟩) rs.length c]) ∧ Rd w' 4 (.slice (some ⟨g2, 0, none⟩) ss.length c2) (stpRows ss) ∧ Rd w' 1 (.slice (some ⟨g, 0, none⟩) rs.length c) (ints rs) ∧ W.heap.size ≠ g2 ∧ W.heap.size ≠ g ∧ Below ((W.alloc (.cells #[.int .i64 0, .slice none 0 0] 24)).drew).heap.size ((W.alloc (.cells #[.int .i64 0, .slice none 0 0] 24)).drew) w'
    ∧ w'.cell? ⟨W.heap.size, 0, none⟩ = some (.int .i64 0) ∧ w'.cell? ⟨W.heap.size, 1, none⟩ = some (.slice none 0 0) ∧ w'.frozen? ⟨W.heap.size, 0, none⟩ = false ∧ w'.frozen? ⟨W.heap.size, 1, none⟩ = false
theorem pin2 {err : Int} {ss : List Stp} {rs : List Int} {W : World} {e : Ending} {w' : World} (h : RetPin err ss rs ((W.alloc (.cells #[.int .i64 0, .slice none 0 0] 24)).drew) e w') : RetPin2 err ss rs W e w' := by
  obtain ⟨g2, c2, g, c, e1, e2, e3, h1, h2, e4⟩ := h
  simp at h1 h2
  exact ⟨g2, c2, g, c, e1, e2, e3, by omega, by omega, e4, newF e4⟩

theorem rdS_form {w : World} {k : Nat} {v : Value} {rows : List (List Value)} (h : Rd w k v rows) : ∃ a c, v = .slice a rows.length c := by
  obtain ⟨a, c, e, -⟩ := h
  exact ⟨a, c, e⟩

set_option maxRecDepth 100000 in
set_option maxHeartbeats 8000000 in
theorem reached_law (err : Int) (v : Value) (ss : List Stp) (rv : Value) (rs : List Int) (y0 y1 : Int) (w : World) (h : Rd w 4 v (stpRows ss)) (hs : NamesFit ss) (hr : Rd w 1 rv (ints rs)) (hy : (0 ≤ y0 ∧ y0 ≤ 255) ∧ (0 ≤ y1 ∧ y1 ≤ 255)) :
    Calls Try.prog 8 #[.agg #[.int .i64 err, v], rv, .agg #[.int .u8 y0, .int .u8 y1]] w fun e w' => e = .returned (.bool true) ∧ Below w.heap.size w w' := by
  obtain ⟨q0, q1⟩ := hy
  have HR := Lib.hid h
  have HQ := Lib.hid hr
  have HS := Lib.hid hs
  have we := fun w' (h : Rd w' 4 v (stpRows ss)) (h' : Rd w' 1 rv (ints rs)) => weights_any err ss rs v rv w' h h' hs
  by_cases hw0 : wErr err ss rs = 0
  · have hA : askErr err ss rs = 0 := by
      unfold wErr at hw0
      by_cases h0 : askErr err ss rs = 0
      · exact h0
      · rw [if_pos h0] at hw0
        exact hw0
    have hsnd : sound (closed err ss rs) = true := by
      rw [(weights_at hA).1] at hw0
      by_cases h0 : sound (closed err ss rs) = true
      · exact h0
      · rw [if_neg h0] at hw0
        exact absurd hw0 (by decide)
    have hc0 : (chk err ss).2.2 = 0 := by
      unfold askErr at hA
      by_cases h0 : (chk err ss).2.2 = 0
      · exact h0
      · rw [if_pos h0] at hA
        exact hA
    have hrd : rdErr ss rs = 0 := by
      unfold askErr at hA
      rw [if_neg (by omega)] at hA
      exact hA
    have hL := chk_ok hc0
    have hR := rdErr_ok hrd
    have hl6 := hL.len
    have hlr := hR.len
    have v1 := fun w' (h : Rd w' 4 v (stpRows ss)) => valid_any err ss v w' h hs
    rw [hc0] at v1
    have v2 := fun w' (h : Rd w' 4 v (stpRows ss)) (h' : Rd w' 1 rv (ints rs)) => readings_err err ss rs v rv w' h h' (by omega)
    rw [hrd] at v2
    rw [hw0, (weights_at hA).2, hsnd, if_pos rfl, hlr] at we
    have hln := wList_len err ss rs (ss.length + 1)
    have hge := wList_get err ss rs (ss.length + 1)
    generalize wList err ss rs (ss.length + 1) = SL at *
    have WE := Lib.hid we
    have V1 := Lib.hid v1
    have V2 := Lib.hid v2
    have HLN := Lib.hid hln
    have HGE := Lib.hid hge
    have HL := Lib.hid hL
    have HRD := Lib.hid hR
    have HC0 := Lib.hid hc0
    have HLR := Lib.hid hlr
    obtain ⟨sa, sc, rfl, -, hm, hcell⟩ := h.stps
    obtain ⟨gb, goff, rfl, hgb, hcell⟩ := hcell (by omega)
    obtain ⟨ra, rc, hrv, -, hm', hrcell⟩ := hr.ints
    obtain ⟨qb, qoff, rfl, hqb, hrcell⟩ := hrcell (by omega)
    rw [hlr] at hrv hm'
    subst hrv
    have hsndK := hsnd
    clear we v1 v2 hln hge hL hR hc0 hrd hA hw0 h hs hr hsnd hcell hrcell
    clear hlr hcell hrcell hgb hqb
    go_enter Try.func8, Try.ntmps8
    go_upto_region 1 with fail
    obtain ⟨W0, hW0⟩ : ∃ W0, (w.alloc (.cells #[.int .i64 err, .slice (some ⟨gb, goff, none⟩) ss.length sc] 24)).alloc (.cells #[.int .u8 y0, .int .u8 y1] 63) = W0 := ⟨_, rfl⟩
    have c0 : W0.cell? ⟨w.heap.size, 0, none⟩ = some (.int .i64 err) := by rw [← hW0]; simp [go_sem]
    have c1 : W0.cell? ⟨w.heap.size, 1, none⟩ = some (.slice (some ⟨gb, goff, none⟩) ss.length sc) := by rw [← hW0]; simp [go_sem]
    have x0 : W0.cell? ⟨w.heap.size + 1, 0, none⟩ = some (.int .u8 y0) := by rw [← hW0]; simp [go_sem]
    have x1 : W0.cell? ⟨w.heap.size + 1, 1, none⟩ = some (.int .u8 y1) := by rw [← hW0]; simp [go_sem]
    have hB : Below w.heap.size w W0 := by rw [← hW0]; exact below_alloc2 _ _ _
    rw [hW0]
    clear hW0
    go_wp2_with fail
    refine (WE.out W0 (HR.out.below hB) (HQ.out.below hB)).mono ?_
    rintro e w1 ⟨sv, rfl, hRs, hb⟩
    replace c0 := keep hb c0
    replace c1 := keep hb c1
    replace x0 := keep hb x0
    replace x1 := keep hb x1
    replace hB := belTrans hB hb
    obtain ⟨ta, tc, rfl, -, -, htc⟩ := hRs.spans
    obtain ⟨tb, toff, rfl, htb, htc⟩ := htc (by have := HLN.out; omega)
    have hll : SL.length = ss.length + 1 := HLN.out
    rw [hll]
    have TC := Lib.hid htc
    clear hb hRs htc hll WE
    go_wp2_with fail
    refine (V1.out _ (HR.out.below hB)).mono ?_
    rintro e w2 ⟨rfl, hb⟩
    replace c0 := keep hb c0
    replace c1 := keep hb c1
    replace x0 := keep hb x0
    replace x1 := keep hb x1
    have hW := hb
    replace hB := belTrans hB hb
    clear hb V1
    go_wp2_with fail
    refine (V2.out _ (HR.out.below hB) (HQ.out.below hB)).mono ?_
    rintro e w3 ⟨rfl, hb⟩
    replace c0 := keep hb c0
    replace c1 := keep hb c1
    replace x0 := keep hb x0
    replace x1 := keep hb x1
    replace hW := belTrans hW hb
    replace hB := belTrans hB hb
    clear hb V2
    have SND := Lib.hid hsndK
    go_upto_region 4 with fail
    have hn0 : (0 : Int) < ss.length := by omega
    have e0 := Int.emod_nonneg y0 (by omega : (ss.length : Int) ≠ 0)
    have e0' := Int.emod_lt_of_pos y0 hn0
    obtain ⟨a, ha⟩ : ∃ a : Nat, y0 % (ss.length : Int) = a := ⟨(y0 % (ss.length : Int)).toNat, by omega⟩
    have hal : a < ss.length := by omega
    have e1 := Int.emod_nonneg y1 (by omega : (ss.length : Int) - a ≠ 0)
    have e1' := Int.emod_lt_of_pos y1 (by omega : (0 : Int) < (ss.length : Int) - a)
    obtain ⟨b, hbb⟩ : ∃ b : Nat, (a : Int) + 1 + y1 % ((ss.length : Int) - a) = b := ⟨((a : Int) + 1 + y1 % ((ss.length : Int) - a)).toNat, by omega⟩
    have hbl : a < b ∧ b ≤ ss.length := by omega
    have z0 : ((ss.length : Int) == 0) = false := by rw [beq_eq_false_iff_ne]; omega
    have z1 : ((ss.length : Int) - a == 0) = false := by rw [beq_eq_false_iff_ne]; omega
    have hA := ask_ok HC0.out (rdErr_of_ok HRD.out)
    have lo1 := fun w' (h : Rd w' 4 (.slice (some ⟨gb, goff, none⟩) ss.length sc) (stpRows ss)) (h' : Rd w' 1 (.slice (some ⟨qb, qoff, none⟩) (ss.length + 1) rc) (ints rs)) => lost_any err ss rs _ _ a b w' h h' HS.out
    rw [(lost_at hA hbl.1 hbl.2).1, (lost_at hA hbl.1 hbl.2).2, SND.out, if_pos rfl, if_pos rfl] at lo1
    have LO := Lib.hid lo1
    clear lo1 hA e0 e0' e1 e1'
    go_upto_region 5 with fail
    try rw [ha]
    go_upto_region 6 with fail
    try rw [hbb]
    clear ha hbb x0 x1 z0 z1 q0 q1
    go_upto_region 7 with (go_at_call 22; refine (LO.out _ (HR.out.below hB) (HQ.out.below hB)).mono ?_; rintro e w4 ⟨rfl, hb⟩)
    replace c0 := keep hb c0
    replace c1 := keep hb c1
    replace hW := belTrans hW hb
    replace hB := belTrans hB hb
    clear hb LO
    have er := fun x h => end_reached (x := x) HL.out HRD.out SND.out (a := a) (by omega) h
    have lr := fun z h x h' => loss_reached (z := z) (x := x) HL.out HRD.out SND.out (a := a) (b := b) (by omega) hbl.2 h h'
    have cbd := closed_bd HL.out HRD.out
    have ca := HGE.out a (by rw [HLN.out]; omega)
    have cb := HGE.out b (by rw [HLN.out]; omega)
    obtain ⟨ta0, ta1⟩ := TC.out a (by rw [HLN.out]; omega)
    obtain ⟨tb0, tb1⟩ := TC.out b (by rw [HLN.out]; omega)
    rw [ca] at ta0 ta1
    rw [cb] at tb0 tb1
    dsimp only at ta0 ta1 tb0 tb1
    have b1 := cbd 7 a
    have b2 := cbd a 7
    have b3 := cbd 7 b
    have b4 := cbd b 7
    have b5 := cbd b a
    have b6 := cbd a b
    obtain ⟨A0, hA0⟩ : ∃ A0, -closed err ss rs 7 a = A0 := ⟨_, rfl⟩
    obtain ⟨A1, hA1⟩ : ∃ A1, closed err ss rs a 7 = A1 := ⟨_, rfl⟩
    obtain ⟨B0, hB0⟩ : ∃ B0, -closed err ss rs 7 b = B0 := ⟨_, rfl⟩
    obtain ⟨B1, hB1⟩ : ∃ B1, closed err ss rs b 7 = B1 := ⟨_, rfl⟩
    obtain ⟨L0, hL0⟩ : ∃ L0, -closed err ss rs b a = L0 := ⟨_, rfl⟩
    obtain ⟨L1, hL1⟩ : ∃ L1, closed err ss rs a b = L1 := ⟨_, rfl⟩
    have c1' : -4000000000000 ≤ A0 ∧ A0 ≤ 4000000000000 := by omega
    have c2' : -4000000000000 ≤ A1 ∧ A1 ≤ 4000000000000 := by omega
    have c3' : -4000000000000 ≤ B0 ∧ B0 ≤ 4000000000000 := by omega
    have c4' : -4000000000000 ≤ B1 ∧ B1 ≤ 4000000000000 := by omega
    have c5' : -4000000000000 ≤ L0 ∧ L0 ≤ 4000000000000 := by omega
    have c6' : -4000000000000 ≤ L1 ∧ L1 ≤ 4000000000000 := by omega
    rw [hA0] at ta0
    rw [hA1] at ta1
    rw [hB0] at tb0
    rw [hB1] at tb1
    simp only [hA0, hA1, hB0, hB1, hL0, hL1] at er lr
    rw [hL0, hL1]
    have ER := Lib.hid er
    have LR := Lib.hid lr
    clear er lr cbd ca cb b1 b2 b3 b4 b5 b6 hA0 hA1 hB0 hB1 hL0 hL1
    replace ta0 := keep hW ta0
    replace ta1 := keep hW ta1
    replace tb0 := keep hW tb0
    replace tb1 := keep hW tb1
    have hal1 : (a : Int) < ((ss.length + 1 : Nat) : Int) := by omega
    have hal2 : (a : Int) < (ss.length : Int) + 1 := by omega
    have hbl1 : (b : Int) < ((ss.length + 1 : Nat) : Int) := by omega
    have hbl2 : (b : Int) < (ss.length : Int) + 1 := by omega
    go_upto_region 9 with fail
    obtain ⟨W5, hW5⟩ : ∃ W5, w4.alloc (.cells #[.int .i64 L0, .int .i64 L1] 35) = W5 := ⟨_, rfl⟩
    have hk5 : Below w4.heap.size w4 W5 := by rw [← hW5]; exact below_alloc1 _ _
    have u0 : W5.cell? ⟨w4.heap.size, 0, none⟩ = some (.int .i64 L0) := by rw [← hW5]; simp [go_sem]
    have u1 : W5.cell? ⟨w4.heap.size, 1, none⟩ = some (.int .i64 L1) := by rw [← hW5]; simp [go_sem]
    replace c0 := keep hk5 c0
    replace c1 := keep hk5 c1
    replace ta0 := keep hk5 ta0
    replace ta1 := keep hk5 ta1
    replace tb0 := keep hk5 tb0
    replace tb1 := keep hk5 tb1
    replace hB := belTrans hB hk5
    rw [hW5]
    clear hW5 hk5 hW TC HLN HGE
    go_region_held3 (fun w' => w'.cell? ⟨tb, toff + a * 2, none⟩ = some (.int .i64 A0) ∧ w'.cell? ⟨tb, toff + a * 2 + 1, none⟩ = some (.int .i64 A1) ∧ Below W5.heap.size W5 w')
      (first
        | (go_split_ands; refine ⟨?_, ?_, ?_⟩ <;> with_reducible first | assumption | ((repeat' first | assumption | exact Below.refl _ _ | refine Below.drew ?_ | refine belAlloc ?_ _); done) | go_keep))
      (first | fail)
    obtain ⟨W6, hW6⟩ : ∃ W6, (W5.alloc (.cells #[.int .i64 A0, .int .i64 A1] 3)).drew = W6 := ⟨_, rfl⟩
    have hk6 : Below W5.heap.size W5 W6 := by rw [← hW6]; exact (below_alloc1 _ _).drew
    have ends : ∀ n, n < 2 → W6.cell? ⟨W5.heap.size, n, none⟩ = some (.int .i64 (two A0 A1 n)) := fun n hn => by rw [← hW6]; exact keep (Below.drew (Below.refl _ _)) (two_cell n hn)
    replace c0 := keep hk6 c0
    replace c1 := keep hk6 c1
    replace u0 := keep hk6 u0
    replace u1 := keep hk6 u1
    replace ta0 := keep hk6 ta0
    replace ta1 := keep hk6 ta1
    replace tb0 := keep hk6 tb0
    replace tb1 := keep hk6 tb1
    replace hB := belTrans hB hk6
    rw [hW6]
    clear hW6 hk6
    rename_i hHx
    clear hHx
    generalize W5.heap.size = EB at *
    have hll := HLR.out
    have hle : a ≤ ss.length := by omega
    have HLL := Lib.hid hll
    clear hll
    go_wp2_with fail
    go_loopw [13] (fun i wr => ∃ n : Nat, n ≤ 2 ∧ i = .int .i64 n ∧ Below W6.heap.size W6 wr) (fun i _ => 2 - (intOf i).toNat)
    case atStart => exact ⟨0, Nat.zero_le _, rfl, Below.refl _ _⟩
    case round =>
      obtain ⟨n, hn, rfl, hV⟩ := hrel
      by_cases hlt : n < 2
      · have hlt' : (n : Int) < 2 := by omega
        have gx := keep hV (ends n hlt)
        obtain ⟨⟨wt, hT, hwa⟩, hlo, hhi⟩ := ER.out (two A0 A1 n) (by
          rcases two_or A0 A1 n with e | e <;> rw [e]
          · exact .inl rfl
          · exact .inr rfl)
        obtain ⟨p1, p2, p3, p4⟩ := pin_at HC0.out HL.out HRD.out hT hle hle hwa hwa
        have hnf := pinS_names (pinS_names HS.out a) a
        have hB6 := belTrans hB hV
        have PA := fun w' h h' => pinned_any err ss rs (.slice (some ⟨gb, goff, none⟩) ss.length sc) (.slice (some ⟨qb, qoff, none⟩) (ss.length + 1) rc) a a (two A0 A1 n) (two A0 A1 n) w' h h' hl6 HLL.out hle hle
        have lR : ((rs.set a (two A0 A1 n)).set a (two A0 A1 n)).length = ss.length + 1 := by rw [List.length_set, List.length_set]; exact HLL.out
        have lS : (pinS (pinS ss a) a).length = ss.length := (pinS_len _ _).trans (pinS_len _ _)
        have wf := fun w' v1 v2 h h' => weights_any (pinE (pinE err a) a) (pinS (pinS ss a) a) ((rs.set a (two A0 A1 n)).set a (two A0 A1 n)) v1 v2 w' h h' hnf
        rw [p1, p2] at wf
        have hln' := wList_len (pinE (pinE err a) a) (pinS (pinS ss a) a) ((rs.set a (two A0 A1 n)).set a (two A0 A1 n)) (ss.length + 1)
        have hge' : (wList (pinE (pinE err a) a) (pinS (pinS ss a) a) ((rs.set a (two A0 A1 n)).set a (two A0 A1 n)) (ss.length + 1))[a]? = some (two A0 A1 n, two A0 A1 n) := by
          rw [List.getElem?_eq_getElem (by rw [hln']; omega), wList_get, p3, p4]
        generalize wList (pinE (pinE err a) a) (pinS (pinS ss a) a) ((rs.set a (two A0 A1 n)).set a (two A0 A1 n)) (ss.length + 1) = TL at *
        clear p1 p2 p3 p4 hT hwa hnf
        generalize pinE (pinE err a) a = E' at *
        generalize pinS (pinS ss a) a = S' at *
        generalize (rs.set a (two A0 A1 n)).set a (two A0 A1 n) = R' at *
        generalize two A0 A1 n = X at *
        have PB : ∀ W, Rd ((W.alloc (.cells #[.int .i64 0, .slice none 0 0] 24)).drew) 4 (.slice (some ⟨gb, goff, none⟩) ss.length sc) (stpRows ss) → Rd ((W.alloc (.cells #[.int .i64 0, .slice none 0 0] 24)).drew) 1 (.slice (some ⟨qb, qoff, none⟩) (ss.length + 1) rc) (ints rs) → Calls Try.prog 43 #[.agg #[.int .i64 err, .slice (some ⟨gb, goff, none⟩) ss.length sc], .slice (some ⟨qb, qoff, none⟩) (ss.length + 1) rc, .int .i64 a, .int .i64 X, .int .i64 a, .int .i64 X] ((W.alloc (.cells #[.int .i64 0, .slice none 0 0] 24)).drew) (RetPin2 E' S' R' W) :=
          fun W h h' => (PA _ h h').mono fun e w' h9 => pin2 h9
        have HPA := Lib.hid PA
        have HPB := Lib.hid PB
        have WF := Lib.hid wf
        have HLN' := Lib.hid hln'
        have HGE' := Lib.hid hge'
        have LR' := Lib.hid lR
        have LS' := Lib.hid lS
        have HRw := Lib.hid (HR.out.below hB6)
        have HQw := Lib.hid (HQ.out.below hB6)
        have f0 := keep hV c0
        have f1 := keep hV c1
        have HV := Lib.hid hV
        clear PA PB wf hln' hge' lR lS hV c0 c1 ta0 ta1 tb0 tb1 u0 u1
        obtain ⟨wz, rfl⟩ : ∃ wz, wz = wr := ⟨_, rfl⟩
        go_upto_region 13 with fail
        go_cut [14, 15] (fun s14 s15 wx => ∃ (F : Nat) (sv rv9 : Value), s14 = .pointer (some ⟨F, 0, none⟩) ∧ s15 = rv9 ∧ wx.cell? ⟨F, 0, none⟩ = some (.int .i64 E') ∧ wx.cell? ⟨F, 1, none⟩ = some sv ∧ Rd wx 4 sv (stpRows S') ∧ Rd wx 1 rv9 (ints R') ∧ Below wz.heap.size wz wx)
        case first =>
          go_region_held3 (fun w' => w'.cell? ⟨EB, n, none⟩ = some (.int .i64 X) ∧ w'.cell? ⟨w.heap.size, 0, none⟩ = some (.int .i64 err) ∧ w'.cell? ⟨w.heap.size, 1, none⟩ = some (.slice (some ⟨gb, goff, none⟩) ss.length sc) ∧ Below wz.heap.size wz w')
            (first
              | exact ⟨keep hbb gx, keep hbb f0, keep hbb f1, hbb⟩
              | (refine ⟨keep (W := wz) ?_ gx, keep (W := wz) ?_ f0, keep (W := wz) ?_ f1, ?_⟩ <;> ((repeat' first | exact hbb | refine Below.setCell ?_ (by simp) _ | refine belAlloc ?_ _); done))
              | (go_split_ands; refine ⟨?_, ?_, ?_, ?_⟩ <;> with_reducible first | assumption | ((repeat' first | assumption | exact Below.refl _ _ | refine Below.drew ?_ | refine belAlloc ?_ _); done) | go_keep))
            (first
              | (go_at_call 43; refine (HPB.out wz (HRw.out.below (Below.drew (below_alloc1 _ _))) (HQw.out.below (Below.drew (below_alloc1 _ _)))).mono ?_; rintro e w9 ⟨g2, c2, g9, c9, rfl, rdS, rdR, n2, n9, hb9, k0, k1, kf0, kf1⟩; have hbb := belTrans (Below.drew (below_alloc1 wz _)) hb9)
              | (go_at_call 43; refine (HPA.out _ (HRw.out.below (Below.drew (Below.refl _ _))) (HQw.out.below (Below.drew (Below.refl _ _)))).mono ?_; rintro e w9 ⟨g2, c2, g9, c9, rfl, rdS, rdR, -, -, hb9⟩; have hbb := belTrans (Below.drew (Below.refl wz.heap.size wz)) hb9))
          all_goals go_wp2_with fail
          all_goals go_meet
          all_goals
            first
              | exact ⟨_, _, _, rfl, rfl, cell_new_lit w9 [_, _] 24 0, cell_new_lit w9 [_, _] 24 1, rdS.below (below_alloc1 _ _), rdR.below (below_alloc1 _ _), belAlloc hbb _⟩
              | exact ⟨_, _, _, rfl, rfl, by rw [World.cell?_setCell_other _ _ _ _ (by simp), World.cell?_setCell_same _ _ _ k0], by rw [World.cell?_setCell_same _ _ _ ((World.cell?_setCell_other _ _ _ _ (by simp)).trans k1)], rdOther (rdOther rdS n2) n2, rdOther (rdOther rdR n9) n9, Below.setCell (Below.setCell hbb (by simp) _) (by simp) _⟩
        case rest =>
          obtain ⟨F, sv, rv9, rfl, rfl, k0, k1, rdS, rdR, hb9⟩ := hcut
          obtain ⟨ra9, rc9, rfl⟩ := rdS_form rdR
          rw [ints_length, LR'.out] at rdR ⊢
          have hB9 := belTrans hB6 hb9
          replace gx := keep hb9 gx
          replace f0 := keep hb9 f0
          replace f1 := keep hb9 f1
          have HV9 := Lib.hid (belTrans HV.out hb9)
          have RDS := Lib.hid rdS
          have RDR := Lib.hid rdR
          clear rdS rdR hb9 HV HRw HQw hB6
          go_wp2_with fail
          refine (WF.out _ _ _ RDS.out RDR.out).mono ?_
          rintro e w10 ⟨tv, rfl, hRt, hb⟩
          replace gx := keep hb gx
          replace f0 := keep hb f0
          replace f1 := keep hb f1
          replace hB9 := belTrans hB9 hb
          replace HV9 := Lib.hid (belTrans HV9.out hb)
          obtain ⟨ua, uc, rfl, -, -, huc⟩ := hRt.spans
          have hta := HGE'.out
          obtain ⟨hal9, hta⟩ := List.getElem?_eq_some_iff.1 hta
          obtain ⟨ub, uoff, rfl, hub, huc⟩ := huc (by omega)
          obtain ⟨t0, t1⟩ := huc a hal9
          rw [hta] at t0 t1
          dsimp only at t0 t1
          have hll : TL.length = ss.length + 1 := HLN'.out
          rw [hll]
          have RD9 := fun w' h h' => read_any err ss rs (.slice (some ⟨gb, goff, none⟩) ss.length sc) (.slice (some ⟨qb, qoff, none⟩) (ss.length + 1) rc) a w' h h' HL.out HRD.out (by rw [HLL.out]; omega)
          have IA := Lib.hid (insideAt X (loAt err ss rs a) (hiAt err ss rs a) ⟨hlo, hhi⟩)
          generalize loAt err ss rs a = D0 at *
          generalize hiAt err ss rs a = D1 at *
          have HRD9 := Lib.hid RD9
          have HRt := Lib.hid (HR.out.below hB9)
          have HQt := Lib.hid (HQ.out.below hB9)
          clear hRt huc hta hal9 hll RD9 hb RDS RDR WF HPA HPB hlo hhi k0 k1
          go_upto_region 15 with fail
          go_region_held3 (fun w' => w'.cell? ⟨ub, uoff + a * 2, none⟩ = some (.int .i64 X) ∧ w'.cell? ⟨ub, uoff + a * 2 + 1, none⟩ = some (.int .i64 X) ∧ w'.cell? ⟨EB, n, none⟩ = some (.int .i64 X) ∧ w'.cell? ⟨w.heap.size, 0, none⟩ = some (.int .i64 err) ∧ w'.cell? ⟨w.heap.size, 1, none⟩ = some (.slice (some ⟨gb, goff, none⟩) ss.length sc) ∧ Below w10.heap.size w10 w')
            (first
              | (go_split_ands; refine ⟨?_, ?_, ?_, ?_, ?_, ?_⟩ <;> with_reducible first | (refine keep hb ?_; assumption) | exact belTrans (by assumption) hb)
              | (go_split_ands; refine ⟨?_, ?_, ?_, ?_, ?_, ?_⟩ <;> with_reducible first | assumption | ((repeat' first | assumption | exact Below.refl _ _ | refine Below.drew ?_ | refine belAlloc ?_ _); done) | go_keep))
            (first
              | (go_at_call 38; refine (span_any _ _ _).mono ?_; rintro e w11 ⟨rfl, hb⟩)
              | (go_at_call 44; go_split_ands; refine (HRD9.out _ (HRt.out.below (by with_reducible assumption)) (HQt.out.below (by with_reducible assumption))).mono ?_; rintro e w11 ⟨rfl, hb⟩)
              | (go_at_call 41; refine (IA.out _).mono ?_; rintro e w11 ⟨rfl, hb⟩))
          rename_i hH2
          have hV2 := hH2.2.2.2.2.2
          clear hH2 gx f0 f1 t0 t1 IA HRD9 HRt HQt
          go_wp2_with fail
          go_roundw
          case rel => exact ⟨n + 1, by omega, by go_num, belTrans HV9.out hV2⟩
          case measure => simp [intOf]; omega
      · obtain rfl : n = 2 := by omega
        replace c0 := keep hV c0
        replace c1 := keep hV c1
        replace u0 := keep hV u0
        replace u1 := keep hV u1
        replace ta0 := keep hV ta0
        replace ta1 := keep hV ta1
        replace tb0 := keep hV tb0
        replace tb1 := keep hV tb1
        replace hB := belTrans hB hV
        obtain ⟨w7, rfl⟩ : ∃ w7, w7 = wr := ⟨_, rfl⟩
        clear hV ends hlt ER
        go_wp2_with fail
        obtain ⟨W8, hW8⟩ : ∃ W8, w7.alloc (.cells #[.int .i64 L0, .int .i64 L1] 3) = W8 := ⟨_, rfl⟩
        have hk8 : Below w7.heap.size w7 W8 := by rw [← hW8]; exact below_alloc1 _ _
        have lss : ∀ n, n < 2 → W8.cell? ⟨w7.heap.size, n, none⟩ = some (.int .i64 (two L0 L1 n)) := fun n hn => by rw [← hW8]; exact two_cell n hn
        replace c0 := keep hk8 c0
        replace c1 := keep hk8 c1
        replace ta0 := keep hk8 ta0
        replace ta1 := keep hk8 ta1
        replace tb0 := keep hk8 tb0
        replace tb1 := keep hk8 tb1
        replace hB := belTrans hB hk8
        rw [hW8]
        clear hW8 hk8 u0 u1
        generalize w7.heap.size = LB at *
        go_wp2_with fail
        go_loopg [19] 2 (fun k i wr => ∃ n : Nat, n + k = 2 ∧ i = .int .i64 n ∧ Below W8.heap.size W8 wr)
        case atStart => exact ⟨0, rfl, rfl, Below.refl _ _⟩
        case round =>
          obtain ⟨n, hn, rfl, hV⟩ := hrel
          by_cases hlt : n < 2
          · have hlt' : (n : Int) < 2 := by omega
            have gz := keep hV (lss n hlt)
            have hz := two_or L0 L1 n
            have zb : -4000000000000 ≤ two L0 L1 n ∧ two L0 L1 n ≤ 4000000000000 := by rcases hz with e | e <;> rw [e] <;> omega
            have lr := LR.out (two L0 L1 n) hz _ rfl
            generalize two L0 L1 n = z at *
            have ws1 : IntKind.i64.wrap (B0 + z) = B0 + z := IntWalk.i64_in _ (by omega)
            have ws2 : IntKind.i64.wrap (B1 + z) = B1 + z := IntWalk.i64_in _ (by omega)
            have LRZ := Lib.hid lr
            replace ta0 := keep hV ta0
            replace ta1 := keep hV ta1
            replace tb0 := keep hV tb0
            replace tb1 := keep hV tb1
            clear lr hz
            go_upto_region 21 with fail
            go_still (by kernel_rfl)
            have hmx : (if A0 < B0 + z then B0 + z else A0) = max A0 (B0 + z) := by split <;> omega
            have hmn2 : (if B1 + z < A1 then B1 + z else A1) = min A1 (B1 + z) := by split <;> omega
            rw [hmx, hmn2, show ({ heap := wr.heap, tape := wr.tape, drawn := wr.drawn + 1, os := wr.os, output := wr.output } : World) = wr.drew from rfl]
            obtain ⟨wd, hwd⟩ : ∃ wd, wr.drew = wd := ⟨_, rfl⟩
            have hkd : Below wr.heap.size wr wd := by rw [← hwd]; exact Below.drew (Below.refl _ _)
            rw [hwd]
            have ta0' := keep hkd ta0
            have ta1' := keep hkd ta1
            have tb0' := keep hkd tb0
            have tb1' := keep hkd tb1
            have gz' := keep hkd gz
            have hV' := belTrans hV hkd
            have hBd := belTrans hB hV'
            have c0' := keep hV' c0
            have c1' := keep hV' c1
            obtain ⟨⟨wt, hT, hwa, hwb⟩, hx1, hx2⟩ := LRZ.out
            have hb0 := min_le_or A1 (B1 + z)
            generalize max A0 (B0 + z) = x at *
            generalize min A1 (B1 + z) = hg at *
            have hgb : -9000000000000 ≤ hg ∧ hg ≤ 9000000000000 := by omega
            have ws3 : IntKind.i64.wrap (x + hg) = x + hg := IntWalk.i64_in _ (by omega)
            have ws4 : IntKind.i64.wrap (x - z) = x - z := IntWalk.i64_in _ (by omega)
            obtain ⟨p1, p2, -, -⟩ := pin_at HC0.out HL.out HRD.out hT hle hbl.2 hwa hwb
            have hnf := pinS_names (pinS_names HS.out a) b
            have PA := fun w' h h' => pinned_any err ss rs (.slice (some ⟨gb, goff, none⟩) ss.length sc) (.slice (some ⟨qb, qoff, none⟩) (ss.length + 1) rc) a b x (x - z) w' h h' hl6 HLL.out hle hbl.2
            have wf := fun w' v1 v2 h h' => weights_any (pinE (pinE err a) b) (pinS (pinS ss a) b) ((rs.set a x).set b (x - z)) v1 v2 w' h h' hnf
            rw [p1] at wf
            generalize wAt (pinE (pinE err a) b) (pinS (pinS ss a) b) ((rs.set a x).set b (x - z)) = TL at *
            clear p1 p2 hT hwa hwb hnf
            generalize pinE (pinE err a) b = E' at *
            generalize pinS (pinS ss a) b = S' at *
            generalize (rs.set a x).set b (x - z) = R' at *
            have PB : ∀ W, Rd ((W.alloc (.cells #[.int .i64 0, .slice none 0 0] 24)).drew) 4 (.slice (some ⟨gb, goff, none⟩) ss.length sc) (stpRows ss) → Rd ((W.alloc (.cells #[.int .i64 0, .slice none 0 0] 24)).drew) 1 (.slice (some ⟨qb, qoff, none⟩) (ss.length + 1) rc) (ints rs) → Calls Try.prog 43 #[.agg #[.int .i64 err, .slice (some ⟨gb, goff, none⟩) ss.length sc], .slice (some ⟨qb, qoff, none⟩) (ss.length + 1) rc, .int .i64 a, .int .i64 x, .int .i64 b, .int .i64 (x - z)] ((W.alloc (.cells #[.int .i64 0, .slice none 0 0] 24)).drew) (RetPin2 E' S' R' W) :=
              fun W h h' => (PA _ h h').mono fun e w' h9 => pin2 h9
            have HPA := Lib.hid PA
            have HPB := Lib.hid PB
            have WF := Lib.hid wf
            have IA1 := Lib.hid (insideAt x A0 A1 hx1)
            have IA2 := Lib.hid (insideAt (x - z) B0 B1 hx2)
            have HV2 := Lib.hid hV'
            have HBD := Lib.hid hBd
            have T0 := Lib.hid ta0'
            have T1 := Lib.hid ta1'
            have T2 := Lib.hid tb0'
            have T3 := Lib.hid tb1'
            have T4 := Lib.hid gz'
            have T5 := Lib.hid c0'
            have T6 := Lib.hid c1'
            clear PA PB wf hwd hkd hmx hmn2 ta0 ta1 tb0 tb1 gz hV hV' hBd LRZ hx1 hx2 hb0 ta0' ta1' tb0' tb1' gz' c0' c1'
            go_wp2_with fail
            obtain ⟨G1, rfl⟩ : ∃ G1, G1 = gk := ⟨_, rfl⟩
            have HNG := Lib.hid hn
            clear hn
            go_loopg [22, 23] 3 (fun k f i wr => ((k = 3 ∧ i = .int .i64 0 ∧ f = .bool false) ∨ (k = 2 ∧ i = .int .i64 1 ∧ f = .bool true)) ∧ Below wd.heap.size wd wr)
            case atStart => exact ⟨.inl ⟨rfl, rfl, rfl⟩, Below.refl _ _⟩
            case round =>
              obtain ⟨hm, hU⟩ := hrel
              rcases hm with ⟨hg3, rfl, rfl⟩ | ⟨hg3, rfl, rfl⟩
              · have GK := Lib.hid hg3
                clear hg3
                have t0 := keep hU T0.out
                have t1 := keep hU T1.out
                have t2 := keep hU T2.out
                have t3 := keep hU T3.out
                have t4 := keep hU T4.out
                have t5 := keep hU T5.out
                have t6 := keep hU T6.out
                have HBw := Lib.hid (belTrans HBD.out hU)
                have HUU := Lib.hid hU
                clear T0 T1 T2 T3 T4 T5 T6 HBD hU LR HL HRD SND HC0 HS HV2
                go_upto_region 27 with fail
                obtain ⟨W9, hW9⟩ : ∃ W9, wr.alloc (.cells #[.int .i64 x, .int .i64 hg, .int .i64 (wrap64 ((x + hg).tdiv 2))] 3) = W9 := ⟨_, rfl⟩
                have hk9 : Below wr.heap.size wr W9 := by rw [← hW9]; exact below_alloc1 _ _
                rw [hW9]
                replace t0 := keep hk9 t0
                replace t1 := keep hk9 t1
                replace t2 := keep hk9 t2
                replace t3 := keep hk9 t3
                replace t4 := keep hk9 t4
                replace t5 := keep hk9 t5
                replace t6 := keep hk9 t6
                replace HBw := Lib.hid (belTrans HBw.out hk9)
                replace HUU := Lib.hid (belTrans HUU.out hk9)
                clear hW9 hk9
                go_region_held3 (fun w' => w'.cell? ⟨tb, toff + a * 2, none⟩ = some (.int .i64 A0) ∧ w'.cell? ⟨tb, toff + a * 2 + 1, none⟩ = some (.int .i64 A1) ∧ w'.cell? ⟨tb, toff + b * 2, none⟩ = some (.int .i64 B0) ∧ w'.cell? ⟨tb, toff + b * 2 + 1, none⟩ = some (.int .i64 B1) ∧ w'.cell? ⟨LB, n, none⟩ = some (.int .i64 z) ∧ Below W9.heap.size W9 w')
                  (first
                    | (go_split_ands; refine ⟨?_, ?_, ?_, ?_, ?_, ?_⟩ <;> with_reducible first | (refine keep hb ?_; assumption) | exact belTrans (by assumption) hb)
                    | (go_split_ands; refine ⟨?_, ?_, ?_, ?_, ?_, ?_⟩ <;> with_reducible first | assumption | ((repeat' first | assumption | exact Below.refl _ _ | refine Below.drew ?_ | refine belAlloc ?_ _); done) | go_keep))
                  (first
                    | (go_at_call_of 41 (Value.int IntKind.i64 x); refine (IA1.out _).mono ?_; rintro e w11 ⟨rfl, hb⟩)
                    | (go_at_call_of 41 (Value.int IntKind.i64 (x - z)); refine (IA2.out _).mono ?_; rintro e w11 ⟨rfl, hb⟩))
                rename_i hH2
                have hV2 := hH2.2.2.2.2.2
                have s4 := hH2.2.2.2.2.1
                replace t5 := keep hV2 t5
                replace t6 := keep hV2 t6
                replace HBw := Lib.hid (belTrans HBw.out hV2)
                replace HUU := Lib.hid (belTrans HUU.out hV2)
                clear hH2 t0 t1 t2 t3 t4 IA1 IA2 hb hV2
                obtain ⟨wz, rfl⟩ : ∃ wz, wz = w11 := ⟨_, rfl⟩
                have HRw := Lib.hid (HR.out.below HBw.out)
                have HQw := Lib.hid (HQ.out.below HBw.out)
                clear HBw HR HQ
                go_upto_region 28 with fail
                go_cut [25, 26] (fun s14 s15 wx => ∃ (F : Nat) (sv rv9 : Value), s14 = .pointer (some ⟨F, 0, none⟩) ∧ s15 = rv9 ∧ wx.cell? ⟨F, 0, none⟩ = some (.int .i64 E') ∧ wx.cell? ⟨F, 1, none⟩ = some sv ∧ Rd wx 4 sv (stpRows S') ∧ Rd wx 1 rv9 (ints R') ∧ Below wz.heap.size wz wx)
                case first =>
                  clear HUU GK HNG WF
                  go_region_held3 (fun w' => w'.cell? ⟨LB, n, none⟩ = some (.int .i64 z) ∧ w'.cell? ⟨w.heap.size, 0, none⟩ = some (.int .i64 err) ∧ w'.cell? ⟨w.heap.size, 1, none⟩ = some (.slice (some ⟨gb, goff, none⟩) ss.length sc) ∧ Below wz.heap.size wz w')
                    (first
                      | exact ⟨keep hbb s4, keep hbb t5, keep hbb t6, hbb⟩
                      | (refine ⟨keep (W := wz) ?_ s4, keep (W := wz) ?_ t5, keep (W := wz) ?_ t6, ?_⟩ <;> ((repeat' first | exact hbb | refine Below.setCell ?_ (by simp) _ | refine belAlloc ?_ _); done))
                      | (go_split_ands; refine ⟨?_, ?_, ?_, ?_⟩ <;> with_reducible first | assumption | ((repeat' first | assumption | exact Below.refl _ _ | refine Below.drew ?_ | refine belAlloc ?_ _); done) | go_keep))
                    (first
                      | (go_at_call 43; refine (HPB.out wz (HRw.out.below (Below.drew (below_alloc1 _ _))) (HQw.out.below (Below.drew (below_alloc1 _ _)))).mono ?_; rintro e w9 ⟨g2, c2, g9, c9, rfl, rdS, rdR, n2, n9, hb9, k0, k1, kf0, kf1⟩; have hbb := belTrans (Below.drew (below_alloc1 wz _)) hb9)
                      | (go_at_call 43; refine (HPA.out _ (HRw.out.below (Below.drew (Below.refl _ _))) (HQw.out.below (Below.drew (Below.refl _ _)))).mono ?_; rintro e w9 ⟨g2, c2, g9, c9, rfl, rdS, rdR, -, -, hb9⟩; have hbb := belTrans (Below.drew (Below.refl wz.heap.size wz)) hb9))
                  all_goals go_wp2_with fail
                  all_goals go_meet
                  all_goals
                    first
                      | exact ⟨_, _, _, rfl, rfl, cell_new_lit w9 [_, _] 24 0, cell_new_lit w9 [_, _] 24 1, rdS.below (below_alloc1 _ _), rdR.below (below_alloc1 _ _), belAlloc hbb _⟩
                      | exact ⟨_, _, _, rfl, rfl, by rw [World.cell?_setCell_other _ _ _ _ (by simp), World.cell?_setCell_same _ _ _ k0], by rw [World.cell?_setCell_same _ _ _ ((World.cell?_setCell_other _ _ _ _ (by simp)).trans k1)], rdOther (rdOther rdS n2) n2, rdOther (rdOther rdR n9) n9, Below.setCell (Below.setCell hbb (by simp) _) (by simp) _⟩
                case rest =>
                  obtain ⟨F, sv, rv9, rfl, rfl, k0, k1, rdS, rdR, hb9⟩ := hcut
                  replace HUU := Lib.hid (belTrans HUU.out hb9)
                  have RDS := Lib.hid rdS
                  have RDR := Lib.hid rdR
                  clear rdS rdR hb9 HRw HQw HPA HPB s4 t5 t6
                  go_wp2_with fail
                  refine (WF.out _ _ _ RDS.out RDR.out).mono ?_
                  rintro e w10 ⟨tv, rfl, hRt, hb⟩
                  replace HUU := Lib.hid (belTrans HUU.out hb)
                  obtain ⟨ua, uc, rfl, -⟩ := hRt.spans
                  clear hRt hb RDS RDR WF k0 k1
                  go_wp2_with fail
                  go_roundg 2
                  case measure => have := GK.out; omega
                  case rel => exact ⟨.inr ⟨rfl, rfl, rfl⟩, HUU.out⟩
              · have HV3 := Lib.hid (belTrans HV2.out hU)
                clear HPA HPB WF IA1 IA2 HBD T0 T1 T2 T3 T4 T5 T6 HRD HL HC0 HS HR HQ LR SND hg3 hU
                go_upto_if 272 with fail
                go_wp2_with fail
                go_roundg (G1 - 1)
                case measure => have := HNG.out; omega
                case rel => exact ⟨n + 1, by have := HNG.out; omega, by go_num, HV3.out⟩
          · replace hB := belTrans hB hV
            obtain rfl : n = 2 := by omega
            clear hlt lss
            go_wp2_with fail
            refine (awake_any _).mono ?_
            rintro e w9 ⟨rfl, hb⟩
            replace hB := belTrans hB hb
            go_wp2_with fail
            go_ret
            exact ⟨rfl, hB⟩
  · have hwn : wAt err ss rs = [] := by unfold wAt; rw [if_neg hw0]
    rw [hwn] at we
    have t1 : (wErr err ss rs != 0) = true := by rw [bne_iff_ne]; exact hw0
    generalize wErr err ss rs = E at *
    have WE := Lib.hid we
    have hB := Below.refl w.heap.size w
    clear we hwn hw0 h hs hr
    go_enter Try.func8, Try.ntmps8
    go_wp2_with fail
    refine (WE.out _ (HR.out.below (by (repeat (first | assumption | exact Below.refl _ _ | refine Below.alloc ?_ (by (try simp) <;> omega) _ | refine below_drewN ?_ _ | refine Below.drew ?_ | refine Below.setCell ?_ (by (try simp) <;> omega) _ | refine Below.trans ?_ (Below.mono (by assumption) (by (try simp) <;> omega)))))) (HQ.out.below (by (repeat (first | assumption | exact Below.refl _ _ | refine Below.alloc ?_ (by (try simp) <;> omega) _ | refine below_drewN ?_ _ | refine Below.drew ?_ | refine Below.setCell ?_ (by (try simp) <;> omega) _ | refine Below.trans ?_ (Below.mono (by assumption) (by (try simp) <;> omega))))))).mono ?_
    rintro e w1 ⟨sv, rfl, hRs, hb⟩
    obtain ⟨ta, tc, rfl, -, -, -⟩ := hRs.spans
    have hk : Below w.heap.size w w1 := by (repeat (first | assumption | exact Below.refl _ _ | refine Below.alloc ?_ (by (try simp) <;> omega) _ | refine below_drewN ?_ _ | refine Below.drew ?_ | refine Below.setCell ?_ (by (try simp) <;> omega) _ | refine Below.trans ?_ (Below.mono (by assumption) (by (try simp) <;> omega))))
    replace hB := hB.trans (hk.mono hB.size)
    have hzw1 := hB.size
    clear hk hb
    clear hRs
    go_wp2_with fail
    refine (awake_any _).mono ?_
    rintro e w2 ⟨rfl, hb⟩
    have hk : Below w1.heap.size w1 w2 := by (repeat (first | assumption | exact Below.refl _ _ | refine Below.alloc ?_ (by (try simp) <;> omega) _ | refine below_drewN ?_ _ | refine Below.drew ?_ | refine Below.setCell ?_ (by (try simp) <;> omega) _ | refine Below.trans ?_ (Below.mono (by assumption) (by (try simp) <;> omega))))
    replace hB := hB.trans (hk.mono hB.size)
    have hzw2 := hB.size
    clear hk hb
    go_wp2_with fail
    go_ret
    exact ⟨rfl, hB⟩

end Go.Proofs.Ytnombgiacfeloaa
