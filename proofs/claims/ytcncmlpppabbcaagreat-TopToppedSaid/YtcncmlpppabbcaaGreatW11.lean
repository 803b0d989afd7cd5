/- Proved here: contracts of functions of the program, each for every input that its statement names. The walks of 'open' and 'without'. -/
import Derived.Test.YtcncmlpppabbcaaGreatW10
import Derived.Test.YtcncmlpppabbcaaGreatM1
import Derived.Laws.CopyOwn
namespace Go.Proofs.YtcncmlpppabbcaaGreat
set_option linter.unusedVariables false
set_option linter.unusedSimpArgs false
open Go.RowKit

def openVal (err : Int) (ss : List Stp) (rs : List Int) (v rv : Value) : Value :=
  if (chk err ss).2.2 ≠ 0 ∨ rs.length ≠ ss.length + 1 then .agg #[.int .i64 0, .slice none 0 0, .slice none 0 0] else .agg #[.int .i64 err, v, rv]

set_option maxHeartbeats 1000000 in
theorem open_any (err : Int) (ss : List Stp) (rs : List Int) (v rv : Value) (w : World) (h : Rd w 4 v (stpRows ss)) (hr : Rd w 1 rv (ints rs)) (hs : NamesFit ss) :
    Calls Tryz.prog 49 #[.agg #[.int .i64 err, v], rv] w fun e w' => e = .returned (.tuple #[openVal err ss rs v rv, .int .i64 (askErr err ss rs)]) ∧ Below w.heap.size w w' := by
  have hB := Below.refl w.heap.size w
  have HR := Lib.hid h
  have HQ := Lib.hid hr
  have HS := Lib.hid hs
  obtain ⟨a, c, rfl, -, hm, -⟩ := h
  obtain ⟨a', c', rfl, -, hm', -⟩ := hr
  have hsl := stpRows_length ss
  have hsl' := ints_length rs
  rw [hsl] at HR hm ⊢
  rw [hsl'] at HQ hm' ⊢
  clear hs hsl hsl'
  go_enter Tryz.func49, Tryz.ntmps49
  go_wp2_with fail
  refine (check_any err ss _ _ (HR.out.below (below_alloc2 _ _ _)) HS.out).mono ?_
  rintro e w1 ⟨rfl, hb⟩
  have g0 : w1.cell? ⟨w.heap.size, 0, none⟩ = some (.int .i64 err) := keep hb (by simp [go_sem])
  have g1 : w1.cell? ⟨w.heap.size, 1, none⟩ = some (.slice a ss.length c) := keep hb (by simp [go_sem])
  have r0 : w1.cell? ⟨w.heap.size + 1, 0, none⟩ = some (.int .i64 0) := keep hb (by simp [go_sem])
  have r1 : w1.cell? ⟨w.heap.size + 1, 1, none⟩ = some (.slice none 0 0) := keep hb (by simp [go_sem])
  have r2 : w1.cell? ⟨w.heap.size + 1, 2, none⟩ = some (.slice none 0 0) := keep hb (by simp [go_sem])
  have f0 : w1.frozen? ⟨w.heap.size + 1, 0, none⟩ = false := keepF hb (by simp) (by simp [go_sem])
  have f1 : w1.frozen? ⟨w.heap.size + 1, 1, none⟩ = false := keepF hb (by simp) (by simp [go_sem])
  have f2 : w1.frozen? ⟨w.heap.size + 1, 2, none⟩ = false := keepF hb (by simp) (by simp [go_sem])
  have hk : Below w.heap.size w w1 := by (repeat (first | assumption | exact Below.refl _ _ | refine Below.alloc ?_ (by (try simp) <;> omega) _ | refine below_drewN ?_ _ | refine Below.drew ?_ | refine Below.setCell ?_ (by (try simp) <;> omega) _ | refine Below.trans ?_ (Below.mono (by assumption) (by (try simp) <;> omega))))
  replace hB := hB.trans (hk.mono hB.size)
  have hzw1 := hB.size
  clear hk hb
  have lg := lt_of_cell g0
  have lr := lt_of_cell r0
  generalize hc : chk err ss = C
  obtain ⟨c1, c2, c3⟩ := C
  have HC := Lib.hid hc
  clear hc
  dsimp only
  by_cases hq1 : c3 = 0
  · have t1 : (c3 != 0) = false := by simp [hq1]
    have H1 := Lib.hid hq1
    have hl6 := (chk_ok (err := err) (ss := ss) (by rw [HC.out]; exact hq1)).len
    clear hq1
    by_cases hq2 : rs.length = ss.length + 1
    · have t2 : ((rs.length : Int) != (ss.length : Int) + 1) = false := by rw [bne_eq_false_iff_eq]; omega
      have H2 := Lib.hid hq2
      clear hq2
      go_wp2_with fail
      refine (findInts_any _ rs _ (HQ.out.below hB)).mono ?_
      rintro e w2 ⟨rfl, hb⟩
      replace f0 := keepF hb lr f0
      replace f1 := keepF hb lr f1
      replace f2 := keepF hb lr f2
      have hk : Below w1.heap.size w1 w2 := by (repeat (first | assumption | exact Below.refl _ _ | refine Below.alloc ?_ (by (try simp) <;> omega) _ | refine below_drewN ?_ _ | refine Below.drew ?_ | refine Below.setCell ?_ (by (try simp) <;> omega) _ | refine Below.trans ?_ (Below.mono (by assumption) (by (try simp) <;> omega))))
      replace hB := hB.trans (hk.mono hB.size)
      have hzw2 := hB.size
      replace g0 := keep hk g0
      replace g1 := keep hk g1
      replace r0 := keep hk r0
      replace r1 := keep hk r1
      replace r2 := keep hk r2
      have lg0 := lt_of_cell g0
      have lr0 := lt_of_cell r0
      clear hk hb
      go_wp2_with fail
      exact bodyPost_ret (v := .tuple #[.agg #[.int .i64 err, .slice a ss.length c, .slice a' rs.length c'], .int .i64 (firstErr rdErr1 rs 0).2]) (by simp [results, Tryz.results49, go_sem, *]) rfl ⟨by simp [openVal, askErr, rdErr, HC.out, H1.out, H2.out], by (repeat (first | assumption | exact Below.refl _ _ | refine Below.alloc ?_ (by (try simp) <;> omega) _ | refine below_drewN ?_ _ | refine Below.drew ?_ | refine Below.setCell ?_ (by (try simp) <;> omega) _ | refine Below.trans ?_ (Below.mono (by assumption) (by (try simp) <;> omega))))⟩
    · have t2 : ((rs.length : Int) != (ss.length : Int) + 1) = true := by rw [bne_iff_ne]; omega
      have H2 := Lib.hid hq2
      clear hq2
      go_wp2_with fail
      exact bodyPost_ret (v := .tuple #[.agg #[.int .i64 0, .slice none 0 0, .slice none 0 0], .int .i64 3]) (by simp [results, Tryz.results49, go_sem, *]) rfl ⟨by have h2 := H2.out; simp [openVal, askErr, rdErr, HC.out, H1.out, h2], by (repeat (first | assumption | exact Below.refl _ _ | refine Below.alloc ?_ (by (try simp) <;> omega) _ | refine below_drewN ?_ _ | refine Below.drew ?_ | refine Below.setCell ?_ (by (try simp) <;> omega) _ | refine Below.trans ?_ (Below.mono (by assumption) (by (try simp) <;> omega))))⟩
  · have t1 : (c3 != 0) = true := by simp [hq1]
    have H1 := Lib.hid hq1
    clear hq1
    go_wp2_with fail
    exact bodyPost_ret (v := .tuple #[.agg #[.int .i64 0, .slice none 0 0, .slice none 0 0], .int .i64 c3]) (by simp [results, Tryz.results49, go_sem, *]) rfl ⟨by have h1 := H1.out; simp [openVal, askErr, HC.out, h1], by (repeat (first | assumption | exact Below.refl _ _ | refine Below.alloc ?_ (by (try simp) <;> omega) _ | refine below_drewN ?_ _ | refine Below.drew ?_ | refine Below.setCell ?_ (by (try simp) <;> omega) _ | refine Below.trans ?_ (Below.mono (by assumption) (by (try simp) <;> omega))))⟩


/-- A line, its readings in new memory. -/
def RetLine (err : Int) (v : Value) (rs : List Int) (w : World) (e : Ending) (w' : World) : Prop := ∃ rv, e = .returned (.agg #[.int .i64 err, v, rv]) ∧ Rd w' 1 rv (ints rs) ∧ Below w.heap.size w w'

theorem info3 : (Tryz.prog.info? 3).map (fun i => (i.zero, i.size, i.bytes)) = some (some (.int .i64 0), 1, 8) := by kernel_rfl
theorem size3 : (Tryz.prog.info? 3).map (·.size) = some 1 := by kernel_rfl

set_option maxHeartbeats 1000000 in
theorem without_any (err : Int) (rs : List Int) (a : Option Addr) (n c : Nat) (rv : Value) (k : Nat) (w : World) (hr : Rd w 1 rv (ints rs)) (hk : k < rs.length) (hlen : rs.length ≤ 100) :
    Calls Tryz.prog 70 #[.agg #[.int .i64 err, .slice a n c, rv], .int .i64 k] w (RetLine err (.slice a n c) (rs.set k (-1)) w) := by
  have hB := Below.refl w.heap.size w
  obtain ⟨a', c', rfl, hcc, hm', hcell⟩ := hr.ints
  obtain ⟨b, off, rfl, hbl, hcell⟩ := hcell (by omega)
  have HQ := Lib.hid hcell
  clear hcell hr
  obtain ⟨i0, hi, hz0, hz1, hz2⟩ := info_parts info3
  go_enter Tryz.func70, Tryz.ntmps70
  go_wp2_with (at_make; refine wpList_make_full _ rfl _ _ 26 rfl (w.heap.size + 2) 3 i0 (.int .i64 0) 1 Tryz.underlying26 hi hz0 hz1 .i64 .i64 rs.length rs.length rs.length rfl rfl rfl rfl (by rw [hz2]; omega) (by unfold maxLen; omega) (by simp) ?_)
  intro w1 hown hg
  obtain ⟨cur, hblk, hcl⟩ := owns_block hown
  have g0 : w1.cell? ⟨w.heap.size, 0, none⟩ = some (.int .i64 err) := grown_keep hg (by simp [go_sem]) (by simp)
  have g1 : w1.cell? ⟨w.heap.size, 1, none⟩ = some (.slice a n c) := grown_keep hg (by simp [go_sem]) (by simp)
  have g2 : w1.cell? ⟨w.heap.size, 2, none⟩ = some (.slice (some ⟨b, off, none⟩) rs.length c') := grown_keep hg (by simp [go_sem]) (by simp)
  have f2 : w1.frozen? ⟨w.heap.size, 2, none⟩ = false := grown_keepF hg (by simp; omega) (by simp [go_sem]) (by simp)
  have r0 : w1.cell? ⟨w.heap.size + 1, 0, none⟩ = some (.int .i64 0) := grown_keep hg (by simp [go_sem]) (by simp)
  have r1 : w1.cell? ⟨w.heap.size + 1, 1, none⟩ = some (.slice none 0 0) := grown_keep hg (by simp [go_sem]) (by simp)
  have r2 : w1.cell? ⟨w.heap.size + 1, 2, none⟩ = some (.slice none 0 0) := grown_keep hg (by simp [go_sem]) (by simp)
  have fr0 : w1.frozen? ⟨w.heap.size + 1, 0, none⟩ = false := grown_keepF hg (by simp) (by simp [go_sem]) (by simp)
  have fr1 : w1.frozen? ⟨w.heap.size + 1, 1, none⟩ = false := grown_keepF hg (by simp) (by simp [go_sem]) (by simp)
  have fr2 : w1.frozen? ⟨w.heap.size + 1, 2, none⟩ = false := grown_keepF hg (by simp) (by simp [go_sem]) (by simp)
  have hB1 : Below w.heap.size w w1 := (below_alloc2 _ _ _).trans (grown_below hg (by simp; omega) (by simp))
  have hsrc : ∀ j z, rs[j]? = some z → w1.cell? ⟨b, off + j, none⟩ = some (.int .i64 z) := by
    intro j z hz
    obtain ⟨hjl, rfl⟩ := List.getElem?_eq_some_iff.1 hz
    rw [hB1.cell (p := ⟨b, _, none⟩) hbl]
    exact HQ.out j hjl
  have HSRC := Lib.hid hsrc
  have HBLK := Lib.hid hblk
  have HCL := Lib.hid hcl
  clear hsrc hblk hcl
  have hcs : (rs.map (Value.int .i64)).length = Nat.min rs.length rs.length := by simp
  have HCS := Lib.hid hcs
  clear hcs
  go_wp2_with (with_reducible refine wpList_copy_splice (o := ⟨some 13, _, _, _, _, _⟩) rfl (.tmp 10) (.tmp 12) 26 26 rfl 3 Tryz.underlying26 size3 (some ⟨w.heap.size + 1 + 1, 0, none⟩) (some ⟨b, off, none⟩) rs.length rs.length rs.length c' ?d1 ?d2 (w.heap.size + 1 + 1) 0 cur 3 HBLK.out (rs.map (Value.int .i64)) HCS.out ?d3 ?c2 (ints_oneCell .i64 rs) (w.heap.size + 2) w1 (Below.refl _ _) ?c3 ?_)
  case d1 => rfl
  case d2 => rfl
  case d3 => first | exact fun _ => HSRC.out | exact HSRC.out
  case c2 => simp [HCL.out]
  case c3 => omega
  intro w2 hblk2 hB2
  have hb2 : w2.heap[w.heap.size + 1 + 1]? = some (.cells (rs.map (Value.int .i64)).toArray 3 (0, 0)) := by
    have e : splice cur 0 (rs.map (Value.int .i64)) = rs.map (Value.int .i64) := by
      have := HCL.out
      simp [splice]
      omega
    rw [← e]; exact hblk2.out
  have HB2 := Lib.hid hb2
  clear hblk2
  replace g0 := (hB2.cell (p := ⟨w.heap.size, 0, none⟩) (by simp)).trans g0
  replace g1 := (hB2.cell (p := ⟨w.heap.size, 1, none⟩) (by simp)).trans g1
  replace f2 := (hB2.frozen (p := ⟨w.heap.size, 2, none⟩) (by simp)).trans f2
  replace g2 := (hB2.cell (p := ⟨w.heap.size, 2, none⟩) (by simp)).trans g2
  replace r0 := (hB2.cell (p := ⟨w.heap.size + 1, 0, none⟩) (by simp)).trans r0
  replace r1 := (hB2.cell (p := ⟨w.heap.size + 1, 1, none⟩) (by simp)).trans r1
  replace r2 := (hB2.cell (p := ⟨w.heap.size + 1, 2, none⟩) (by simp)).trans r2
  replace fr0 := (hB2.frozen (p := ⟨w.heap.size + 1, 0, none⟩) (by simp)).trans fr0
  replace fr1 := (hB2.frozen (p := ⟨w.heap.size + 1, 1, none⟩) (by simp)).trans fr1
  replace fr2 := (hB2.frozen (p := ⟨w.heap.size + 1, 2, none⟩) (by simp)).trans fr2
  have c0 : w2.cell? ⟨w.heap.size + 1 + 1, k, none⟩ = some (.int .i64 rs[k]) := by
    rw [cell_of_row w2 _ _ _ 3 (0, 0) hb2]; simp [hk]
  have fk : w2.frozen? ⟨w.heap.size + 1 + 1, k, none⟩ = false := frozen_of_row hb2
  have hbb := heap_setCell_row (k := k) (v := .int .i64 (-1)) hb2
  have HBB := Lib.hid hbb
  have hB3 : Below w.heap.size w w2 := hB1.trans (hB2.mono (by omega))
  have l2 := lt_of_cell c0
  have hki : (k : Int) < (rs.length : Int) := by omega
  clear hb2 hbb hown hg hB1 hB2 hB
  go_wp2_with fail
  refine bodyPost_ret (v := .agg #[.int .i64 err, .slice a n c, .slice (some ⟨w.heap.size + 1 + 1, 0, none⟩) rs.length rs.length]) (by simp [results, Tryz.results70, go_sem, *]) rfl ⟨_, rfl, ?_, ?_⟩
  · have hl : rs.length = (rs.set k (-1)).length := by simp
    rw [hl]
    refine Rd.of_block (t := 3) ?_ (by simp; omega)
    rw [heap_setCell_ne (by omega), heap_setCell_ne (by omega), heap_setCell_ne (by omega), heap_setCell_ne (by omega), HBB.out, List.map_set]
  · refine Below.setCell (Below.setCell (Below.setCell (Below.setCell (Below.setCell hB3 (by simp; omega) _) (by simp) _) (by simp) _) (by simp) _) (by simp) _

end Go.Proofs.YtcncmlpppabbcaaGreat
