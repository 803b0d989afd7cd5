/- The walk of the law TopTopped. -/
import Derived.Test.YtcncmlpppabbcaaGreatD40
import Derived.Test.YtcncmlpppabbcaaGreatD41
import Derived.Test.YtcncmlpppabbcaaGreatD27
import Derived.Test.YtcncmlpppabbcaaGreatD32
import Derived.Test.YtcncmlpppabbcaaGreatW17
import Derived.Deep.RegionHeld3
namespace Go.Proofs.YtcncmlpppabbcaaGreat
set_option linter.unusedVariables false
set_option linter.unusedSimpArgs false
open Go.RowKit
attribute [local go_sem] Oper.semAt_some

def TopTrue (w : World) (e : Ending) (w' : World) : Prop := e = .returned (.bool true) ∧ Below w.heap.size w w'

set_option maxRecDepth 100000 in
set_option maxHeartbeats 4000000 in
theorem top_err (m : Mo) (pl : Value) (plan : List Int) (rest : Int) (pv wv : Value) (w : World) (hp : Rd w 1 pl (ints plan))
    (ho : ∀ (W : World), Rd W 1 pl (ints plan) → Calls Tryz.prog 4 #[.agg m.cells, pl] W fun e w' => (∃ c : Int, c ≠ 0 ∧ e = .returned (.tuple #[zero4, .int .i64 c])) ∧ Below W.heap.size W w') :
    Calls Tryz.prog 3 #[.agg m.cells, .agg #[pl, .int .u16 rest, pv, wv]] w (TopTrue w) := by
  have HP := Lib.hid hp
  obtain ⟨pa, pc, rfl, -, -, -⟩ := hp.ints
  have HB := Lib.hid (below_alloc2 w (.cells m.cells 25) (.cells #[.slice pa plan.length pc, .int .u16 rest, pv, wv] 32))
  have HA := Lib.hid ((MoAt.new w m 25).below (below_alloc1 (w.alloc (.cells m.cells 25)) (.cells #[.slice pa plan.length pc, .int .u16 rest, pv, wv] 32)))
  unfold Mo.cells at ho HB HA
  have HO := Lib.hid (ho _ (HP.out.below HB.out))
  clear hp ho
  unfold Mo.cells
  go_enter Tryz.func3, Tryz.ntmps3
  go_upto_region 2 with (go_at_call 4; refine HO.out.mono ?_; rintro e w1 ⟨⟨c, hc, rfl⟩, hb⟩; unfold zero4)
  have t1 : (c != 0) = true := by simpa using hc
  have hb1 := belT (belT HB.out hb) (below_alloc1 w1 (.cells #[.int .i64 0, .int .i64 0, .int .i64 0, .int .i64 0] 34))
  have HB1 := Lib.hid hb1
  clear hb hb1 HA HB HO HP hc
  go_wp2_with (first
    | ((with_reducible go_at_call 6); refine (awake5_any _).mono ?_; rintro e w5 ⟨rfl, hb5⟩)
    | ((with_reducible go_at_call 7); refine (awake_any _).mono ?_; rintro e w7 ⟨rfl, hb7⟩))
  go_ret
  exact ⟨rfl, belT (belT HB1.out hb5) hb7⟩

theorem alloc2 (w : World) (A Y : Obj) : ∃ W, W = (w.alloc A).alloc Y ∧ W.heap[w.heap.size]? = some A ∧ W.heap[w.heap.size + 1]? = some Y ∧ W.heap.size = w.heap.size + 1 + 1 ∧ Below w.heap.size w W := by
  have e1 : (w.alloc A).heap.size = w.heap.size + 1 := by simp
  have hA := heap_alloc_new w A
  have hY := heap_alloc_new (w.alloc A) Y
  rw [e1] at hY
  exact ⟨_, rfl, (heap_alloc_old _ _ (by rw [e1]; omega)).trans hA, hY, by simp, below_alloc2 _ _ _⟩
theorem Rd.madeTop (w : World) (lo hi : Int) : Rd (w.alloc (.cells #[.string topName, .int .i64 lo, .int .i64 hi, .int .i64 0] 41)) 4 (.slice (some ⟨w.heap.size, 0, none⟩) 1 1) (stpRows (topSs lo hi)) :=
  rd_new w w 0 w.heap.size 4 (stpRows (topSs lo hi)) 41 rfl (by simp [stpRows, topSs, Stp.row]) (by simp [stpRows, topSs]) (by simp [stpRows, topSs])
theorem hollow_in {m : Mo} (h : chkM m = 0) {plan : List Int} (hh : hollowP m plan) (v : Value) (W : World) (hp : Rd W 1 v (ints plan)) : Calls Tryz.prog 4 #[.agg m.cells, v] W fun e w' => e = .returned (.tuple #[hollowV m plan, .int .i64 0]) ∧ Below W.heap.size W w' :=
  (hollow_ok m h plan v W hp).mono fun e w' q => ⟨q.1.elim (fun x => x.2) (fun x => absurd hh x.1), q.2⟩
theorem truth_in600 {m : Mo} (hm : MoOk m) {xs ys : List Int} (hx : ∀ x ∈ xs, 0 ≤ x ∧ x ≤ 65535) (hy : ∀ x ∈ ys, 0 ≤ x ∧ x ≤ 65535) (pv wv : Value) (W : World) (hpv : Rd W 1 pv (us xs)) (hwv : Rd W 1 wv (us ys)) :
    Calls Tryz.prog 14 #[.agg m.cells, .int .i64 600, .agg #[pv, wv]] W fun e w' => ∃ v1 v2, e = .returned (.agg #[v1, v2]) ∧ Rd w' 1 v1 (ints (truL m.plo m.phi xs m.rings.toNat)) ∧ Rd w' 1 v2 (ints (truL m.wlo m.whi ys 600)) ∧ Below W.heap.size W w' :=
  truth_any m hm 600 (Nat.le_refl _) xs ys hx hy pv wv W hpv hwv
theorem truL_length (lo hi : Int) (xs : List Int) (n : Nat) : (truL lo hi xs n).length = n := by simp [truL]
theorem when_in {m : Mo} (hm : MoOk m) (xs ys : List Int) (v1 v2 : Value) (W : World) (h1 : Rd W 1 v1 (ints (truL m.plo m.phi xs m.rings.toNat))) (h2 : Rd W 1 v2 (ints (truL m.wlo m.whi ys 600))) :
    Calls Tryz.prog 13 #[.agg m.cells, .agg #[v1, v2]] W fun e w' => ∃ v', e = .returned v' ∧ Rd w' 1 v' (ints (truW m xs ys)) ∧ Below W.heap.size W w' := by
  have hr := hm.rings
  have q := refWhen_any m hm (truL m.plo m.phi xs m.rings.toNat) (truL m.wlo m.whi ys 600) (by rw [truL_length]; omega) (by rw [truL_length]; exact Nat.le_refl _)
    (fun i hi => by rw [truL_length] at hi; rw [truL_getD hi]; have := truF_bd hm.pour.2.1 xs i; have := hm.pour; omega)
    (fun i hi => by rw [truL_length] at hi; rw [truL_getD hi]; have := truF_bd hm.wall.2.1 ys i; have := hm.wall; omega) v1 v2 W h1 h2
  rw [truL_length, truL_length] at q
  exact q
theorem end_in {m : Mo} (hm : MoOk m) {plan xs ys : List Int} (t : TopIn m plan (truW m xs ys)) (v pl : Value) (W : World) (h1 : Rd W 1 v (ints (truW m xs ys))) (h2 : Rd W 1 pl (ints plan)) :
    Calls Tryz.prog 12 #[.agg m.cells, v, pl] W fun e w' => (∃ hol, e = .returned (.tuple #[.int .i64 hol, .int .i64 (pour m (truW m xs ys) plan m.rings.toNat plan.length)])) ∧ Below W.heap.size W w' :=
  refEnd_any m hm m.rings.toNat (by have := hm.rings; omega) (truW m xs ys) plan (truW_length m xs ys) t.pos t.rise t.le t.len v pl W h1 h2
theorem line_chk {lo hi full : Int} (t : TopLine lo hi full) (v : Value) (W : World) (h : Rd W 4 v (stpRows (topSs lo hi))) :
    Calls Tryz.prog 8 #[.agg #[.int .i64 0, v]] W fun e w' => e = .returned (.tuple #[.int .i64 0, .int .i64 0, .int .i64 0]) ∧ Below W.heap.size W w' := by
  have q := refCheck_any 0 (topSs lo hi) v W h (top_fit lo hi)
  rw [t.chk] at q
  exact q
theorem line_read {lo hi full : Int} (t : TopLine lo hi full) (v rv : Value) (W : World) (h : Rd W 4 v (stpRows (topSs lo hi))) (hr : Rd W 1 rv (ints [full, -1])) :
    Calls Tryz.prog 9 #[.agg #[.int .i64 0, v], rv] W fun e w' => e = .returned (.int .i64 0) ∧ Below W.heap.size W w' := by
  have q := readings_err 0 (topSs lo hi) [full, -1] v rv W h hr (by show 1 ≤ 100; decide)
  rw [t.rd] at q
  exact q
theorem line_lost {lo hi full : Int} (t : TopLine lo hi full) (v rv : Value) (W : World) (h : Rd W 4 v (stpRows (topSs lo hi))) (hr : Rd W 1 rv (ints [full, -1])) :
    Calls Tryz.prog 10 #[.agg #[.int .i64 0, v], rv, .int .i64 0, .int .i64 1] W fun e w' => e = .returned (.tuple #[.agg #[.int .i64 lo, .int .i64 hi], .int .i64 0]) ∧ Below W.heap.size W w' := by
  have q := lost_any 0 (topSs lo hi) [full, -1] v rv 0 1 W h hr (top_fit lo hi)
  rw [t.lost, t.lostE] at q
  exact q
theorem line_weights {lo hi full : Int} (t : TopLine lo hi full) (a b : Int) (ha : wAt 0 (topSs lo hi) [full, -1] = [(full, full), (a, b)]) (v rv : Value) (W : World) (h : Rd W 4 v (stpRows (topSs lo hi))) (hr : Rd W 1 rv (ints [full, -1])) :
    Calls Tryz.prog 11 #[.agg #[.int .i64 0, v], rv] W fun e w' => ∃ v', e = .returned (.tuple #[v', .int .i64 0]) ∧ Rd w' 2 v' (spanRows [(full, full), (a, b)]) ∧ Below W.heap.size W w' := by
  have q := weights_any 0 (topSs lo hi) [full, -1] v rv W h hr (top_fit lo hi)
  rw [ha, t.wE] at q
  exact q

set_option maxRecDepth 100000 in
set_option maxHeartbeats 4000000 in
theorem top_ok (m : Mo) (h : chkM m = 0) (pl : Value) (plan : List Int) (hh : hollowP m plan) (rest : Int) (hrest : 0 ≤ rest ∧ rest ≤ 65535) (xs ys : List Int) (hx : ∀ x ∈ xs, 0 ≤ x ∧ x ≤ 65535) (hy : ∀ x ∈ ys, 0 ≤ x ∧ x ≤ 65535) (pv wv : Value) (w : World)
    (hp : Rd w 1 pl (ints plan)) (hpv : Rd w 1 pv (us xs)) (hwv : Rd w 1 wv (us ys)) :
    Calls Tryz.prog 3 #[.agg m.cells, .agg #[pl, .int .u16 rest, pv, wv]] w (TopTrue w) := by
  have hm := chkM_ok h
  have TI := Lib.hid (top_in hm hh xs ys)
  have ti := TI.out
  have hv : hollowV m plan = .agg #[.int .i64 (endV m (whenL m m.plo m.wlo) plan).1, .int .i64 (endV m (whenL m m.phi m.whi) plan).1, .int .i64 (endV m (whenL m m.phi m.whi) plan).2, .int .i64 (endV m (whenL m m.plo m.wlo) plan).2] := rfl
  obtain ⟨-, -, -, -, l0, l1, l2, l3⟩ := ti
  obtain ⟨PZ, hPZ⟩ : ∃ PZ, pour m (truW m xs ys) plan m.rings.toNat plan.length = PZ := ⟨_, rfl⟩
  rw [hPZ] at l1 l2
  generalize (endV m (whenL m m.plo m.wlo) plan).1 = H1 at *
  generalize (endV m (whenL m m.phi m.whi) plan).1 = H2 at *
  generalize (endV m (whenL m m.phi m.whi) plan).2 = PL at *
  generalize (endV m (whenL m m.plo m.wlo) plan).2 = PH at *
  obtain ⟨full, hfull⟩ : ∃ full, full = PH + rest := ⟨_, rfl⟩
  have tl : TopLine PL PH full := top_line l0 (by omega) (by omega) (by omega)
  obtain ⟨a, b, hab, hin⟩ := tl.w
  obtain ⟨i1, i2⟩ := hin PZ l1 l2
  have TL := Lib.hid tl
  have HAB := Lib.hid hab
  have HP := Lib.hid (And.intro hp (And.intro hpv hwv))
  have HFU := Lib.hid hfull
  have HV := Lib.hid hv
  have HPZ := Lib.hid hPZ
  obtain ⟨pa, pc, rfl, -, -, -⟩ := hp.ints
  obtain ⟨xa, xc, rfl, -, -, -⟩ := hpv.us
  obtain ⟨ya, yc, rfl, -, -, -⟩ := hwv.us
  have ho := fun W hW => hollow_in h hh (.slice pa plan.length pc) W hW
  rw [hv] at ho
  have rc := fun W => refCheckM_ok m hm W
  have tr := fun W (h1 : Rd W 1 (.slice xa xs.length xc) (us xs)) (h2 : Rd W 1 (.slice ya ys.length yc) (us ys)) => truth_in600 hm hx hy _ _ W h1 h2
  have wh := fun v1 v2 W h1 h2 => when_in hm xs ys v1 v2 W h1 h2
  have en := fun v W h1 (h2 : Rd W 1 (.slice pa plan.length pc) (ints plan)) => end_in hm TI.out v _ W h1 h2
  rw [hPZ] at en
  have HB := Lib.hid (below_alloc2 w (.cells m.cells 25) (.cells #[.slice pa plan.length pc, .int .u16 rest, .slice xa xs.length xc, .slice ya ys.length yc] 32))
  have HA := Lib.hid ((MoAt.new w m 25).below (below_alloc1 (w.alloc (.cells m.cells 25)) (.cells #[.slice pa plan.length pc, .int .u16 rest, .slice xa xs.length xc, .slice ya ys.length yc] 32)))
  have HX := Lib.hid (heap_alloc_new (w.alloc (.cells m.cells 25)) (.cells #[.slice pa plan.length pc, .int .u16 rest, .slice xa xs.length xc, .slice ya ys.length yc] 32))
  have HRR := Lib.hid hrest
  unfold Mo.cells at ho rc tr wh en HB HA HX
  rw [show (w.alloc (.cells #[.int .i64 m.rings, .int .i64 m.give, .int .i64 m.plo, .int .i64 m.phi, .int .i64 m.wlo, .int .i64 m.whi, .int .i64 m.set, .int .i64 m.shrink, .int .i64 m.skin, .int .i64 m.fill, .int .i64 m.gap, .int .i64 m.deep] 25)).heap.size = w.heap.size + 1 by simp] at HX
  have OH := Lib.hid ho
  have RC := Lib.hid rc
  have TR := Lib.hid tr
  have WH := Lib.hid wh
  have EN := Lib.hid en
  have L0 := Lib.hid (And.intro l0 (And.intro l1 (And.intro l2 l3)))
  clear ho rc tr wh en h hm hh hx hy hp hpv hwv hv hPZ hfull tl hab hin hrest
  unfold Mo.cells
  go_enter Tryz.func3, Tryz.ntmps3
  go_upto_region 2 with (go_at_call 4; refine (OH.out _ (HP.out.1.below HB.out)).mono ?_; rintro e w1 ⟨rfl, hb⟩)
  have hX1 := (hb.block _ (by simp)).trans HX.out
  have hA1 := HA.out.below hb
  have hB1 := belT HB.out hb
  have hal := below_alloc1 w1 (.cells #[.int .i64 H1, .int .i64 H2, .int .i64 PL, .int .i64 PH] 34)
  have hE := heap_alloc_new w1 (.cells #[.int .i64 H1, .int .i64 H2, .int .i64 PL, .int .i64 PH] 34)
  have HX2 := Lib.hid ((hal.block _ (Array.getElem?_eq_some_iff.1 hX1).1).trans hX1)
  have HA2 := Lib.hid (hA1.below hal)
  have HB2 := Lib.hid (belT hB1 hal)
  have HE2 := Lib.hid hE
  have l1' : w.heap.size + 1 < w1.heap.size := (Array.getElem?_eq_some_iff.1 hX1).1
  generalize (w1.alloc (.cells #[.int .i64 H1, .int .i64 H2, .int .i64 PL, .int .i64 PH] 34)) = W2 at *
  generalize w1.heap.size = E at *
  clear hX1 hA1 hB1 hal hE hb HX HA HB OH
  obtain ⟨c0, c1, c2, c3, c4, c5, c6, c7, c8, c9, c10, c11⟩ := HA2.out
  go_upto_region 4 with ((with_reducible go_at_call 5); refine (RC.out _).mono ?_; rintro e w3 ⟨rfl, hb⟩)
  have HX3 := Lib.hid ((hb.block _ (Array.getElem?_eq_some_iff.1 HX2.out).1).trans HX2.out)
  have HE3 := Lib.hid ((hb.block _ (Array.getElem?_eq_some_iff.1 HE2.out).1).trans HE2.out)
  have HA3 := Lib.hid (HA2.out.below hb)
  have HB3 := Lib.hid (belT HB2.out hb)
  have e2 : w3.cell? ⟨E, 2, none⟩ = some (.int .i64 PL) := cell_of_row w3 _ 2 _ 34 (0, 0) HE3.out
  have e3 : w3.cell? ⟨E, 3, none⟩ = some (.int .i64 PH) := cell_of_row w3 _ 3 _ 34 (0, 0) HE3.out
  clear c0 c1 c2 c3 c4 c5 c6 c7 c8 c9 c10 c11 hb HX2 HE2 HA2 HB2
  go_upto_region 5 with fail
  have hRS := Rd.madeTop w3 PL PH
  obtain ⟨W5, hW5, rS, rL, hS5, hB5⟩ := alloc2 w3 (.cells #[.string topName, .int .i64 PL, .int .i64 PH, .int .i64 0] 41) (.cells #[.int .i64 0, .slice (some ⟨w3.heap.size, 0, none⟩) 1 1] 44)
  change Code.wp _ _ _ _ ((w3.alloc (.cells #[.string topName, .int .i64 PL, .int .i64 PH, .int .i64 0] 41)).alloc (.cells #[.int .i64 0, .slice (some ⟨w3.heap.size, 0, none⟩) 1 1] 44))
  have hRS5 := hRS.below (below_alloc1 _ (.cells #[.int .i64 0, .slice (some ⟨w3.heap.size, 0, none⟩) 1 1] 44))
  rw [← hW5] at hRS5 ⊢
  have HRS5 := Lib.hid hRS5
  have HX5 := Lib.hid ((hB5.block _ (Array.getElem?_eq_some_iff.1 HX3.out).1).trans HX3.out)
  have HE5 := Lib.hid ((hB5.block _ (Array.getElem?_eq_some_iff.1 HE3.out).1).trans HE3.out)
  have HA5 := Lib.hid (HA3.out.below hB5)
  have HB5 := Lib.hid (belT HB3.out hB5)
  have HL5 := Lib.hid rL
  clear hRS hW5 rS hS5 hB5 hRS5 e2 e3 HX3 HE3 HA3 HB3 rL
  generalize w3.heap.size = S at *
  have L0' : W5.cell? ⟨S + 1, 0, none⟩ = some (.int .i64 0) := cell_of_row W5 _ 0 _ 44 (0, 0) HL5.out
  have L1' : W5.cell? ⟨S + 1, 1, none⟩ = some (.slice (some ⟨S, 0, none⟩) 1 1) := cell_of_row W5 _ 1 _ 44 (0, 0) HL5.out
  go_upto_region 6 with ((with_reducible go_at_call 8); refine (line_chk TL.out _ _ HRS5.out).mono ?_; rintro e w6 ⟨rfl, hb⟩)
  have HX6 := Lib.hid ((hb.block _ (Array.getElem?_eq_some_iff.1 HX5.out).1).trans HX5.out)
  have HE6 := Lib.hid ((hb.block _ (Array.getElem?_eq_some_iff.1 HE5.out).1).trans HE5.out)
  have HL6 := Lib.hid ((hb.block _ (Array.getElem?_eq_some_iff.1 HL5.out).1).trans HL5.out)
  have HA6 := Lib.hid (HA5.out.below hb)
  have HB6 := Lib.hid (belT HB5.out hb)
  have HRS6 := Lib.hid (HRS5.out.below hb)
  have e3 : w6.cell? ⟨E, 3, none⟩ = some (.int .i64 PH) := cell_of_row w6 _ 3 _ 34 (0, 0) HE6.out
  have x1 : w6.cell? ⟨w.heap.size + 1, 1, none⟩ = some (.int .u16 rest) := cell_of_row w6 _ 1 _ 32 (0, 0) HX6.out
  clear hb L0' L1' HX5 HE5 HL5 HA5 HB5 HRS5
  obtain ⟨r0, r1⟩ := HRR.out
  obtain ⟨l0, l1, l2, l3⟩ := L0.out
  go_upto_region 8 with fail
  rw [← HFU.out]
  have hRR := Rd.made2 w6 _ (.int .i64 full) (.int .i64 (-1)) 3 rfl
  have hal := below_alloc1 w6 (.cells #[.int .i64 full, .int .i64 (-1)] 3)
  have HX7 := Lib.hid ((hal.block _ (Array.getElem?_eq_some_iff.1 HX6.out).1).trans HX6.out)
  have HE7 := Lib.hid ((hal.block _ (Array.getElem?_eq_some_iff.1 HE6.out).1).trans HE6.out)
  have HL7 := Lib.hid ((hal.block _ (Array.getElem?_eq_some_iff.1 HL6.out).1).trans HL6.out)
  have HA7 := Lib.hid (HA6.out.below hal)
  have HB7 := Lib.hid (belT HB6.out hal)
  have HRS7 := Lib.hid (HRS6.out.below hal)
  clear hal HX6 HE6 HL6 HA6 HB6 HRS6 e3 x1
  generalize (w6.alloc (.cells #[.int .i64 full, .int .i64 (-1)] 3)) = W7 at *
  generalize w6.heap.size = R at *
  have HRR7 : Hid (Rd W7 1 (.slice (some ⟨R, 0, none⟩) 2 2) (ints [full, -1])) := Lib.hid hRR
  have L0' : W7.cell? ⟨S + 1, 0, none⟩ = some (.int .i64 0) := cell_of_row W7 _ 0 _ 44 (0, 0) HL7.out
  have L1' : W7.cell? ⟨S + 1, 1, none⟩ = some (.slice (some ⟨S, 0, none⟩) 1 1) := cell_of_row W7 _ 1 _ 44 (0, 0) HL7.out
  clear hRR
  go_upto_region 10 with ((with_reducible go_at_call 9); refine (line_read TL.out _ _ _ HRS7.out HRR7.out).mono ?_; rintro e w8 ⟨rfl, hb⟩)
  have HX8 := Lib.hid ((hb.block _ (Array.getElem?_eq_some_iff.1 HX7.out).1).trans HX7.out)
  have HE8 := Lib.hid ((hb.block _ (Array.getElem?_eq_some_iff.1 HE7.out).1).trans HE7.out)
  have HL8 := Lib.hid ((hb.block _ (Array.getElem?_eq_some_iff.1 HL7.out).1).trans HL7.out)
  have HA8 := Lib.hid (HA7.out.below hb)
  have HB8 := Lib.hid (belT HB7.out hb)
  have HRS8 := Lib.hid (HRS7.out.below hb)
  have HRR8 := Lib.hid (HRR7.out.below hb)
  clear hb L0' L1' HX7 HE7 HL7 HA7 HB7 HRS7 HRR7
  have L0' : w8.cell? ⟨S + 1, 0, none⟩ = some (.int .i64 0) := cell_of_row w8 _ 0 _ 44 (0, 0) HL8.out
  have L1' : w8.cell? ⟨S + 1, 1, none⟩ = some (.slice (some ⟨S, 0, none⟩) 1 1) := cell_of_row w8 _ 1 _ 44 (0, 0) HL8.out
  go_upto_region 11 with ((with_reducible go_at_call 10); refine (line_lost TL.out _ _ _ HRS8.out HRR8.out).mono ?_; rintro e w9 ⟨rfl, hb⟩)
  have hal := below_alloc1 w9 (.cells #[.int .i64 PL, .int .i64 PH] 23)
  have hT := heap_alloc_new w9 (.cells #[.int .i64 PL, .int .i64 PH] 23)
  have hk := belT hb hal
  have HX9 := Lib.hid ((hk.block _ (Array.getElem?_eq_some_iff.1 HX8.out).1).trans HX8.out)
  have HE9 := Lib.hid ((hk.block _ (Array.getElem?_eq_some_iff.1 HE8.out).1).trans HE8.out)
  have HL9 := Lib.hid ((hk.block _ (Array.getElem?_eq_some_iff.1 HL8.out).1).trans HL8.out)
  have HA9 := Lib.hid (HA8.out.below hk)
  have HB9 := Lib.hid (belT HB8.out hk)
  have HRS9 := Lib.hid (HRS8.out.below hk)
  have HRR9 := Lib.hid (HRR8.out.below hk)
  have HT9 := Lib.hid hT
  clear hb hal hk hT L0' L1' HX8 HE8 HL8 HA8 HB8 HRS8 HRR8
  generalize (w9.alloc (.cells #[.int .i64 PL, .int .i64 PH] 23)) = W9 at *
  generalize w9.heap.size = T at *
  have L0' : W9.cell? ⟨S + 1, 0, none⟩ = some (.int .i64 0) := cell_of_row W9 _ 0 _ 44 (0, 0) HL9.out
  have L1' : W9.cell? ⟨S + 1, 1, none⟩ = some (.slice (some ⟨S, 0, none⟩) 1 1) := cell_of_row W9 _ 1 _ 44 (0, 0) HL9.out
  go_upto_region 12 with ((with_reducible go_at_call 11); refine (line_weights TL.out a b HAB.out _ _ _ HRS9.out HRR9.out).mono ?_; rintro e w10 ⟨wv', rfl, hw, hb⟩)
  have HX10 := Lib.hid ((hb.block _ (Array.getElem?_eq_some_iff.1 HX9.out).1).trans HX9.out)
  have HE10 := Lib.hid ((hb.block _ (Array.getElem?_eq_some_iff.1 HE9.out).1).trans HE9.out)
  have HT10 := Lib.hid ((hb.block _ (Array.getElem?_eq_some_iff.1 HT9.out).1).trans HT9.out)
  have HA10 := Lib.hid (HA9.out.below hb)
  have HB10 := Lib.hid (belT HB9.out hb)
  have HW10 := Lib.hid hw
  have HP10 := Lib.hid (HP.out.1.below HB10.out)
  have HPX := Lib.hid (HP.out.2.1.below HB10.out)
  have HPY := Lib.hid (HP.out.2.2.below HB10.out)
  clear hb hw L0' L1' HX9 HE9 HL9 HA9 HB9 HRS9 HRR9 HT9
  obtain ⟨c0, c1, c2, c3, c4, c5, c6, c7, c8, c9, c10, c11⟩ := HA10.out
  have x0 : w10.cell? ⟨w.heap.size + 1, 0, none⟩ = some (.slice pa plan.length pc) := cell_of_row w10 _ 0 _ 32 (0, 0) HX10.out
  have x2 : w10.cell? ⟨w.heap.size + 1, 2, none⟩ = some (.slice xa xs.length xc) := cell_of_row w10 _ 2 _ 32 (0, 0) HX10.out
  have x3 : w10.cell? ⟨w.heap.size + 1, 3, none⟩ = some (.slice ya ys.length yc) := cell_of_row w10 _ 3 _ 32 (0, 0) HX10.out
  have hd := Below.drew (Below.refl w10.heap.size w10)
  go_region_held3 (fun w' => w'.cell? ⟨w.heap.size, 0, none⟩ = some (.int .i64 m.rings) ∧ w'.cell? ⟨w.heap.size, 1, none⟩ = some (.int .i64 m.give) ∧ w'.cell? ⟨w.heap.size, 2, none⟩ = some (.int .i64 m.plo) ∧ w'.cell? ⟨w.heap.size, 3, none⟩ = some (.int .i64 m.phi) ∧ w'.cell? ⟨w.heap.size, 4, none⟩ = some (.int .i64 m.wlo) ∧ w'.cell? ⟨w.heap.size, 5, none⟩ = some (.int .i64 m.whi) ∧ w'.cell? ⟨w.heap.size, 6, none⟩ = some (.int .i64 m.set) ∧ w'.cell? ⟨w.heap.size, 7, none⟩ = some (.int .i64 m.shrink) ∧ w'.cell? ⟨w.heap.size, 8, none⟩ = some (.int .i64 m.skin) ∧ w'.cell? ⟨w.heap.size, 9, none⟩ = some (.int .i64 m.fill) ∧ w'.cell? ⟨w.heap.size, 10, none⟩ = some (.int .i64 m.gap) ∧ w'.cell? ⟨w.heap.size, 11, none⟩ = some (.int .i64 m.deep) ∧ w'.cell? ⟨w.heap.size + 1, 0, none⟩ = some (.slice pa plan.length pc) ∧ w'.cell? ⟨w.heap.size + 1, 2, none⟩ = some (.slice xa xs.length xc) ∧ w'.cell? ⟨w.heap.size + 1, 3, none⟩ = some (.slice ya ys.length yc))
    (first
      | with_reducible exact ⟨keep hd c0, keep hd c1, keep hd c2, keep hd c3, keep hd c4, keep hd c5, keep hd c6, keep hd c7, keep hd c8, keep hd c9, keep hd c10, keep hd c11, keep hd x0, keep hd x2, keep hd x3⟩
      | with_reducible exact ⟨keep hba c0, keep hba c1, keep hba c2, keep hba c3, keep hba c4, keep hba c5, keep hba c6, keep hba c7, keep hba c8, keep hba c9, keep hba c10, keep hba c11, keep hba x0, keep hba x2, keep hba x3⟩
      | with_reducible exact ⟨keep hbb c0, keep hbb c1, keep hbb c2, keep hbb c3, keep hbb c4, keep hbb c5, keep hbb c6, keep hbb c7, keep hbb c8, keep hbb c9, keep hbb c10, keep hbb c11, keep hbb x0, keep hbb x2, keep hbb x3⟩
      | with_reducible exact ⟨keep hbc c0, keep hbc c1, keep hbc c2, keep hbc c3, keep hbc c4, keep hbc c5, keep hbc c6, keep hbc c7, keep hbc c8, keep hbc c9, keep hbc c10, keep hbc c11, keep hbc x0, keep hbc x2, keep hbc x3⟩)
    (first
      | ((with_reducible go_at_call 14); refine (TR.out _ (HPX.out.below hd) (HPY.out.below hd)).mono ?_; rintro e wa ⟨v1, v2, rfl, ra1, ra2, hb⟩; have hba : Below w10.heap.size w10 wa := belT hd hb)
      | ((with_reducible go_at_call 13); refine (WH.out _ _ _ ra1 ra2).mono ?_; rintro e wb ⟨vz, rfl, rz, hb'⟩; have hbb : Below w10.heap.size w10 wb := belT hba hb')
      | ((with_reducible go_at_call 12); refine (EN.out _ _ rz (HP10.out.below hbb)).mono ?_; rintro e wc ⟨⟨hol, rfl⟩, hb''⟩; have hbc : Below w10.heap.size w10 wc := belT hbb hb''))
  rename_i hHH
  clear hHH hb hb' hb'' ra1 ra2 rz hba hbb hd c0 c1 c2 c3 c4 c5 c6 c7 c8 c9 c10 c11 x0 x2 x3
  have HE11 := Lib.hid ((hbc.block _ (Array.getElem?_eq_some_iff.1 HE10.out).1).trans HE10.out)
  have HT11 := Lib.hid ((hbc.block _ (Array.getElem?_eq_some_iff.1 HT10.out).1).trans HT10.out)
  have HB11 := Lib.hid (belT HB10.out hbc)
  obtain ⟨ga, gc, rfl, -, -, hg⟩ := (HW10.out.below hbc).spans
  obtain ⟨g, go, rfl, -, hgc⟩ := hg (by simp)
  have g0 : wc.cell? ⟨g, go, none⟩ = some (.int .i64 full) := (hgc 0 (by simp)).1
  have g1 : wc.cell? ⟨g, go + 1, none⟩ = some (.int .i64 full) := (hgc 0 (by simp)).2
  have g2 : wc.cell? ⟨g, go + 2, none⟩ = some (.int .i64 a) := (hgc 1 (by simp)).1
  have g3 : wc.cell? ⟨g, go + 3, none⟩ = some (.int .i64 b) := (hgc 1 (by simp)).2
  have e2 : wc.cell? ⟨E, 2, none⟩ = some (.int .i64 PL) := cell_of_row wc _ 2 _ 34 (0, 0) HE11.out
  have e3 : wc.cell? ⟨E, 3, none⟩ = some (.int .i64 PH) := cell_of_row wc _ 3 _ 34 (0, 0) HE11.out
  have t0 : wc.cell? ⟨T, 0, none⟩ = some (.int .i64 PL) := cell_of_row wc _ 0 _ 23 (0, 0) HT11.out
  have t1 : wc.cell? ⟨T, 1, none⟩ = some (.int .i64 PH) := cell_of_row wc _ 1 _ 23 (0, 0) HT11.out
  have f0 : 0 ≤ full := by have := HFU.out; omega
  have f1 : full ≤ 100000 := by have := HFU.out; omega
  clear hbc hgc hg HW10 HE10 HT10 HX10 HA10 HB10 HP10 HPX HPY
  go_wp2_with (first
    | ((with_reducible go_at_call 6); refine (awake5_any _).mono ?_; rintro e w5 ⟨rfl, hb5⟩)
    | ((with_reducible go_at_call 7); refine (awake_any _).mono ?_; rintro e w7 ⟨rfl, hb7⟩))
  go_ret
  exact ⟨rfl, belT (belT HB11.out hb5) hb7⟩

end Go.Proofs.YtcncmlpppabbcaaGreat
