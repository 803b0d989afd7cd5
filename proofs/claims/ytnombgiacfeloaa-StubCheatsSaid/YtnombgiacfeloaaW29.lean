/- The walks of the reference's Weights and Lost. -/
import Derived.Test.YtnombgiacfeloaaW28
import Derived.Test.YtnombgiacfeloaaW17
import Derived.Test.YtnombgiacfeloaaW14
import Derived.Deep.RegionHeld3
namespace Go.Proofs.Ytnombgiacfeloaa
set_option linter.unusedVariables false
set_option linter.unusedSimpArgs false
open Go.RowKit

theorem belAl {W w1 : World} (h1 : Below W.heap.size W w1) (o : Obj) : Below W.heap.size W (w1.alloc o) := belT h1 (below_alloc1 _ _)

theorem closQ_out (err : Int) (ss : List Stp) (rs : List Int) {k : Nat} (hk : k < rs.length) : closQ err ss rs rs.length k = closed err ss rs 7 k ∧ closQ err ss rs k rs.length = closed err ss rs k 7 := by
  unfold closQ
  rw [sx_self, sx_lt hk]
  exact ⟨rfl, rfl⟩
theorem closQ_in (err : Int) (ss : List Stp) (rs : List Int) {i k : Nat} (hi : i < rs.length) (hk : k < rs.length) : closQ err ss rs i k = closed err ss rs i k := by
  unfold closQ
  rw [sx_lt hi, sx_lt hk]

theorem wList_succ (err : Int) (ss : List Stp) (rs : List Int) (k : Nat) : wList err ss rs (k + 1) = wList err ss rs k ++ [(-closed err ss rs 7 k, closed err ss rs k 7)] := by
  unfold wList
  rw [List.range_succ, List.map_append]
  rfl

theorem spanRows_flat_len (l : List (Int × Int)) : (spanRows l).flatten.length = l.length * 2 := by
  rw [length_flatten_const (k := 2) (fun r hr => by obtain ⟨z, -, rfl⟩ := List.mem_map.1 hr; rfl), spanRows_length]

/-- A span appended to a row of one's own: the row before it can still be read. -/
theorem run_append_span (w : World) (base : Nat) (ty : TypeId) (i : TypeInfo) (hi : Try.prog.info? 35 = some i) (hz : i.zero = some (.agg #[.int .i64 0, .int .i64 0])) (hsize : i.size = 2) (hby : i.bytes = 16) (v : Value) (n : Nat) (xs : List Value) (hown : w.ownsRow base 35 2 v n xs)
    (ad : Addr) (c : Nat) (A B : Int) (hnews : ∀ j u, ([.int .i64 A, .int .i64 B] : List Value)[j]? = some u → w.cell? (ad.add j) = some u) (hn : n ≤ 100) (hbase : base ≤ w.heap.size) :
    ∃ v' w', (Builtin.append_ #[30, 30] ty #[v, .slice (some ad) 1 c]).run Try.prog w = .ok v' w' ∧ w'.ownsRow base 35 2 v' (n + 1) (xs ++ [.int .i64 A, .int .i64 B]) ∧ w.grownBy w' v.ownBlock ∧ w'.ownsRow base 35 2 v n xs := by
  have h1 : ∀ u ∈ ([.int .i64 A, .int .i64 B] : List Value), u.oneCell' = true := by simp [Value.oneCell']
  obtain ⟨v', w', r1, r2, r3, -⟩ := run_append_own (P := Try.prog) w base 30 ty 35 i (.agg #[.int .i64 0, .int .i64 0]) 2 16 Try.underlying30 hi hz hsize hby rfl (by decide) v n xs hown ad 1 c [.int .i64 A, .int .i64 B] rfl hnews h1 (by unfold maxLen; omega) (by omega) hbase
  refine ⟨v', w', r1, r2, r3, hown.1, ?_⟩
  rcases hown.2 with hl | ⟨g, cap, cur, rfl, hbg, hg, hnc, hcm, hcs, htake⟩
  · exact .inl hl
  · refine .inr ?_
    by_cases hroom : n + 1 ≤ cap
    · have hr := run_append_room (P := Try.prog) w 30 ty 35 i Try.underlying30 hi g n cap cur hg ad 1 c [.int .i64 A, .int .i64 B] (by rw [hsize]; rfl) hnews h1 hroom (by rw [hsize]; simp; omega)
      rw [hr] at r1
      simp only [Result.ok.injEq] at r1
      obtain ⟨-, rfl⟩ := r1
      refine ⟨g, cap, _, rfl, hbg, setRow_heap w g cur _ 35 _ hg, hnc, hcm, ?_, ?_⟩
      · rw [hsize]
        simp only [List.size_toArray, List.length_append, List.length_take, List.length_drop, Array.length_toList, List.length_cons, List.length_nil]
        omega
      · rw [hsize, List.append_assoc]
        have hx1 := hown.1
        rw [htake]
        rw [← hx1]
        exact List.take_left
    · have holds : ∀ j u, xs[j]? = some u → w.cell? ((⟨g, 0, none⟩ : Addr).add j) = some u := hown.cells (g := g) rfl
      have hr := run_append_grow (P := Try.prog) w 30 ty 35 i (.agg #[.int .i64 0, .int .i64 0]) Try.underlying30 hi hz ⟨g, 0, none⟩ n cap xs (by rw [hsize]; exact hown.1) holds ad 1 c [.int .i64 A, .int .i64 B] (by rw [hsize]; rfl) hnews (by omega) (by omega) (growslice_fits (by omega) (by rw [hby]; omega))
      rw [hr] at r1
      simp only [Result.ok.injEq] at r1
      obtain ⟨-, rfl⟩ := r1
      exact ⟨g, cap, cur, rfl, hbg, (heap_alloc_old w.drew _ (Array.getElem?_eq_some_iff.1 hg).1).trans hg, hnc, hcm, hcs, htake⟩

/-- One span more on the row, at a step of a region that draws. -/
theorem step_apsp {ops : Array Oper} {o : Oper} {a : Act} {wz : World} {K : Act → World → Prop} {Q : Exit → Act → World → Prop} {E : Prop} (WB : World) (i : TypeInfo) (hi : Try.prog.info? 35 = some i) (hz : i.zero = some (.agg #[.int .i64 0, .int .i64 0])) (hsize : i.size = 2) (hby : i.bytes = 16)
    (hgd : o.guard = none) (s y : Operand) (ho : o.op = .call { callee := .builtin .append, args := #[s, y], argTypes := #[30, 30] }) (n : Nat) {v : Value} {xs : List Value} (A B : Int) (H : Nat) (hs : a.eval s = v) (hn : n ≤ 100)
    (hy : a.eval y = .slice (some ⟨H, 0, none⟩) 1 1) (hnews : ∀ j u, ([.int .i64 A, .int .i64 B] : List Value)[j]? = some u → wz.cell? ((⟨H, 0, none⟩ : Addr).add j) = some u)
    (hown : wz.ownsRow WB.heap.size 35 2 v n xs) (hbw : Below WB.heap.size WB wz)
    (h : ∀ v' w', w'.ownsRow WB.heap.size 35 2 v' (n + 1) (xs ++ [.int .i64 A, .int .i64 B]) → w'.ownsRow WB.heap.size 35 2 v n xs → Below WB.heap.size WB w' → K (a.put o.dst v') w') :
    if Region.wanted o (yielded ops a.tmps) = true then Oper.wp Try.prog o a wz K Q else E := by
  have hw : Region.wanted o (yielded ops a.tmps) = true := by simp [Region.wanted, hgd]
  rw [if_pos hw]
  obtain ⟨v', w', hr, h2, h3, h4⟩ := run_append_span _ WB.heap.size o.type i hi hz hsize hby v n xs hown ⟨H, 0, none⟩ 1 A B hnews hn hbw.size
  unfold Oper.wp execOp
  simp only [ho, resolve, invoke, builtin, Sem.run_bind, Sem.run_pure, Result.andThen_ok, List.map_toArray, List.map_cons, List.map_nil, hs, hy, hr]
  exact h v' w' h2 h4 (hbw.trans (grown_below h3 hbw.size fun j e => (hown.lt j e).1))

set_option maxRecDepth 100000 in
set_option maxHeartbeats 4000000 in
theorem refWeights_any (err : Int) (ss : List Stp) (rs : List Int) (v rv : Value) (w : World) (h : Rd w 4 v (stpRows ss)) (hr : Rd w 1 rv (ints rs)) (hs : NamesFit ss) :
    Calls Try.prog 20 #[.agg #[.int .i64 err, v], rv] w (RetSpans (wAt err ss rs) (wErr err ss rs) w) := by
  have hB := Below.refl w.heap.size w
  have HR := Lib.hid h
  have HQ := Lib.hid hr
  obtain ⟨ra, rc, rfl, -, hm', -⟩ := hr.ints
  have ak := fun w' h h' => asked_any err ss rs v (.slice ra rs.length rc) w' h h' hs
  by_cases hA : askErr err ss rs = 0
  · obtain ⟨hL, hR⟩ := askErr_ok hA
    obtain ⟨x1, x2⟩ := weights_at hA
    have mo := fun w' h h' => most_any err ss rs v (.slice ra rs.length rc) w' h h' hL hR
    have cb := closed_bd hL hR
    have hn7 : rs.length ≤ 7 := by have := hR.len; have := hL.len; omega
    rw [hA] at ak
    have AK := Lib.hid ak
    have MO := Lib.hid mo
    have CB := Lib.hid cb
    have X1 := Lib.hid x1
    have X2 := Lib.hid x2
    clear ak mo cb x1 x2 h hr hs hL hR hA
    go_enter Try.func20, Try.ntmps20
    go_wp2_with fail
    refine (AK.out _ (HR.out.below (by (repeat (first | assumption | exact Below.refl _ _ | refine Below.alloc ?_ (by (try simp) <;> omega) _ | refine below_drewN ?_ _ | refine Below.drew ?_ | refine Below.setCell ?_ (by (try simp) <;> omega) _ | refine Below.trans ?_ (Below.mono (by assumption) (by (try simp) <;> omega)))))) (HQ.out.below (by (repeat (first | assumption | exact Below.refl _ _ | refine Below.alloc ?_ (by (try simp) <;> omega) _ | refine below_drewN ?_ _ | refine Below.drew ?_ | refine Below.setCell ?_ (by (try simp) <;> omega) _ | refine Below.trans ?_ (Below.mono (by assumption) (by (try simp) <;> omega))))))).mono ?_
    rintro e w1 ⟨rfl, hb⟩
    have c0 : w1.cell? ⟨w.heap.size, 0, none⟩ = some (.int .i64 err) := keep hb (by simp [go_sem])
    have c1 : w1.cell? ⟨w.heap.size, 1, none⟩ = some v := keep hb (by simp [go_sem])
    have hk : Below w.heap.size w w1 := by (repeat (first | assumption | exact Below.refl _ _ | refine Below.alloc ?_ (by (try simp) <;> omega) _ | refine below_drewN ?_ _ | refine Below.drew ?_ | refine Below.setCell ?_ (by (try simp) <;> omega) _ | refine Below.trans ?_ (Below.mono (by assumption) (by (try simp) <;> omega))))
    replace hB := hB.trans (hk.mono hB.size)
    have hzw1 := hB.size
    clear hk hb
    clear AK
    go_wp2_with fail
    refine (MO.out _ (HR.out.below hB) (HQ.out.below hB)).mono ?_
    rintro e w2 ⟨hb, hm⟩
    replace hB := belT hB hb
    clear MO hb c0 c1
    rcases hm with ⟨hs0, rfl⟩ | ⟨hs1, tv, g, R, C, rfl, hT⟩
    · have HS0 := Lib.hid hs0
      clear hs0
      go_wp2_with fail
      go_ret2
      refine ⟨_, by rw [X1.out, HS0.out]; rfl, ?_, hB⟩
      rw [X2.out, HS0.out]
      exact rd_nil _ _
    · have HS1 := Lib.hid hs1
      have HT := Lib.hid hT
      have HBX := Lib.hid hB
      obtain ⟨tc, rfl⟩ := hT.form
      obtain ⟨i35, hi35, z1, z2, z3⟩ := info_parts infoSpan
      clear hs1 hT hB
      go_wp2_with fail
      go_loopw [10, 11] (fun x i wr => ∃ (k : Nat) (x0 : Value), x0 = x ∧ k ≤ rs.length ∧ i = .int .i64 k ∧ Below w2.heap.size w2 wr ∧ wr.ownsRow w2.heap.size 35 2 x k (spanRows (wList err ss rs k)).flatten) (fun _ i _ => rs.length - (intOf i).toNat)
      case atStart => exact ⟨0, _, rfl, Nat.zero_le _, rfl, Below.refl _ _, World.ownsRow_nil _ _ _ _⟩
      case round =>
        obtain ⟨k, x0, rfl, hk, rfl, hV, hown⟩ := hrel
        by_cases hlt : k < rs.length
        · have hlt' : (k : Int) < (rs.length : Int) := by omega
          have n1 : (rs.length : Int) < ((rs.length + 1 : Nat) : Int) := by omega
          have n2 : (rs.length : Int) < (rs.length : Int) + 1 := by omega
          have k1 : (k : Int) < ((rs.length + 1 : Nat) : Int) := by omega
          have k2 : (k : Int) < (rs.length : Int) + 1 := by omega
          have p1' := HT.out.ptr rs.length (by omega)
          have p2' := HT.out.ptr k (by omega)
          have q1' := HT.out.cell rs.length k (by omega) (by omega)
          have q2' := HT.out.cell k rs.length (by omega) (by omega)
          rw [(closQ_out err ss rs hlt).1] at q1'
          rw [(closQ_out err ss rs hlt).2] at q2'
          have b1 := CB.out 7 k
          have hw : IntKind.i64.wrap (-closed err ss rs 7 k) = -closed err ss rs 7 k := IntWalk.i64_in _ (by omega)
          have lm : (spanRows (wList err ss rs k)).flatten.length = k * 2 := by rw [spanRows_flat_len, wList_len]
          have ev : (spanRows (wList err ss rs (k + 1))).flatten = (spanRows (wList err ss rs k)).flatten ++ [.int .i64 (-closed err ss rs 7 k), .int .i64 (closed err ss rs k 7)] := by rw [wList_succ, spanRows_snoc]
          have EV := Lib.hid ev
          clear ev
          generalize closed err ss rs 7 k = A at *
          generalize closed err ss rs k 7 = B at *
          generalize (spanRows (wList err ss rs k)).flatten = XS at *
          have p1 := keep hV p1'
          have p2 := keep hV p2'
          have q1 := keep hV q1'
          have q2 := keep hV q2'
          have P1 := Lib.hid p1'
          have P2 := Lib.hid p2'
          have Q1 := Lib.hid q1'
          have Q2 := Lib.hid q2'
          have HV := Lib.hid hV
          have HO := Lib.hid hown
          clear p1' p2' q1' q2' lm hm'
          go_upto_region 12 with fail
          have hV := HV.out
          have hown := HO.out
          go_region_held3 (fun w' => w'.cell? ⟨g, rs.length, none⟩ = some (.slice (some ⟨R rs.length, 0, none⟩) (rs.length + 1) (C rs.length)) ∧ w'.cell? ⟨g, k, none⟩ = some (.slice (some ⟨R k, 0, none⟩) (rs.length + 1) (C k)) ∧ w'.cell? ⟨R rs.length, k, none⟩ = some (.int .i64 A) ∧ w'.cell? ⟨R k, rs.length, none⟩ = some (.int .i64 B)
              ∧ w'.ownsRow w2.heap.size 35 2 x0 k XS ∧ Below w2.heap.size w2 w')
            (first
              | exact ⟨keep hbb P1.out, keep hbb P2.out, keep hbb Q1.out, keep hbb Q2.out, ownk, hbb⟩
              | exact ⟨keep (Below.drew (Below.refl _ _)) p1, keep (Below.drew (Below.refl _ _)) p2, keep (Below.drew (Below.refl _ _)) q1, keep (Below.drew (Below.refl _ _)) q2, ownsBw hown (Below.drew (Below.refl _ _)), hV.drew⟩
              | exact ⟨keep (Below.drew (below_alloc1 _ _)) p1, keep (Below.drew (below_alloc1 _ _)) p2, keep (Below.drew (below_alloc1 _ _)) q1, keep (Below.drew (below_alloc1 _ _)) q2, ownsBw hown (Below.drew (below_alloc1 _ _)), (belAl hV _).drew⟩)
            (first | (go_split_ands; refine step_apsp w2 i35 hi35 z1 z2 z3 rfl (.tmp 33) (.tmp 50) rfl k (v := x0) (xs := XS) (-A) B wr.heap.size ?_ ?_ ?_ ?_ ?_ ?_ ?_; rfl; omega; rfl; exact cells_new wr wr.heap.size [.int .i64 (-A), .int .i64 B] 35 rfl; with_reducible assumption; with_reducible assumption; intro V5 W5 own5 ownk hbb))
          have HO5 := Lib.hid own5
          have HB5 := Lib.hid hbb
          rename_i hHx
          clear hHx own5 ownk hbb hV hown p1 p2 q1 q2 HV HO P1 P2 Q1 Q2
          go_wp2_with fail
          go_roundw
          case rel => exact ⟨k + 1, _, rfl, by omega, by go_num, HB5.out, by rw [EV.out]; exact HO5.out⟩
          case measure => simp [intOf]; omega
        · obtain rfl : k = rs.length := by omega
          have HV := Lib.hid hV
          have HO := Lib.hid hown
          clear hV hown hlt
          go_wp2_with fail
          go_ret2
          refine ⟨_, by rw [X1.out, HS1.out]; rfl, ?_, belT HBX.out HV.out⟩
          rw [X2.out, HS1.out]
          refine Rd.of_owns (base := w2.heap.size) (e := 35) ?_ (fun r hr => by obtain ⟨z, -, rfl⟩ := List.mem_map.1 hr; rfl)
          rw [if_pos rfl, spanRows_length, wList_len]
          exact HO.out
  · have t1 : (askErr err ss rs != 0) = true := by rw [bne_iff_ne]; exact hA
    have x1 : wErr err ss rs = askErr err ss rs := by unfold wErr; rw [if_pos hA]
    have x2 : wAt err ss rs = [] := by unfold wAt; rw [x1, if_neg hA]
    have AK := Lib.hid ak
    have X1 := Lib.hid x1
    have X2 := Lib.hid x2
    clear ak x1 x2 h hr hs hA
    go_enter Try.func20, Try.ntmps20
    go_wp2_with fail
    refine (AK.out _ (HR.out.below (by (repeat (first | assumption | exact Below.refl _ _ | refine Below.alloc ?_ (by (try simp) <;> omega) _ | refine below_drewN ?_ _ | refine Below.drew ?_ | refine Below.setCell ?_ (by (try simp) <;> omega) _ | refine Below.trans ?_ (Below.mono (by assumption) (by (try simp) <;> omega)))))) (HQ.out.below (by (repeat (first | assumption | exact Below.refl _ _ | refine Below.alloc ?_ (by (try simp) <;> omega) _ | refine below_drewN ?_ _ | refine Below.drew ?_ | refine Below.setCell ?_ (by (try simp) <;> omega) _ | refine Below.trans ?_ (Below.mono (by assumption) (by (try simp) <;> omega))))))).mono ?_
    rintro e w1 ⟨rfl, hb⟩
    have hk : Below w.heap.size w w1 := by (repeat (first | assumption | exact Below.refl _ _ | refine Below.alloc ?_ (by (try simp) <;> omega) _ | refine below_drewN ?_ _ | refine Below.drew ?_ | refine Below.setCell ?_ (by (try simp) <;> omega) _ | refine Below.trans ?_ (Below.mono (by assumption) (by (try simp) <;> omega))))
    replace hB := hB.trans (hk.mono hB.size)
    have hzw1 := hB.size
    clear hk hb
    generalize askErr err ss rs = E at *
    clear AK
    go_wp2_with fail
    go_ret2
    refine ⟨.slice none 0 0, by rw [X1.out] <;> rfl, ?_, hB⟩
    rw [X2.out]
    exact rd_nil _ _


set_option maxRecDepth 100000 in
set_option maxHeartbeats 4000000 in
theorem refLost_any (err : Int) (ss : List Stp) (rs : List Int) (v rv : Value) (x y : Int) (w : World) (h : Rd w 4 v (stpRows ss)) (hr : Rd w 1 rv (ints rs)) (hs : NamesFit ss) :
    Calls Try.prog 23 #[.agg #[.int .i64 err, v], rv, .int .i64 x, .int .i64 y] w fun e w' => e = .returned (.tuple #[.agg #[.int .i64 (lostAt err ss rs x y).1, .int .i64 (lostAt err ss rs x y).2], .int .i64 (lostErr err ss rs x y)]) ∧ Below w.heap.size w w' := by
  have hB := Below.refl w.heap.size w
  have HR := Lib.hid h
  have HQ := Lib.hid hr
  obtain ⟨ra, rc, rfl, -, hm', -⟩ := hr.ints
  have ak := fun w' h h' => asked_any err ss rs v (.slice ra rs.length rc) w' h h' hs
  by_cases hA : askErr err ss rs = 0
  · obtain ⟨hL, hR⟩ := askErr_ok hA
    have mo := fun w' h h' => most_any err ss rs v (.slice ra rs.length rc) w' h h' hL hR
    have cb := closed_bd hL hR
    have hn7 : rs.length ≤ 7 ∧ rs.length = ss.length + 1 := by have := hR.len; have := hL.len; omega
    rw [hA] at ak
    have AK := Lib.hid ak
    have MO := Lib.hid mo
    have CB := Lib.hid cb
    have N7 := Lib.hid hn7
    have HA := Lib.hid hA
    have hwn : IntKind.i64.wrap ((rs.length : Int) - 1) = (rs.length : Int) - 1 := IntWalk.i64_in _ (by omega)
    have W0 := Lib.hid hwn
    clear ak mo cb h hr hs hL hR hA hn7 hwn
    go_enter Try.func23, Try.ntmps23
    go_wp2_with fail
    refine (AK.out _ (HR.out.below (below_alloc2 _ _ _)) (HQ.out.below (below_alloc2 _ _ _))).mono ?_
    rintro e w1 ⟨rfl, hb⟩
    have g0 : w1.cell? ⟨w.heap.size, 0, none⟩ = some (.int .i64 err) := keep hb (by simp [go_sem])
    have g1 : w1.cell? ⟨w.heap.size, 1, none⟩ = some v := keep hb (by simp [go_sem])
    have r0 : w1.cell? ⟨w.heap.size + 1, 0, none⟩ = some (.int .i64 0) := keep hb (by simp [go_sem])
    have r1 : w1.cell? ⟨w.heap.size + 1, 1, none⟩ = some (.int .i64 0) := keep hb (by simp [go_sem])
    have f0 : w1.frozen? ⟨w.heap.size + 1, 0, none⟩ = false := keepF hb (by simp) (by simp [go_sem])
    have f1 : w1.frozen? ⟨w.heap.size + 1, 1, none⟩ = false := keepF hb (by simp) (by simp [go_sem])
    have hk : Below w.heap.size w w1 := by (repeat (first | assumption | exact Below.refl _ _ | refine Below.alloc ?_ (by (try simp) <;> omega) _ | refine below_drewN ?_ _ | refine Below.drew ?_ | refine Below.setCell ?_ (by (try simp) <;> omega) _ | refine Below.trans ?_ (Below.mono (by assumption) (by (try simp) <;> omega))))
    replace hB := hB.trans (hk.mono hB.size)
    have hzw1 := hB.size
    clear hk hb
    clear AK
    have hwn := W0.out
    have lr := lt_of_cell r0
    by_cases hx : 0 ≤ x ∧ x ≤ ss.length
    · by_cases hy : 0 ≤ y ∧ y ≤ ss.length
      · by_cases hlt : x < y
        · obtain ⟨i, rfl⟩ : ∃ i : Nat, x = i := ⟨x.toNat, by omega⟩
          obtain ⟨j, rfl⟩ : ∃ j : Nat, y = j := ⟨y.toNat, by omega⟩
          obtain ⟨e1, e2⟩ := lost_at HA.out (x := i) (y := j) (by omega) (by omega)
          have E1 := Lib.hid e1
          have E2 := Lib.hid e2
          have hij : i < j ∧ j ≤ ss.length := by omega
          have dx : (decide (0 ≤ (i : Int)) && decide ((i : Int) ≤ (rs.length : Int) - 1)) = true := by have := N7.out.2; simp; omega
          have dy : (decide (0 ≤ (j : Int)) && decide ((j : Int) ≤ (rs.length : Int) - 1)) = true := by have := N7.out.2; simp; omega
          clear e1 e2 hx hy
          go_wp2_with fail
          refine (in_any i 0 ((rs.length : Int) - 1) _).mono ?_
          rintro e w2 ⟨rfl, rfl⟩
          rw [dx]
          go_wp2_with fail
          refine (in_any j 0 ((rs.length : Int) - 1) _).mono ?_
          rintro e w2 ⟨rfl, rfl⟩
          rw [dy]
          go_wp2_with fail
          refine (MO.out _ (HR.out.below hB) (HQ.out.below hB)).mono ?_
          rintro e w2 ⟨hb, hm⟩
          replace f0 := keepF hb lr f0
          replace f1 := keepF hb lr f1
          replace r0 := keep hb r0
          replace r1 := keep hb r1
          replace hB := belT hB hb
          clear MO hb g0 g1 dx dy
          rcases hm with ⟨hs0, rfl⟩ | ⟨hs1, tv, g, R, C, rfl, hT⟩
          · have HS0 := Lib.hid hs0
            clear hs0
            go_wp2_with fail
            exact bodyPost_ret (v := .tuple #[.agg #[.int .i64 0, .int .i64 0], .int .i64 9]) (by simp [results, Try.results23, go_sem, *]) rfl ⟨by rw [E1.out, E2.out, HS0.out]; rfl, by (repeat (first | assumption | exact Below.refl _ _ | refine Below.alloc ?_ (by (try simp) <;> omega) _ | refine below_drewN ?_ _ | refine Below.drew ?_ | refine Below.setCell ?_ (by (try simp) <;> omega) _ | refine Below.trans ?_ (Below.mono (by assumption) (by (try simp) <;> omega))))⟩
          · have HS1 := Lib.hid hs1
            obtain ⟨tc, rfl⟩ := hT.form
            have hn := N7.out
            have p1 := hT.ptr j (by omega)
            have p2 := hT.ptr i (by omega)
            have q1 := hT.cell j i (by omega) (by omega)
            have q2 := hT.cell i j (by omega) (by omega)
            rw [closQ_in err ss rs (by omega) (by omega)] at q1
            rw [closQ_in err ss rs (by omega) (by omega)] at q2
            have b1 := CB.out j i
            have b2 := CB.out i j
            have hw : IntKind.i64.wrap (-closed err ss rs j i) = -closed err ss rs j i := IntWalk.i64_in _ (by omega)
            have i1 : (i : Int) < ((rs.length + 1 : Nat) : Int) := by omega
            have i2 : (i : Int) < (rs.length : Int) + 1 := by omega
            have j1 : (j : Int) < ((rs.length + 1 : Nat) : Int) := by omega
            have j2 : (j : Int) < (rs.length : Int) + 1 := by omega
            generalize hA1 : closed err ss rs j i = A at *
            generalize hA2 : closed err ss rs i j = B at *
            have HA1 := Lib.hid hA1
            have HA2 := Lib.hid hA2
            clear hs1 hT hn CB hA1 hA2 hij
            go_upto_region 9 with fail
            go_still_tail 16, (by kernel_rfl)
            change wpList _ _ _ _ _ w2.drew
            go_wp2_with fail
            exact bodyPost_ret (v := .tuple #[.agg #[.int .i64 (-A), .int .i64 B], .int .i64 0]) (by simp [results, Try.results23, go_sem, *]) rfl ⟨by rw [E1.out, E2.out, HS1.out, if_pos rfl, if_pos rfl], by (repeat (first | assumption | exact Below.refl _ _ | refine Below.alloc ?_ (by (try simp) <;> omega) _ | refine below_drewN ?_ _ | refine Below.drew ?_ | refine Below.setCell ?_ (by (try simp) <;> omega) _ | refine Below.trans ?_ (Below.mono (by assumption) (by (try simp) <;> omega))))⟩
        · have hlt' : y ≤ x := by omega
          have e1 : lostErr err ss rs x y = 4 := by
            unfold lostErr
            rw [if_neg (by rw [HA.out]; simp), if_pos]
            rw [anyOut2]
            simp
            omega
          have e2 : lostAt err ss rs x y = (0, 0) := by unfold lostAt; rw [e1]; rfl
          have E1 := Lib.hid e1
          have E2 := Lib.hid e2
          clear e1 e2 MO CB HQ HR
          have dx : (decide (0 ≤ x) && decide (x ≤ (rs.length : Int) - 1)) = true := by have := N7.out.2; simp; omega
          have dy : (decide (0 ≤ y) && decide (y ≤ (rs.length : Int) - 1)) = true := by have := N7.out.2; simp; omega
          go_wp2_with fail
          refine (in_any x 0 ((rs.length : Int) - 1) _).mono ?_
          rintro e w2 ⟨rfl, rfl⟩
          rw [dx]
          go_wp2_with fail
          refine (in_any y 0 ((rs.length : Int) - 1) _).mono ?_
          rintro e w2 ⟨rfl, rfl⟩
          rw [dy]
          go_wp2_with fail
          exact bodyPost_ret (v := .tuple #[.agg #[.int .i64 0, .int .i64 0], .int .i64 4]) (by simp [results, Try.results23, go_sem, *]) rfl ⟨by rw [E1.out, E2.out], by (repeat (first | assumption | exact Below.refl _ _ | refine Below.alloc ?_ (by (try simp) <;> omega) _ | refine below_drewN ?_ _ | refine Below.drew ?_ | refine Below.setCell ?_ (by (try simp) <;> omega) _ | refine Below.trans ?_ (Below.mono (by assumption) (by (try simp) <;> omega))))⟩
      · have hyy : ¬ (0 ≤ y ∧ y ≤ ss.length) := hy
        have e1 : lostErr err ss rs x y = 4 := by
          unfold lostErr
          rw [if_neg (by rw [HA.out]; simp), if_pos]
          rw [anyOut2]
          simp
          omega
        have e2 : lostAt err ss rs x y = (0, 0) := by unfold lostAt; rw [e1]; rfl
        have E1 := Lib.hid e1
        have E2 := Lib.hid e2
        clear e1 e2 MO CB HQ HR
        have dx : (decide (0 ≤ x) && decide (x ≤ (rs.length : Int) - 1)) = true := by have := N7.out.2; simp; omega
        have dy : (decide (0 ≤ y) && decide (y ≤ (rs.length : Int) - 1)) = false := by have := N7.out.2; simp; omega
        go_wp2_with fail
        refine (in_any x 0 ((rs.length : Int) - 1) _).mono ?_
        rintro e w2 ⟨rfl, rfl⟩
        rw [dx]
        go_wp2_with fail
        refine (in_any y 0 ((rs.length : Int) - 1) _).mono ?_
        rintro e w2 ⟨rfl, rfl⟩
        rw [dy]
        go_wp2_with fail
        exact bodyPost_ret (v := .tuple #[.agg #[.int .i64 0, .int .i64 0], .int .i64 4]) (by simp [results, Try.results23, go_sem, *]) rfl ⟨by rw [E1.out, E2.out], by (repeat (first | assumption | exact Below.refl _ _ | refine Below.alloc ?_ (by (try simp) <;> omega) _ | refine below_drewN ?_ _ | refine Below.drew ?_ | refine Below.setCell ?_ (by (try simp) <;> omega) _ | refine Below.trans ?_ (Below.mono (by assumption) (by (try simp) <;> omega))))⟩
    · have hxx : ¬ (0 ≤ x ∧ x ≤ ss.length) := hx
      have e1 : lostErr err ss rs x y = 4 := by
        unfold lostErr
        rw [if_neg (by rw [HA.out]; simp), if_pos]
        rw [anyOut2]
        simp
        omega
      have e2 : lostAt err ss rs x y = (0, 0) := by unfold lostAt; rw [e1]; rfl
      have E1 := Lib.hid e1
      have E2 := Lib.hid e2
      clear e1 e2 MO CB HQ HR
      have dx : (decide (0 ≤ x) && decide (x ≤ (rs.length : Int) - 1)) = false := by have := N7.out.2; simp; omega
      go_wp2_with fail
      refine (in_any x 0 ((rs.length : Int) - 1) _).mono ?_
      rintro e w2 ⟨rfl, rfl⟩
      rw [dx]
      go_wp2_with fail
      exact bodyPost_ret (v := .tuple #[.agg #[.int .i64 0, .int .i64 0], .int .i64 4]) (by simp [results, Try.results23, go_sem, *]) rfl ⟨by rw [E1.out, E2.out], by (repeat (first | assumption | exact Below.refl _ _ | refine Below.alloc ?_ (by (try simp) <;> omega) _ | refine below_drewN ?_ _ | refine Below.drew ?_ | refine Below.setCell ?_ (by (try simp) <;> omega) _ | refine Below.trans ?_ (Below.mono (by assumption) (by (try simp) <;> omega))))⟩
  · have t1 : (askErr err ss rs == 0) = false := by rw [beq_eq_false_iff_ne]; exact hA
    have t2 : (askErr err ss rs != 0) = true := by rw [bne_iff_ne]; exact hA
    have e1 : lostErr err ss rs x y = askErr err ss rs := by unfold lostErr; rw [if_pos hA]
    have e2 : lostAt err ss rs x y = (0, 0) := by unfold lostAt; rw [e1, if_neg hA]
    have AK := Lib.hid ak
    have E1 := Lib.hid e1
    have E2 := Lib.hid e2
    clear ak e1 e2 h hr hs hA
    go_enter Try.func23, Try.ntmps23
    go_wp2_with fail
    refine (AK.out _ (HR.out.below (below_alloc2 _ _ _)) (HQ.out.below (below_alloc2 _ _ _))).mono ?_
    rintro e w1 ⟨rfl, hb⟩
    have r0 : w1.cell? ⟨w.heap.size + 1, 0, none⟩ = some (.int .i64 0) := keep hb (by simp [go_sem])
    have r1 : w1.cell? ⟨w.heap.size + 1, 1, none⟩ = some (.int .i64 0) := keep hb (by simp [go_sem])
    have f0 : w1.frozen? ⟨w.heap.size + 1, 0, none⟩ = false := keepF hb (by simp) (by simp [go_sem])
    have f1 : w1.frozen? ⟨w.heap.size + 1, 1, none⟩ = false := keepF hb (by simp) (by simp [go_sem])
    have hk : Below w.heap.size w w1 := by (repeat (first | assumption | exact Below.refl _ _ | refine Below.alloc ?_ (by (try simp) <;> omega) _ | refine below_drewN ?_ _ | refine Below.drew ?_ | refine Below.setCell ?_ (by (try simp) <;> omega) _ | refine Below.trans ?_ (Below.mono (by assumption) (by (try simp) <;> omega))))
    replace hB := hB.trans (hk.mono hB.size)
    have hzw1 := hB.size
    clear hk hb
    have lr := lt_of_cell r0
    clear AK
    generalize hE : askErr err ss rs = E at *
    have HE := Lib.hid hE
    clear hE
    go_wp2_with fail
    exact bodyPost_ret (v := .tuple #[.agg #[.int .i64 0, .int .i64 0], .int .i64 E]) (by simp [results, Try.results23, go_sem, *]) rfl ⟨by rw [E1.out, E2.out], by (repeat (first | assumption | exact Below.refl _ _ | refine Below.alloc ?_ (by (try simp) <;> omega) _ | refine below_drewN ?_ _ | refine Below.drew ?_ | refine Below.setCell ?_ (by (try simp) <;> omega) _ | refine Below.trans ?_ (Below.mono (by assumption) (by (try simp) <;> omega))))⟩

end Go.Proofs.Ytnombgiacfeloaa
