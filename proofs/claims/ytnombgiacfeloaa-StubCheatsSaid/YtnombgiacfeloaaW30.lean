/- The walks of the reference's Without, Cheats and Off. -/
import Derived.Test.YtnombgiacfeloaaW29
import Derived.Test.YtnombgiacfeloaaW18
import Derived.Test.YtnombgiacfeloaaA2
namespace Go.Proofs.Ytnombgiacfeloaa
set_option linter.unusedVariables false
set_option linter.unusedSimpArgs false
open Go.RowKit

theorem info3n : (Try.prog.info? 3).map (fun i => (i.zero, i.size, i.bytes)) = some (some (.int .i64 0), 1, 8) := by kernel_rfl

theorem rdIntCell {w : World} {g n c : Nat} {zs : List Int} (h : Rd w 1 (.slice (some ⟨g, 0, none⟩) n c) (ints zs)) {p : Nat} (hp : p < zs.length) : w.cell? ⟨g, p, none⟩ = some (.int .i64 zs[p]) := by
  obtain ⟨a5, c5, e5, -, -, h5⟩ := h.ints
  obtain ⟨b5, o5, e6, -, h6⟩ := h5 (by omega)
  simp only [Value.slice.injEq] at e5
  obtain ⟨rfl, -, -⟩ := e5
  simp only [Option.some.injEq, Addr.mk.injEq, and_true] at e6
  obtain ⟨rfl, rfl⟩ := e6
  have := h6 p hp
  rw [Nat.zero_add] at this
  exact this

set_option maxRecDepth 100000 in
set_option maxHeartbeats 1000000 in
theorem refWithout_any (rs : List Int) (rv : Value) (p : Nat) (w : World) (hr : Rd w 1 rv (ints rs)) (hp : p < rs.length) (h7 : rs.length ≤ 7) :
    Calls Try.prog 70 #[rv, .int .i64 p] w fun e w' => ∃ g c, e = .returned (.slice (some ⟨g, 0, none⟩) rs.length c) ∧ Rd w' 1 (.slice (some ⟨g, 0, none⟩) rs.length c) (ints (rs.set p (-1))) ∧ Below w.heap.size w w' := by
  have HQ := Lib.hid hr
  obtain ⟨i0, hi0, hz0, hz1, hz2⟩ := info_parts info3n
  have hil : (ints rs).length = rs.length := ints_length rs
  obtain ⟨ra, rc, rfl, -, -, -⟩ := hr.ints
  clear hr
  go_enter Try.func70, Try.ntmps70
  go_wp2_with (at_builtin; refine wpList_append_rd rfl (.tmp 6) (.tmp 7) 25 rfl w.heap.size 3 i0 (.int .i64 0) 1 8 Try.underlying25 hi0 hz0 hz1 hz2 rfl (by decide) _ 0 [] (by rfl) (owns_empty w 3 1) _ (ints rs) (by rfl) (HQ.out.below (below_alloc1 _ _)) (ints_one _) (by unfold maxLen; omega) (by omega) (by simp) ?_)
  intro V4 w4 own4 hg4
  have rd4 := Rd.of_owns (rows := ints rs) (by rw [hil]; exact own4) (fun r hr => by obtain ⟨z, -, rfl⟩ := List.mem_map.1 hr; rfl)
  have hb4 : Below w.heap.size w w4 := (below_alloc1 w (.cells #[] 3)).trans (grown_below hg4 (by simp) (fun j e => by simp [Value.ownBlock] at e; omega))
  obtain ⟨g, cap, cur, rfl, hgy, hgc⟩ : ∃ g cap cur, V4 = .slice (some ⟨g, 0, none⟩) rs.length cap ∧ w.heap.size ≤ g ∧ w4.heap[g]? = some (.cells cur 3 (0, 0)) := by
    rcases own4.2 with ⟨-, h0⟩ | ⟨g, cap, cur, e, h1, h2, h3, -⟩
    · omega
    · exact ⟨g, cap, cur, e, h1, h2⟩
  have fzg : w4.frozen? ⟨g, p, none⟩ = false := frozen_of_row hgc
  have cl := rdIntCell rd4 hp
  have hst := rdSetInt rd4 hp (-1)
  have hbs := Below.setCell hb4 (p := ⟨g, p, none⟩) hgy (.int .i64 (-1))
  have HST := Lib.hid hst
  have HBS := Lib.hid hbs
  have i1 : (p : Int) < (rs.length : Int) := by omega
  clear hst hbs own4 rd4 hb4 hgc hg4 HQ
  go_wp2_with fail
  go_ret
  exact ⟨g, cap, rfl, HST.out, HBS.out⟩

/-- Whether there is a truth. -/
theorem most_is (err : Int) (ss : List Stp) (rs : List Int) (v rv : Value) (w : World) (h : Rd w 4 v (stpRows ss)) (hr : Rd w 1 rv (ints rs)) (hL : LineOk err ss) (hR : ReadOk ss rs) :
    Calls Try.prog 67 #[.agg #[.int .i64 err, v], rv] w fun e w' => ∃ tv, e = .returned (.tuple #[tv, .bool (sound (closed err ss rs))]) ∧ Below w.heap.size w w' := by
  refine (most_any err ss rs v rv w h hr hL hR).mono ?_
  rintro e w' ⟨hb, hm⟩
  rcases hm with ⟨hs, rfl⟩ | ⟨hs, tv, g, R, C, rfl, hT⟩
  · exact ⟨_, by rw [hs], hb⟩
  · exact ⟨_, by rw [hs], hb⟩

theorem cheatsTo_succ (err : Int) (ss : List Stp) (rs : List Int) (k : Nat) : cheatsTo err ss rs (k + 1) = if sound (closed err ss (rs.set k (-1))) = true then cheatsTo err ss rs k ++ [(k : Int)] else cheatsTo err ss rs k := by
  unfold cheatsTo
  rw [List.range_succ, List.filter_append, List.map_append]
  by_cases h : sound (closed err ss (rs.set k (-1))) = true
  · rw [if_pos h]
    simp [h]
  · rw [if_neg h]
    simp [h]

theorem cheatsTo_len (err : Int) (ss : List Stp) (rs : List Int) (k : Nat) : (cheatsTo err ss rs k).length ≤ k := by
  unfold cheatsTo
  rw [List.length_map]
  have := List.length_filter_le (fun i : Nat => sound (closed err ss (rs.set i (-1)))) (List.range k)
  rw [List.length_range] at this
  exact this


set_option maxRecDepth 100000 in
set_option maxHeartbeats 4000000 in
theorem refCheats_any (err : Int) (ss : List Stp) (rs : List Int) (v rv : Value) (w : World) (h : Rd w 4 v (stpRows ss)) (hr : Rd w 1 rv (ints rs)) (hs : NamesFit ss) :
    Calls Try.prog 26 #[.agg #[.int .i64 err, v], rv] w (RetIntsE (cAt err ss rs) (cErr err ss rs) w) := by
  have hB := Below.refl w.heap.size w
  have HR := Lib.hid h
  have HQ := Lib.hid hr
  obtain ⟨ra, rc, rfl, -, hm', -⟩ := hr.ints
  have ak := fun w' h h' => asked_any err ss rs v (.slice ra rs.length rc) w' h h' hs
  by_cases hA : askErr err ss rs = 0
  · obtain ⟨hL, hR⟩ := askErr_ok hA
    have mo := fun w' h h' => most_is err ss rs v (.slice ra rs.length rc) w' h h' hL hR
    have mk := fun w' (k : Nat) (g c : Nat) h h' => most_is err ss (rs.set k (-1)) v (.slice (some ⟨g, 0, none⟩) rs.length c) w' h h' hL (hR.set k (-1) (.inl rfl))
    have hn7 : rs.length ≤ 7 := by have := hR.len; have := hL.len; omega
    have wo := fun w' h (k : Nat) (hk : k < rs.length) => refWithout_any rs (.slice ra rs.length rc) k w' h hk hn7
    have e1 : cErr err ss rs = if sound (closed err ss rs) = true then 4 else if cheatsTo err ss rs rs.length = [] then 9 else 0 := by unfold cErr; rw [if_neg (by omega)]
    have e2 : cAt err ss rs = if cErr err ss rs = 0 then cheatsTo err ss rs rs.length else [] := rfl
    rw [hA] at ak
    have AK := Lib.hid ak
    have MO := Lib.hid mo
    have MK := Lib.hid mk
    have WO := Lib.hid wo
    have E1 := Lib.hid e1
    have E2 := Lib.hid e2
    clear ak mo mk wo e1 e2 h hr hs hL hR hA
    go_enter Try.func26, Try.ntmps26
    go_wp2_with fail
    refine (AK.out _ (HR.out.below (by (repeat (first | assumption | exact Below.refl _ _ | refine Below.alloc ?_ (by (try simp) <;> omega) _ | refine below_drewN ?_ _ | refine Below.drew ?_ | refine Below.setCell ?_ (by (try simp) <;> omega) _ | refine Below.trans ?_ (Below.mono (by assumption) (by (try simp) <;> omega)))))) (HQ.out.below (by (repeat (first | assumption | exact Below.refl _ _ | refine Below.alloc ?_ (by (try simp) <;> omega) _ | refine below_drewN ?_ _ | refine Below.drew ?_ | refine Below.setCell ?_ (by (try simp) <;> omega) _ | refine Below.trans ?_ (Below.mono (by assumption) (by (try simp) <;> omega))))))).mono ?_
    rintro e w1 ⟨rfl, hb⟩
    have c0 : w1.cell? ⟨w.heap.size, 0, none⟩ = some (.int .i64 err) := keep hb (by simp [go_sem])
    have c1 : w1.cell? ⟨w.heap.size, 1, none⟩ = some v := keep hb (by simp [go_sem])
    have hk : Below w.heap.size w w1 := by (repeat (first | assumption | exact Below.refl _ _ | refine Below.alloc ?_ (by (try simp) <;> omega) _ | refine below_drewN ?_ _ | refine Below.drew ?_ | refine Below.setCell ?_ (by (try simp) <;> omega) _ | refine Below.trans ?_ (Below.mono (by assumption) (by (try simp) <;> omega))))
    replace hB := hB.trans (hk.mono hB.size)
    have hzw1 := hB.size
    clear hk hb
    clear AK
    go_wp2_with fail
    refine (MO.out _ (HR.out.below hB) (HQ.out.below hB)).mono ?_
    rintro e w2 ⟨tv, rfl, hb⟩
    replace c0 := keep hb c0
    replace c1 := keep hb c1
    replace hB := belT hB hb
    clear MO hb
    by_cases hsd : sound (closed err ss rs) = true
    · have x1 : cErr err ss rs = 4 := by rw [E1.out, if_pos hsd]
      have x2 : cAt err ss rs = [] := by rw [E2.out, x1, if_neg (by decide)]
      have X1 := Lib.hid x1
      have X2 := Lib.hid x2
      rw [hsd]
      clear x1 x2 hsd E1 E2
      go_wp2_with fail
      go_ret2
      exact ⟨.slice none 0 0, by rw [X1.out] <;> rfl, by rw [X2.out]; exact rd_nil _ _, hB⟩
    · replace hsd : sound (closed err ss rs) = false := by simpa using hsd
      rw [hsd]
      have x1 : cErr err ss rs = if cheatsTo err ss rs rs.length = [] then 9 else 0 := by rw [E1.out, hsd]; rfl
      have X1 := Lib.hid x1
      have HBX := Lib.hid hB
      obtain ⟨i0, hi0, hz0, hz1, hz2⟩ := info_parts info3n
      clear x1 hsd E1 hB
      go_wp2_with fail
      go_loopw [9, 10] (fun x i wr => ∃ (k : Nat) (x0 : Value), x0 = x ∧ k ≤ rs.length ∧ i = .int .i64 k ∧ Below w2.heap.size w2 wr ∧ wr.ownsRow w2.heap.size 3 1 x (cheatsTo err ss rs k).length ((cheatsTo err ss rs k).map (Value.int .i64))) (fun _ i _ => rs.length - (intOf i).toNat)
      case atStart => exact ⟨0, _, rfl, Nat.zero_le _, rfl, Below.refl _ _, World.ownsRow_nil _ _ _ _⟩
      case round =>
        obtain ⟨k, x0, rfl, hk, rfl, hV, hown⟩ := hrel
        by_cases hlt : k < rs.length
        · have hlt' : (k : Int) < (rs.length : Int) := by omega
          have f0 := keep hV c0
          have f1 := keep hV c1
          have HBz := Lib.hid (belT HBX.out hV)
          have HRz := Lib.hid (HR.out.below HBz.out)
          have HQz := Lib.hid (HQ.out.below HBz.out)
          have HV := Lib.hid hV
          have HO := Lib.hid hown
          have MKK := Lib.hid (fun w' g c h h' => MK.out w' k g c h h')
          have CS := Lib.hid (cheatsTo_succ err ss rs k)
          have CN := Lib.hid (cheatsTo_len err ss rs k)
          generalize cheatsTo err ss rs k = CT at *
          generalize hsk : sound (closed err ss (rs.set k (-1))) = sk at *
          clear hV hown MK hsk c0 c1
          go_upto_region 11 with fail
          go_region_held3 (fun w' => w'.cell? ⟨w.heap.size, 0, none⟩ = some (.int .i64 err) ∧ w'.cell? ⟨w.heap.size, 1, none⟩ = some v ∧ Below wr.heap.size wr w')
            (first
              | (go_split_ands; refine ⟨?_, ?_, ?_⟩ <;> with_reducible first | (refine keep hb ?_; assumption) | exact belT (by assumption) hb)
              | exact ⟨keep (Below.drew (Below.refl _ _)) f0, keep (Below.drew (Below.refl _ _)) f1, Below.drew (Below.refl _ _)⟩
              | (go_split_ands; refine ⟨?_, ?_, ?_⟩ <;> with_reducible first | assumption | exact Below.refl _ _ | exact Below.drew (by assumption) | go_keep))
            (first
              | (go_at_call 70; refine (WO.out _ (HQz.out.below (Below.drew (Below.refl _ _))) k hlt).mono ?_; rintro e w3 ⟨g3, c3, rfl, rd3, hb⟩)
              | (go_at_call 67; refine (MKK.out _ g3 c3 (HRz.out.below (by go_split_ands; with_reducible assumption)) rd3).mono ?_; rintro e w4 ⟨tv4, rfl, hb⟩))
          rename_i hH2
          have hb4 := hH2.2.2
          have HV4 := Lib.hid (belT HV.out hb4)
          have ow := ownsBw HO.out hb4
          have OW := Lib.hid ow
          have hVz := HV4.out.size
          clear hH2 f0 f1 hb4 hb HV HO HBz HRz HQz MKK rd3
          cases sk with
          | true =>
            have lm : (CT.map (Value.int .i64)).length = CT.length := List.length_map _
            have cs := CS.out
            rw [if_pos rfl] at cs
            have CS2 := Lib.hid cs
            clear cs CS
            have hcn := CN.out
            go_wp2_with (at_builtin; refine wpList_append_own _ rfl _ _ 25 rfl w2.heap.size 3 i0 (.int .i64 0) 1 8 Try.underlying25 hi0 hz0 hz1 hz2 rfl (by decide) _ _ _ rfl (ow.alloc _) ⟨_, 0, none⟩ 1 1 [.int .i64 k] rfl rfl ?c1 ?c2 ?c3 ?c4 ?c5 ?_)
            case c2 => simp [Value.oneCell']
            case c3 => unfold maxLen; omega
            case c4 => omega
            case c5 => first | omega | (simp; omega)
            · exact cells_new _ _ _ _ rfl
            intro x' w6 ho6 hg6 _
            have hBg := grown_below (B := w2.heap.size) hg6 (by simp; omega) (fun b e => (ow.lt _ e).1)
            have hB6 := (HV4.out.alloc hVz (.cells #[.int .i64 k] 3)).trans hBg
            clear ow hg6 hBg HV4 OW lm
            go_wp2_with fail
            go_roundw
            case rel => exact ⟨k + 1, _, rfl, by omega, by go_num, hB6, by rw [CS2.out, List.length_append, List.map_append]; exact ho6⟩
            case measure => simp [intOf]; omega
          | false =>
            clear ow
            go_wp2_with fail
            go_roundw
            case rel => exact ⟨k + 1, _, rfl, by omega, by go_num, HV4.out, by rw [CS.out, if_neg (by decide)]; exact OW.out⟩
            case measure => simp [intOf]; omega
        · obtain rfl : k = rs.length := by omega
          have HV := Lib.hid (belT HBX.out hV)
          generalize hZ : cheatsTo err ss rs rs.length = Z at *
          have HZ := Lib.hid hZ
          clear hZ hV hlt
          cases Z with
          | nil =>
            have x2 : cAt err ss rs = [] := by rw [E2.out, X1.out, if_pos rfl, if_neg (by decide)]
            have X2 := Lib.hid x2
            have hv0 : ∃ b0 n0, x0 = .slice b0 0 n0 := by
              rcases hown.2 with ⟨rfl, -⟩ | ⟨g, cap, cur, rfl, -⟩
              · exact ⟨_, _, rfl⟩
              · exact ⟨_, _, rfl⟩
            obtain ⟨b0, n0, rfl⟩ := hv0
            clear hown x2
            go_wp2_with fail
            go_ret2
            exact ⟨.slice none 0 0, by rw [X1.out] <;> rfl, by rw [X2.out]; exact rd_nil _ _, HV.out⟩
          | cons z Z =>
            have x1 : cErr err ss rs = 0 := by rw [X1.out, if_neg (by simp)]
            have x2 : cAt err ss rs = z :: Z := by rw [E2.out, x1, if_pos rfl]
            have XX1 := Lib.hid x1
            have X2 := Lib.hid x2
            have hown2 : wr.ownsRow w2.heap.size 3 1 x0 (Z.length + 1) ((z :: Z).map (Value.int .i64)) := hown
            obtain ⟨g3, cap3, rfl⟩ := ownsRow_succ hown2
            have HO := Lib.hid hown2
            have z1 : ((Z.length : Int) + 1 == 0) = false := by rw [beq_eq_false_iff_ne]; omega
            clear hown hown2 x1 x2
            go_wp2_with fail
            go_ret2
            refine ⟨.slice (some ⟨g3, 0, none⟩) (Z.length + 1) cap3, by rw [XX1.out] <;> rfl, ?_, HV.out⟩
            rw [X2.out]
            refine Rd.of_owns (base := w2.heap.size) (e := 3) (rows := ints (z :: Z)) ?_ (fun r hr => by obtain ⟨z, -, rfl⟩ := List.mem_map.1 hr; rfl)
            have e2 : (ints (z :: Z)).flatten = (z :: Z).map (Value.int .i64) := by
              unfold ints
              rw [← List.flatMap_def]
              simp [List.map_eq_flatMap]
            rw [ints_length, e2]
            exact HO.out
  · have t1 : (askErr err ss rs != 0) = true := by rw [bne_iff_ne]; exact hA
    have x1 : cErr err ss rs = askErr err ss rs := by unfold cErr; rw [if_pos hA]
    have x2 : cAt err ss rs = [] := by unfold cAt; rw [x1, if_neg hA]
    have AK := Lib.hid ak
    have X1 := Lib.hid x1
    have X2 := Lib.hid x2
    clear ak x1 x2 h hr hs hA
    go_enter Try.func26, Try.ntmps26
    go_wp2_with fail
    refine (AK.out _ (HR.out.below (by (repeat (first | assumption | exact Below.refl _ _ | refine Below.alloc ?_ (by (try simp) <;> omega) _ | refine below_drewN ?_ _ | refine Below.drew ?_ | refine Below.setCell ?_ (by (try simp) <;> omega) _ | refine Below.trans ?_ (Below.mono (by assumption) (by (try simp) <;> omega)))))) (HQ.out.below (by (repeat (first | assumption | exact Below.refl _ _ | refine Below.alloc ?_ (by (try simp) <;> omega) _ | refine below_drewN ?_ _ | refine Below.drew ?_ | refine Below.setCell ?_ (by (try simp) <;> omega) _ | refine Below.trans ?_ (Below.mono (by assumption) (by (try simp) <;> omega))))))).mono ?_
    rintro e w1 ⟨rfl, hb⟩
    have hk : Below w.heap.size w w1 := by (repeat (first | assumption | exact Below.refl _ _ | refine Below.alloc ?_ (by (try simp) <;> omega) _ | refine below_drewN ?_ _ | refine Below.drew ?_ | refine Below.setCell ?_ (by (try simp) <;> omega) _ | refine Below.trans ?_ (Below.mono (by assumption) (by (try simp) <;> omega))))
    replace hB := hB.trans (hk.mono hB.size)
    have hzw1 := hB.size
    clear hk hb
    generalize askErr err ss rs = E at *
    clear AK
    go_wp2_with fail
    go_ret2
    refine ⟨.slice none 0 0, by rw [X1.out] <;> rfl, ?_, hB⟩
    rw [X2.out]
    exact rd_nil _ _

set_option maxRecDepth 100000 in
set_option maxHeartbeats 4000000 in
theorem refOff_any (err : Int) (ss : List Stp) (rs : List Int) (v rv : Value) (p : Int) (w : World) (h : Rd w 4 v (stpRows ss)) (hr : Rd w 1 rv (ints rs)) (hs : NamesFit ss) :
    Calls Try.prog 29 #[.agg #[.int .i64 err, v], rv, .int .i64 p] w fun e w' => e = .returned (.tuple #[.agg #[.int .i64 (offAt err ss rs p).1, .int .i64 (offAt err ss rs p).2], .int .i64 (offErr err ss rs p)]) ∧ Below w.heap.size w w' := by
  have hB := Below.refl w.heap.size w
  have HR := Lib.hid h
  have HQ := Lib.hid hr
  obtain ⟨ra, rc, rfl, -, hm', hrc⟩ := hr.ints
  have ak := fun w' h h' => asked_any err ss rs v (.slice ra rs.length rc) w' h h' hs
  by_cases hA : askErr err ss rs = 0
  · obtain ⟨hL, hR⟩ := askErr_ok hA
    have hn7 : rs.length ≤ 7 ∧ rs.length = ss.length + 1 := by have := hR.len; have := hL.len; omega
    obtain ⟨qb, qoff, rfl, hqb, hrc⟩ := hrc (by omega)
    have wo := fun w' h (k : Nat) (hk : k < rs.length) => refWithout_any rs (.slice (some ⟨qb, qoff, none⟩) rs.length rc) k w' h hk hn7.1
    have we := fun w' (k : Nat) (g c : Nat) h h' => refWeights_any err ss (rs.set k (-1)) v (.slice (some ⟨g, 0, none⟩) rs.length c) w' h h' hs
    have wa := fun k : Nat => weights_at (ask_ok (err := err) (ss := ss) (rs := rs.set k (-1)) (by unfold askErr at hA; by_cases h0 : (chk err ss).2.2 = 0 <;> simp_all) (rdErr_of_ok (hR.set k (-1) (.inl rfl))))
    have cb := fun k : Nat => closed_bd hL (hR.set k (-1) (.inl rfl))
    have rd := fun r hr => hR.rd r hr
    rw [hA] at ak
    have AK := Lib.hid ak
    have WO := Lib.hid wo
    have WE := Lib.hid we
    have WA := Lib.hid wa
    have CB := Lib.hid cb
    have RB := Lib.hid rd
    have RC := Lib.hid hrc
    have N7 := Lib.hid hn7
    have HA := Lib.hid hA
    have hwn : IntKind.i64.wrap ((rs.length : Int) - 1) = (rs.length : Int) - 1 := IntWalk.i64_in _ (by omega)
    clear ak wo we wa cb rd hrc h hr hs hL hR hA hn7 hqb
    go_enter Try.func29, Try.ntmps29
    go_wp2_with fail
    refine (AK.out _ (HR.out.below (below_alloc2 _ _ _)) (HQ.out.below (below_alloc2 _ _ _))).mono ?_
    rintro e w1 ⟨rfl, hb⟩
    have g0 : w1.cell? ⟨w.heap.size, 0, none⟩ = some (.int .i64 err) := keep hb (by simp [go_sem])
    have g1 : w1.cell? ⟨w.heap.size, 1, none⟩ = some v := keep hb (by simp [go_sem])
    have r0 : w1.cell? ⟨w.heap.size + 1, 0, none⟩ = some (.int .i64 0) := keep hb (by simp [go_sem])
    have r1 : w1.cell? ⟨w.heap.size + 1, 1, none⟩ = some (.int .i64 0) := keep hb (by simp [go_sem])
    have f0 : w1.frozen? ⟨w.heap.size + 1, 0, none⟩ = false := keepF hb (by simp) (by simp [go_sem])
    have f1 : w1.frozen? ⟨w.heap.size + 1, 1, none⟩ = false := keepF hb (by simp) (by simp [go_sem])
    have hk : Below w.heap.size w w1 := by (repeat (first | assumption | exact Below.refl _ _ | refine Below.alloc ?_ (by (try simp) <;> omega) _ | refine below_drewN ?_ _ | refine Below.drew ?_ | refine Below.setCell ?_ (by (try simp) <;> omega) _ | refine Below.trans ?_ (Below.mono (by assumption) (by (try simp) <;> omega))))
    replace hB := hB.trans (hk.mono hB.size)
    have hzw1 := hB.size
    clear hk hb
    clear AK
    have lr := lt_of_cell r0
    by_cases hp : 0 ≤ p ∧ p ≤ ss.length
    · obtain ⟨k, rfl⟩ : ∃ k : Nat, p = k := ⟨p.toNat, by omega⟩
      have hkr : k < rs.length := by have := N7.out.2; omega
      have dp : (decide (0 ≤ (k : Int)) && decide ((k : Int) ≤ (rs.length : Int) - 1)) = true := by simp; omega
      have hr0 := keep hB (RC.out k hkr)
      have hrd := RB.out rs[k] (List.getElem_mem _)
      have ek : rs[k]? = some rs[k] := List.getElem?_eq_getElem hkr
      generalize rs[k] = z at *
      have EK := Lib.hid ek
      have kk : (k : Int) < (rs.length : Int) := by omega
      have ho : ¬ (anyOut 0 ss.length [(k : Int)] = true) := by rw [anyOut1]; simp; omega
      have HO := Lib.hid ho
      clear ek ho hp
      by_cases hq3 : z = -1
      · subst hq3
        have e1 : offErr err ss rs k = 4 := by unfold offErr; rw [if_neg (by rw [HA.out]; simp), if_pos (.inr (by rw [Int.toNat_natCast]; exact EK.out))]
        have e2 : offAt err ss rs k = (0, 0) := by unfold offAt; rw [e1]; rfl
        have E1 := Lib.hid e1
        have E2 := Lib.hid e2
        clear e1 e2 WO WE WA CB RB RC HR HQ hrd
        go_wp2_with fail
        refine (in_any k 0 ((rs.length : Int) - 1) _).mono ?_
        rintro e w2 ⟨rfl, rfl⟩
        rw [dp]
        go_wp2_with fail
        exact bodyPost_ret (v := .tuple #[.agg #[.int .i64 0, .int .i64 0], .int .i64 4]) (by simp [results, Try.results29, go_sem, *]) rfl ⟨by rw [E1.out, E2.out], by (repeat (first | assumption | exact Below.refl _ _ | refine Below.alloc ?_ (by (try simp) <;> omega) _ | refine below_drewN ?_ _ | refine Below.drew ?_ | refine Below.setCell ?_ (by (try simp) <;> omega) _ | refine Below.trans ?_ (Below.mono (by assumption) (by (try simp) <;> omega))))⟩
      · have t3 : (z == -1) = false := by simp [hq3]
        replace hrd := hrd.resolve_left hq3
        have e1 : offErr err ss rs k = if sound (closed err ss (rs.set k (-1))) = true then 0 else 9 := by
          unfold offErr
          rw [if_neg (by rw [HA.out]; simp), if_neg (by rw [Int.toNat_natCast, EK.out]; simp [HO.out, hq3]), Int.toNat_natCast]
        have e2 : offAt err ss rs k = if sound (closed err ss (rs.set k (-1))) = true then (z - closed err ss (rs.set k (-1)) k 7, z + closed err ss (rs.set k (-1)) 7 k) else (0, 0) := by
          unfold offAt
          rw [e1, Int.toNat_natCast, EK.out]
          by_cases hs : sound (closed err ss (rs.set k (-1))) = true
          · simp [hs]
          · simp [hs]
        have E1 := Lib.hid e1
        have E2 := Lib.hid e2
        obtain ⟨wa1, wa2⟩ := WA.out k
        have WEK := Lib.hid (fun w' g c h h' => WE.out w' k g c h h')
        rw [wa1, wa2, List.length_set] at WEK
        have CBK := Lib.hid (CB.out k)
        clear e1 e2 WE WA CB RB RC wa1 wa2
        have hln := wList_len err ss (rs.set k (-1)) rs.length
        have hgt := fun h => wList_get err ss (rs.set k (-1)) rs.length k h
        generalize wList err ss (rs.set k (-1)) rs.length = WL at *
        generalize closed err ss (rs.set k (-1)) = M at *
        have HLN := Lib.hid hln
        have HGT := Lib.hid hgt
        clear hln hgt hq3
        by_cases hs : sound M = true
        · rw [if_pos hs, if_pos hs] at WEK
          rw [if_pos hs] at E1 E2
          clear hs
          go_wp2_with fail
          refine (in_any k 0 ((rs.length : Int) - 1) _).mono ?_
          rintro e w2 ⟨rfl, rfl⟩
          rw [dp]
          go_upto_region 6 with fail
          have HRz := Lib.hid (HR.out.below hB)
          have HQz := Lib.hid (HQ.out.below hB)
          go_region_held3 (fun w' => w'.cell? ⟨w.heap.size, 0, none⟩ = some (.int .i64 err) ∧ w'.cell? ⟨w.heap.size, 1, none⟩ = some v ∧ Below w1.heap.size w1 w')
            (first
              | (go_split_ands; refine ⟨?_, ?_, ?_⟩ <;> with_reducible first | (refine keep hb ?_; assumption) | exact belT (by assumption) hb)
              | exact ⟨keep (Below.drew (Below.refl _ _)) g0, keep (Below.drew (Below.refl _ _)) g1, Below.drew (Below.refl _ _)⟩
              | (go_split_ands; refine ⟨?_, ?_, ?_⟩ <;> with_reducible first | assumption | exact Below.refl _ _ | exact Below.drew (by assumption) | go_keep))
            (first
              | (go_at_call 70; refine (WO.out _ (HQz.out.below (Below.drew (Below.refl _ _))) k hkr).mono ?_; rintro e w3 ⟨g3, c3, rfl, rd3, hb⟩)
              | (go_at_call 20; refine (WEK.out _ g3 c3 (HRz.out.below (by go_split_ands; with_reducible assumption)) rd3).mono ?_; rintro e w4 ⟨v4, rfl, rd4, hb⟩))
          rename_i hH2
          have hb4 := hH2.2.2
          replace f0 := keepF hb4 lr f0
          replace f1 := keepF hb4 lr f1
          replace r0 := keep hb4 r0
          replace r1 := keep hb4 r1
          replace hr0 := keep hb4 hr0
          replace hB := belT hB hb4
          have RD4 := Lib.hid rd4
          clear hH2 hb4 hb rd3 rd4 g0 g1 HRz HQz WO WEK HR HQ
          obtain ⟨tc, tcc, hv4, -, -, htc⟩ := RD4.out.spans
          obtain ⟨tb, toff, rfl, htb, htc⟩ := htc (by rw [HLN.out]; omega)
          obtain ⟨t0, t1⟩ := htc k (by rw [HLN.out]; exact hkr)
          rw [HGT.out (by rw [HLN.out]; exact hkr)] at t0 t1
          dsimp only at t0 t1
          rw [HLN.out] at hv4
          subst hv4
          have b1 := CBK.out k 7
          have b2 := CBK.out 7 k
          have n1 : IntKind.i64.wrap (z - M k 7) = z - M k 7 := IntWalk.i64_in _ (by omega)
          have n2 : IntKind.i64.wrap (z - -M 7 k) = z + M 7 k := by rw [Int.sub_neg]; exact IntWalk.i64_in _ (by omega)
          have n3 : IntKind.i64.wrap (z + M 7 k) = z + M 7 k := IntWalk.i64_in _ (by omega)
          clear htc RD4 HGT HLN CBK htb
          go_upto_region 9 with fail
          go_still_tail 21, (by kernel_rfl)
          change wpList _ _ _ _ _ w4.drew
          go_wp2_with fail
          exact bodyPost_ret (v := .tuple #[.agg #[.int .i64 (z - M k 7), .int .i64 (z + M 7 k)], .int .i64 0]) (by simp [results, Try.results29, go_sem, *]) rfl ⟨by rw [E1.out, E2.out], by (repeat (first | assumption | exact Below.refl _ _ | refine Below.alloc ?_ (by (try simp) <;> omega) _ | refine below_drewN ?_ _ | refine Below.drew ?_ | refine Below.setCell ?_ (by (try simp) <;> omega) _ | refine Below.trans ?_ (Below.mono (by assumption) (by (try simp) <;> omega))))⟩
        · rw [if_neg hs, if_neg hs] at WEK
          rw [if_neg hs] at E1 E2
          clear hs
          go_wp2_with fail
          refine (in_any k 0 ((rs.length : Int) - 1) _).mono ?_
          rintro e w2 ⟨rfl, rfl⟩
          rw [dp]
          go_upto_region 6 with fail
          have HRz := Lib.hid (HR.out.below hB)
          have HQz := Lib.hid (HQ.out.below hB)
          go_region_held3 (fun w' => w'.cell? ⟨w.heap.size, 0, none⟩ = some (.int .i64 err) ∧ w'.cell? ⟨w.heap.size, 1, none⟩ = some v ∧ Below w1.heap.size w1 w')
            (first
              | (go_split_ands; refine ⟨?_, ?_, ?_⟩ <;> with_reducible first | (refine keep hb ?_; assumption) | exact belT (by assumption) hb)
              | exact ⟨keep (Below.drew (Below.refl _ _)) g0, keep (Below.drew (Below.refl _ _)) g1, Below.drew (Below.refl _ _)⟩
              | (go_split_ands; refine ⟨?_, ?_, ?_⟩ <;> with_reducible first | assumption | exact Below.refl _ _ | exact Below.drew (by assumption) | go_keep))
            (first
              | (go_at_call 70; refine (WO.out _ (HQz.out.below (Below.drew (Below.refl _ _))) k hkr).mono ?_; rintro e w3 ⟨g3, c3, rfl, rd3, hb⟩)
              | (go_at_call 20; refine (WEK.out _ g3 c3 (HRz.out.below (by go_split_ands; with_reducible assumption)) rd3).mono ?_; rintro e w4 ⟨v4, rfl, rd4, hb⟩))
          rename_i hH2
          have hb4 := hH2.2.2
          replace f0 := keepF hb4 lr f0
          replace f1 := keepF hb4 lr f1
          replace r0 := keep hb4 r0
          replace r1 := keep hb4 r1
          replace hr0 := keep hb4 hr0
          replace hB := belT hB hb4
          have RD4 := Lib.hid rd4
          clear hH2 hb4 hb rd3 rd4 g0 g1 HRz HQz WO WEK HR HQ
          clear RD4 HGT HLN CBK
          go_wp2_with fail
          exact bodyPost_ret (v := .tuple #[.agg #[.int .i64 0, .int .i64 0], .int .i64 9]) (by simp [results, Try.results29, go_sem, *]) rfl ⟨by rw [E1.out, E2.out], by (repeat (first | assumption | exact Below.refl _ _ | refine Below.alloc ?_ (by (try simp) <;> omega) _ | refine below_drewN ?_ _ | refine Below.drew ?_ | refine Below.setCell ?_ (by (try simp) <;> omega) _ | refine Below.trans ?_ (Below.mono (by assumption) (by (try simp) <;> omega))))⟩
    · have hpp : ¬ (0 ≤ p ∧ p ≤ ss.length) := hp
      have dp : (decide (0 ≤ p) && decide (p ≤ (rs.length : Int) - 1)) = false := by have := N7.out.2; simp; omega
      have e1 : offErr err ss rs p = 4 := by unfold offErr; rw [if_neg (by rw [HA.out]; simp), if_pos (.inl (by rw [anyOut1]; simp; omega))]
      have e2 : offAt err ss rs p = (0, 0) := by unfold offAt; rw [e1]; rfl
      have E1 := Lib.hid e1
      have E2 := Lib.hid e2
      clear WO WE WA CB RB RC HR HQ hp hpp
      clear e1 e2
      go_wp2_with fail
      refine (in_any p 0 ((rs.length : Int) - 1) _).mono ?_
      rintro e w2 ⟨rfl, rfl⟩
      rw [dp]
      go_wp2_with fail
      exact bodyPost_ret (v := .tuple #[.agg #[.int .i64 0, .int .i64 0], .int .i64 4]) (by simp [results, Try.results29, go_sem, *]) rfl ⟨by rw [E1.out, E2.out], by (repeat (first | assumption | exact Below.refl _ _ | refine Below.alloc ?_ (by (try simp) <;> omega) _ | refine below_drewN ?_ _ | refine Below.drew ?_ | refine Below.setCell ?_ (by (try simp) <;> omega) _ | refine Below.trans ?_ (Below.mono (by assumption) (by (try simp) <;> omega))))⟩
  · have t1 : (askErr err ss rs == 0) = false := by rw [beq_eq_false_iff_ne]; exact hA
    have t2 : (askErr err ss rs != 0) = true := by rw [bne_iff_ne]; exact hA
    have e1 : offErr err ss rs p = askErr err ss rs := by unfold offErr; rw [if_pos hA]
    have e2 : offAt err ss rs p = (0, 0) := by unfold offAt; rw [e1, if_neg hA]
    have AK := Lib.hid ak
    have E1 := Lib.hid e1
    have E2 := Lib.hid e2
    clear ak e1 e2 h hr hs hA
    go_enter Try.func29, Try.ntmps29
    go_wp2_with fail
    refine (AK.out _ (HR.out.below (below_alloc2 _ _ _)) (HQ.out.below (below_alloc2 _ _ _))).mono ?_
    rintro e w1 ⟨rfl, hb⟩
    have r0 : w1.cell? ⟨w.heap.size + 1, 0, none⟩ = some (.int .i64 0) := keep hb (by simp [go_sem])
    have r1 : w1.cell? ⟨w.heap.size + 1, 1, none⟩ = some (.int .i64 0) := keep hb (by simp [go_sem])
    have f0 : w1.frozen? ⟨w.heap.size + 1, 0, none⟩ = false := keepF hb (by simp) (by simp [go_sem])
    have f1 : w1.frozen? ⟨w.heap.size + 1, 1, none⟩ = false := keepF hb (by simp) (by simp [go_sem])
    have hk : Below w.heap.size w w1 := by (repeat (first | assumption | exact Below.refl _ _ | refine Below.alloc ?_ (by (try simp) <;> omega) _ | refine below_drewN ?_ _ | refine Below.drew ?_ | refine Below.setCell ?_ (by (try simp) <;> omega) _ | refine Below.trans ?_ (Below.mono (by assumption) (by (try simp) <;> omega))))
    replace hB := hB.trans (hk.mono hB.size)
    have hzw1 := hB.size
    clear hk hb
    have lr := lt_of_cell r0
    clear AK
    generalize hE : askErr err ss rs = E at *
    have HE := Lib.hid hE
    clear hE
    go_wp2_with fail
    exact bodyPost_ret (v := .tuple #[.agg #[.int .i64 0, .int .i64 0], .int .i64 E]) (by simp [results, Try.results29, go_sem, *]) rfl ⟨by rw [E1.out, E2.out], by (repeat (first | assumption | exact Below.refl _ _ | refine Below.alloc ?_ (by (try simp) <;> omega) _ | refine below_drewN ?_ _ | refine Below.drew ?_ | refine Below.setCell ?_ (by (try simp) <;> omega) _ | refine Below.trans ?_ (Below.mono (by assumption) (by (try simp) <;> omega))))⟩

end Go.Proofs.Ytnombgiacfeloaa
