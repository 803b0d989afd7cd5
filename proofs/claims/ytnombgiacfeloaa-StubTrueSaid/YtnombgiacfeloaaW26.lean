/- The walk of the laws' 'Worked': the weights of a truth, and readings of them. -/
import Derived.Test.YtnombgiacfeloaaM21
import Derived.Test.YtnombgiacfeloaaA1
import Derived.Test.YtnombgiacfeloaaW24
import Derived.Test.YtnombgiacfeloaaW21
import Derived.Deep.DeepCutAuto
namespace Go.Proofs.Ytnombgiacfeloaa
set_option linter.unusedVariables false
set_option linter.unusedSimpArgs false
open Go.RowKit

theorem ownsBel {w w' : World} {base : Nat} {e : TypeId} {size n : Nat} {v : Value} {xs : List Value} (h : w.ownsRow base e size v n xs) (hb : Below w.heap.size w w') : w'.ownsRow base e size v n xs := by
  refine ⟨h.1, ?_⟩
  rcases h.2 with hn | ⟨g, cap, cur, rfl, hbg, hgg, rest⟩
  · exact .inl hn
  · refine .inr ⟨g, cap, cur, rfl, hbg, ?_, rest⟩
    rw [hb.block g (Array.getElem?_eq_some_iff.1 hgg).1]
    exact hgg

theorem ownsCell {w : World} {base g o n cap : Nat} {xs : List Value} (h : w.ownsRow base 3 1 (.slice (some ⟨g, 0, none⟩) n cap) n xs) {u : Value} (hu : xs[o]? = some u) : w.cell? ⟨g, o, none⟩ = some u := by
  have := h.cells (g := g) rfl o u hu
  rw [Go.WideShapes.add_plain] at this
  rw [← this]
  congr 2
  omega

theorem ownsOne (w : World) (x : Value) : (w.alloc (.cells #[x] 3)).ownsRow w.heap.size 3 1 (.slice (some ⟨w.heap.size, 0, none⟩) 1 1) 1 [x] :=
  ⟨rfl, .inr ⟨_, 1, #[x], rfl, Nat.le_refl _, heap_alloc_new _ _, Nat.le_refl _, by unfold maxLen; omega, by simp, by simp⟩⟩

theorem rdInts {w : World} {base : Nat} {v : Value} {zs : List Int} (h : w.ownsRow base 3 1 v zs.length (zs.map (Value.int .i64))) : Rd w 1 v (ints zs) := by
  refine Rd.of_owns (base := base) (e := 3) (rows := ints zs) ?_ (fun r hr => by obtain ⟨z, -, rfl⟩ := List.mem_map.1 hr; rfl)
  have e2 : (ints zs).flatten = zs.map (Value.int .i64) := by
    unfold ints
    rw [← List.flatMap_def]
    simp [List.map_eq_flatMap]
  rw [ints_length, e2]
  exact h
theorem rdVals {w : World} {base n : Nat} {v : Value} {f : Nat → Int} (h : w.ownsRow base 3 1 v n ((valsTo f n).map (Value.int .i64))) : Rd w 1 v (ints (valsTo f n)) :=
  rdInts (by rw [valsTo_len]; exact h)

/-- One number more on the row. -/
theorem step_ap1 {ops : Array Oper} {o : Oper} {a : Act} {wz : World} {K : Act → World → Prop} {Q : Exit → Act → World → Prop} {E : Prop} (WB : World) (i : TypeInfo) (hi : Try.prog.info? 3 = some i) (hz : i.zero = some (.int .i64 0)) (hsize : i.size = 1) (hby : i.bytes = 8)
    (hgd : o.guard = none) (s y : Operand) (ho : o.op = .call { callee := .builtin .append, args := #[s, y], argTypes := #[25, 25] }) (g n cap : Nat) (xs : List Value) (x : Int) (hs : a.eval s = .slice (some ⟨g, 0, none⟩) n cap) (hn : n ≤ 100)
    (hy : a.eval y = .slice (some ⟨wz.heap.size, 0, none⟩) 1 1)
    (hown : (wz.alloc (.cells #[.int .i64 x] 3)).ownsRow WB.heap.size 3 1 (.slice (some ⟨g, 0, none⟩) n cap) n xs) (hbw : Below WB.heap.size WB (wz.alloc (.cells #[.int .i64 x] 3)))
    (h : ∀ v' w', w'.ownsRow WB.heap.size 3 1 v' (n + 1) (xs ++ [.int .i64 x]) → w'.ownsRow WB.heap.size 3 1 (.slice (some ⟨g, 0, none⟩) n cap) n xs → Below WB.heap.size WB w' → K (a.put o.dst v') w') :
    if Region.wanted o (yielded ops a.tmps) = true then Oper.wp Try.prog o a (wz.alloc (.cells #[.int .i64 x] 3)) K Q else E := by
  refine step_append_int hgd s y ho WB.heap.size i hi hz hsize hby _ n xs hs hown ⟨wz.heap.size, 0, none⟩ 1 x hy ?_ hn hbw.size ?_
  · exact cell_new_lit wz [.int .i64 x] 3 0
  · intro v' w' h1 h2 h3
    exact h v' w' h1 h3 (hbw.trans (grown_below h2 hbw.size fun j e => (hown.lt j e).1))

/-- Weights, and readings of them in newer memory; or none, where a weight becomes less than 0. -/
def RetWorked (n : Nat) (W R : Nat → Int) (w : World) (e : Ending) (w' : World) : Prop :=
  (e = .returned (.tuple #[.slice none 0 0, .slice none 0 0, .bool false]) ∧ (∃ i, i ≤ n ∧ W i < 0) ∧ Below w.heap.size w w') ∨
  ((∀ i, i ≤ n → 0 ≤ W i) ∧ ∃ (l z : Value) (W1 : World), e = .returned (.tuple #[l, z, .bool true]) ∧ Below w.heap.size w W1 ∧ Rd W1 1 l (ints (valsTo W (n + 1))) ∧ Below W1.heap.size W1 w' ∧ w'.ownsRow W1.heap.size 3 1 z (n + 1) ((valsTo R (n + 1)).map (Value.int .i64)))

set_option maxRecDepth 100000 in
set_option maxHeartbeats 4000000 in
theorem worked_any (err : Int) (v : Value) (ss : List Stp) (s0 : Int) (nv : Value) (zs : List Int) (s2 : Int) (w : World) (h : Rd w 4 v (stpRows ss)) (hz : Rd w 1 nv (nums zs)) (hzb : ∀ z ∈ zs, 0 ≤ z ∧ z ≤ 65535) (hs0 : 0 ≤ s0 ∧ s0 ≤ 4294967295) (hs2 : 0 ≤ s2 ∧ s2 ≤ 255) (hL : LineOk err ss) :
    Calls Try.prog 40 #[.agg #[.int .i64 err, v], .agg #[.int .u32 s0, nv, .int .u8 s2]] w (RetWorked ss.length (wkAt s0 ss fun i => turnR zs i) (rdgAt err s0 s2 ss fun i => turnR zs i) w) := by
  obtain ⟨sa, sc, rfl, -, hm, hcell⟩ := h.stps
  have hl6 := hL.len
  obtain ⟨gb, goff, rfl, hgb, hcell⟩ := hcell (by omega)
  have HC := Lib.hid hcell
  have HR := Lib.hid h
  have HZ := Lib.hid hz
  have HZB := Lib.hid hzb
  have ht : ∀ i : Nat, 0 ≤ turnR zs i := fun i => (turnR_bd hzb i).1
  have wl := wk_low (t := fun i => turnR zs i) hL hs0.1 ht
  obtain ⟨WK, hWK⟩ : ∃ WK, (wkAt s0 ss fun i => turnR zs i) = WK := ⟨_, rfl⟩
  have w0 : WK 0 = s0 % 1000001 := by rw [← hWK]; rfl
  have w1 : ∀ i, WK (i + 1) = WK i - (slo ss i + turnR zs i % (shi ss i - slo ss i + 1)) := by rw [← hWK]; intro i; rfl
  have r1 : ∀ i, rdgAt err s0 s2 ss (fun i => turnR zs i) i = if s2 / 2 ^ i % 2 = 1 then -1 else max 0 (min 1000000 (WK i + (-wrongAt err ss i + turnR zs ((i : Int) + 7) % (wrongAt err ss i - -wrongAt err ss i + 1)))) := by rw [← hWK]; intro i; rw [← show ((i + 7 : Nat) : Int) = (i : Int) + 7 from by omega]; rfl
  rw [hWK] at wl
  have SM := Lib.hid (s_bd hL)
  have WL := Lib.hid wl
  have W0 := Lib.hid w0
  have W1 := Lib.hid w1
  have R1 := Lib.hid r1
  have HL := Lib.hid hL
  have m0 := Int.emod_nonneg s0 (by decide : (1000001 : Int) ≠ 0)
  have m1 := Int.emod_lt_of_pos s0 (by decide : (0 : Int) < 1000001)
  rw [hWK]
  generalize rdgAt err s0 s2 ss (fun i => turnR zs i) = RG at *
  clear h hz hzb hcell ht wl w0 w1 r1 hWK hL
  obtain ⟨i0, hi0, hz0, hz1, hz2⟩ := info_parts info3
  go_enter Try.func40, Try.ntmps40
  go_upto_region 1 with fail
  obtain ⟨WB, hWB⟩ : ∃ WB, (w.alloc (.cells #[.int .i64 err, .slice (some ⟨gb, goff, none⟩) ss.length sc] 24)).alloc (.cells #[.int .u32 s0, nv, .int .u8 s2] 62) = WB := ⟨_, rfl⟩
  have c0 : WB.cell? ⟨w.heap.size, 0, none⟩ = some (.int .i64 err) := by rw [← hWB]; simp [go_sem]
  have c1 : WB.cell? ⟨w.heap.size, 1, none⟩ = some (.slice (some ⟨gb, goff, none⟩) ss.length sc) := by rw [← hWB]; simp [go_sem]
  have d0 : WB.cell? ⟨w.heap.size + 1, 0, none⟩ = some (.int .u32 s0) := by rw [← hWB]; simp [go_sem]
  have d1 : WB.cell? ⟨w.heap.size + 1, 1, none⟩ = some nv := by rw [← hWB]; simp [go_sem]
  have d2 : WB.cell? ⟨w.heap.size + 1, 2, none⟩ = some (.int .u8 s2) := by rw [← hWB]; simp [go_sem]
  have hB : Below w.heap.size w WB := by rw [← hWB]; exact below_alloc2 _ _ _
  rw [hWB]
  clear hWB
  go_wp2_with fail
  go_loopw [7, 8] (fun x i wr => ∃ k : Nat, k ≤ ss.length ∧ i = .int .i64 k ∧ Hid (∀ j, j ≤ k → 0 ≤ WK j) ∧ Below WB.heap.size WB wr ∧ wr.ownsRow WB.heap.size 3 1 x (k + 1) ((valsTo WK (k + 1)).map (Value.int .i64))) (fun _ i _ => ss.length - (intOf i).toNat)
  case atStart =>
    refine ⟨0, Nat.zero_le _, rfl, ?_, below_alloc1 _ _, ?_⟩
    · intro j hj
      obtain rfl : j = 0 := by omega
      rw [W0.out]; exact m0
    · have e : (valsTo WK (0 + 1)).map (Value.int .i64) = [.int .i64 (s0 % 1000001)] := by rw [← W0.out]; rfl
      rw [e]
      exact ownsOne WB _
  case round =>
    clear m0 m1
    obtain ⟨k, hk, rfl, A, hW, hown⟩ := hrel
    obtain ⟨g, cap, rfl⟩ := ownsRow_succ hown
    by_cases hlt : k < ss.length
    · have hlt' : (k : Int) < ss.length := by omega
      obtain ⟨-, g2, g3, -⟩ := HC.out k hlt
      have e2 : slo ss k = ss[k].lo := by unfold slo; rw [List.getElem?_eq_getElem hlt]; rfl
      have e3 : shi ss k = ss[k].hi := by unfold shi; rw [List.getElem?_eq_getElem hlt]; rfl
      have sb := SM.out k hlt
      have wb := WL.out k (by omega)
      have wb1 := WL.out (k + 1) hlt
      have wn := W1.out k
      rw [← e2] at g2
      rw [← e3] at g3
      replace g2 := keep hB g2
      replace g3 := keep hB g3
      have tb := turnR_bd HZB.out k
      have cw := ownsCell hown (o := k) (by rw [List.getElem?_map, valsTo_get? _ _ _ (by omega)]; rfl)
      generalize slo ss k = S1 at *
      generalize shi ss k = S2 at *
      have TA := fun w' (h : Rd w' 1 nv (nums zs)) => turn_any zs nv k w' h HZB.out (by omega)
      generalize turnR zs k = T at *
      have em1 := Int.emod_nonneg T (by omega : S2 - S1 + 1 ≠ 0)
      have em2 := Int.emod_lt_of_pos T (by omega : 0 < S2 - S1 + 1)
      have AM := fun w' => among_any S1 S2 T w' (by omega) (by omega) (by omega) tb.1
      have hD : 0 ≤ S1 + T % (S2 - S1 + 1) ∧ S1 + T % (S2 - S1 + 1) ≤ 1000000 := by omega
      generalize S1 + T % (S2 - S1 + 1) = D at *
      have hx : WK k - D = WK (k + 1) := by omega
      have hx0 := hx
      have ki0 : (0 : Int) ≤ k := by omega
      have ki1 : (k : Int) < ((k + 1 : Nat) : Int) := by omega
      have ki2 : (k : Int) < (k : Int) + 1 := by omega
      have hxw : IntKind.i64.wrap (WK k - D) = WK (k + 1) := by rw [hx0]; exact IntWalk.i64_in _ (by omega)
      have HZW := Lib.hid (HZ.out.below hB)
      have OWN := Lib.hid hown
      have HT := Lib.hid TA
      have HA := Lib.hid AM
      have HX := Lib.hid hx
      have LN : (valsTo WK (k + 1)).length = k + 1 := valsTo_len _ _
      clear e2 e3 wn TA AM em1 em2 tb hx hx0
      generalize hwk : WK k = X at *
      have HWK := Lib.hid hwk
      clear hwk
      replace g2 := Lib.hid g2
      replace g3 := Lib.hid g3
      have C1 := Lib.hid c1
      have D1 := Lib.hid d1
      have f1 := keep hW c1
      go_upto_region 5 with fail
      clear f1
      have f1 := keep hW c1
      have f2 := keep hW d1
      have f3 := keep hW g2.out
      have f4 := keep hW g3.out
      clear c1 d1
      go_region_held3 (fun w' => w'.cell? ⟨g, k, none⟩ = some (.int .i64 X) ∧ w'.cell? ⟨gb, goff + k * 4 + 1, none⟩ = some (.int .i64 S1) ∧ w'.cell? ⟨gb, goff + k * 4 + 2, none⟩ = some (.int .i64 S2) ∧ w'.cell? ⟨w.heap.size, 1, none⟩ = some (.slice (some ⟨gb, goff, none⟩) ss.length sc) ∧ w'.cell? ⟨w.heap.size + 1, 1, none⟩ = some nv
          ∧ w'.ownsRow WB.heap.size 3 1 (.slice (some ⟨g, 0, none⟩) (k + 1) cap) (k + 1) ((valsTo WK (k + 1)).map (Value.int .i64)) ∧ Below WB.heap.size WB w')
        (first
          | exact ⟨cwn, keep hbb g2.out, keep hbb g3.out, keep hbb C1.out, keep hbb D1.out, ownk, hbb⟩
          | (go_split_ands; refine ⟨?_, ?_, ?_, ?_, ?_, ?_, ?_⟩ <;> with_reducible first | (refine keep hb ?_; assumption) | exact ownsBel (by assumption) hb | exact belTrans (by assumption) hb)
          | (go_split_ands; refine ⟨?_, ?_, ?_, ?_, ?_, ?_, ?_⟩ <;> with_reducible first | assumption | exact belAlloc (by assumption) _ | exact Below.drew (by assumption) | exact World.ownsRow.alloc (by assumption) _ | exact ownsBel (by assumption) (Below.drew (Below.refl _ _)) | go_keep))
        (first
          | (go_at_call 53; go_split_ands; refine (HT.out _ (HZW.out.below (by with_reducible assumption))).mono ?_; rintro e w3 ⟨rfl, hb⟩)
          | (go_at_call 85; refine (HA.out _).mono ?_; rintro e w3 ⟨rfl, hb⟩)
          | (go_split_ands; refine step_ap1 WB i0 hi0 hz0 hz1 hz2 rfl (.tmp 25) (.tmp 42) rfl g (k + 1) cap _ _ (by rfl) (by omega) (by rfl) (by with_reducible assumption) (by with_reducible assumption) ?_; intro V5 W5 own5 ownk hbb; have cwn := ownsCell ownk (o := k) (by rw [List.getElem?_map, valsTo_get? _ _ _ (by omega), HWK.out]; rfl)))
      rename_i hH2
      have own6 : W5.ownsRow WB.heap.size 3 1 V5 (k + 1 + 1) ((valsTo WK (k + 1 + 1)).map (Value.int .i64)) := by
        rw [valsTo_succ WK (k + 1), List.map_append]
        exact own5
      clear own5 hH2 ownk cwn
      obtain ⟨g5, cap5, rfl⟩ := ownsRow_succ own6
      have c5 := ownsCell own6 (o := k + 1) (by rw [List.getElem?_map, valsTo_get? _ _ _ (by omega)]; rfl)
      have kj1 : (k : Int) + 1 < ((k + 1 + 1 : Nat) : Int) := by omega
      have kj2 : (k : Int) + 1 < (k : Int) + 1 + 1 := by omega
      have kj3 : ((k : Int) + 1).toNat = k + 1 := by omega
      have OWN6 := Lib.hid own6
      clear own6
      generalize hy : WK (k + 1) = Y at *
      have HY := Lib.hid hy
      clear hy
      by_cases hneg : Y < 0
      · go_wp2_with fail
        go_ret3
        exact .inl ⟨rfl, ⟨k + 1, by omega, by rw [HY.out]; exact hneg⟩, belTrans hB (hbb.mono (Nat.le_refl _))⟩
      · have hneg' : 0 ≤ Y := by omega
        clear hneg
        go_wp2_with fail
        go_roundw
        case rel =>
          refine ⟨k + 1, by omega, by go_num, fun j hj => ?_, hbb, OWN6.out⟩
          by_cases e : j = k + 1
          · subst e; rw [HY.out]; exact hneg'
          · exact A.out j (by omega)
        case measure => simp [intOf]; omega
    · obtain rfl : k = ss.length := by omega
      have HA := Lib.hid A.out
      obtain ⟨WL', rfl⟩ : ∃ WL', WL' = wr := ⟨_, rfl⟩
      have rdl := Rd.of_owns (rows := ints (valsTo WK (ss.length + 1))) (by
        have e1 : (ints (valsTo WK (ss.length + 1))).length = ss.length + 1 := by rw [ints_length, valsTo_len]
        have e2 : (ints (valsTo WK (ss.length + 1))).flatten = (valsTo WK (ss.length + 1)).map (Value.int .i64) := by
          unfold ints
          rw [← List.flatMap_def]
          simp [List.map_eq_flatMap]
        rw [e1, e2]
        exact hown) (fun r hr => by obtain ⟨z, -, rfl⟩ := List.mem_map.1 hr; rfl)
      have cws := fun (m : Nat) (hm : m < ss.length + 1) => ownsCell hown (o := m) (u := .int .i64 (WK m)) (by rw [List.getElem?_map, valsTo_get? _ _ _ hm]; rfl)
      have RDL := Lib.hid rdl
      have CWS := Lib.hid cws
      have HWL := Lib.hid (belTrans hB hW)
      have C0 := keep hW c0
      have C1 := keep hW c1
      have D1 := keep hW d1
      have D2 := keep hW d2
      have hgw : WB.heap.size ≤ g := (hown.lt g rfl).1
      clear hown rdl cws A c0 c1 d0 d1 d2 hlt
      go_wp2_with fail
      go_loopw [9, 10] (fun x i wr => ∃ m : Nat, m ≤ ss.length + 1 ∧ i = .int .i64 m ∧ Below WL'.heap.size WL' wr ∧ wr.ownsRow WL'.heap.size 3 1 x m ((valsTo RG m).map (Value.int .i64))) (fun _ i _ => ss.length + 1 - (intOf i).toNat)
      case atStart => exact ⟨0, Nat.zero_le _, rfl, Below.refl _ _, World.ownsRow_nil _ _ _ _⟩
      case round =>
        obtain ⟨m, hm', rfl, hV, hown⟩ := hrel
        have b0 := keep hV C0
        have b1 := keep hV C1
        have b3 := keep hV D1
        have b4 := keep hV D2
        have hzV := hV.size
        by_cases hlt : m < ss.length + 1
        · have hlt1 : (m : Int) < ((ss.length + 1 : Nat) : Int) := by omega
          have hlt2 : (m : Int) < (ss.length : Int) + 1 := by omega
          have cw := keep hV (CWS.out m hlt)
          have wb := WL.out m (by omega)
          have wp := HA.out m (by omega)
          have rg := R1.out m
          have eb := wrong_bd HL.out m
          have tb := turnR_bd HZB.out ((m : Int) + 7)
          have TA := fun w' (h : Rd w' 1 nv (nums zs)) => turn_any zs nv ((m : Int) + 7) w' h HZB.out (by omega)
          have RDS := Lib.hid (HR.out.below (belTrans HWL.out hV))
          have RDZ := Lib.hid (HZ.out.below (belTrans HWL.out hV))
          have WR := fun w' (h : Rd w' 4 (.slice (some ⟨gb, goff, none⟩) ss.length sc) (stpRows ss)) => wrong_any err ss _ m w' h (by omega)
          generalize wrongAt err ss m = E at *
          generalize turnR zs ((m : Int) + 7) = T at *
          have em1 := Int.emod_nonneg T (by omega : E - -E + 1 ≠ 0)
          have em2 := Int.emod_lt_of_pos T (by omega : 0 < E - -E + 1)
          have AM := fun w' => among_any (-E) E T w' (by omega) (by omega) (by omega) tb.1
          have hD : -1000000 ≤ -E + T % (E - -E + 1) ∧ -E + T % (E - -E + 1) ≤ 1000000 := by omega
          generalize -E + T % (E - -E + 1) = D at *
          generalize hwk : WK m = X at *
          have HT := Lib.hid TA
          have HAM := Lib.hid AM
          have HWR := Lib.hid WR
          have RGM := Lib.hid rg
          have OWN := Lib.hid hown
          clear TA AM WR em1 em2 tb rg hown hwk
          have hwE : IntKind.i64.wrap (-E) = -E := IntWalk.i64_in _ (by omega)
          have hw7 : IntKind.i64.wrap ((m : Int) + 7) = (m : Int) + 7 := IntWalk.i64_in _ (by omega)
          have hwS : IntKind.i64.wrap (X + D) = X + D := IntWalk.i64_in _ (by omega)
          go_upto_region 13 with (go_at_call 86; refine (HWR.out _ RDS.out).mono ?_; rintro e w3 ⟨rfl, hb⟩)
          replace b1 := keep hb b1
          replace b3 := keep hb b3
          replace b4 := keep hb b4
          replace cw := keep hb cw
          replace RDZ := Lib.hid (RDZ.out.below hb)
          replace OWN := Lib.hid (ownsBel OWN.out hb)
          replace hV := belTrans hV hb
          clear hb b0 b1 RDS HWR
          have VV := Lib.hid hV
          clear hV
          go_region_held3 (fun w' => w'.cell? ⟨g, m, none⟩ = some (.int .i64 X) ∧ w'.cell? ⟨w.heap.size + 1, 1, none⟩ = some nv ∧ Below w3.heap.size w3 w')
            (first
              | (go_split_ands; refine ⟨?_, ?_, ?_⟩ <;> with_reducible first | (refine keep hb ?_; assumption) | exact belTrans (by assumption) hb)
              | (go_split_ands; refine ⟨?_, ?_, ?_⟩ <;> with_reducible first | assumption | exact belAlloc (by assumption) _ | exact Below.drew (by assumption) | exact Below.drew (Below.refl _ _) | exact Below.refl _ _ | go_keep))
            (first
              | (go_at_call 38; refine (span_any _ _ _).mono ?_; rintro e w4 ⟨rfl, hb⟩)
              | (go_at_call 53; go_split_ands; refine (HT.out _ (RDZ.out.below (by with_reducible assumption))).mono ?_; rintro e w4 ⟨rfl, hb⟩)
              | (go_at_call 85; refine (HAM.out _).mono ?_; rintro e w4 ⟨rfl, hb⟩))
          rename_i hH2
          have hb := hH2.2.2
          replace b4 := keep hb b4
          replace VV := Lib.hid (belTrans VV.out hb)
          replace OWN := Lib.hid (ownsBel OWN.out hb)
          clear hb hH2 HT HAM RDZ b3 cw
          go_upto_region 14 with fail
          go_upto_if 79 with fail
          obtain ⟨w5, hw5⟩ : ∃ w5, w5 = w4 := ⟨_, rfl⟩
          have HW5 := Lib.hid hw5
          clear hw5
          have tm : (s2 / 2 ^ m).tmod 2 = s2 / 2 ^ m % 2 := Int.tmod_eq_emod_of_nonneg (Int.ediv_nonneg (by omega) (Int.pow_nonneg (by decide)))
          have TM := Lib.hid tm
          clear tm b4
          go_cut [12] (fun x wx => x = .int .i64 (RG m) ∧ wx = w5)
          case first =>
            by_cases hsk : s2 / 2 ^ m % 2 = 1
            · have t3 : ((s2 / 2 ^ m).tmod 2 == 1) = true := by rw [TM.out, beq_iff_eq]; exact hsk
              have HSK := Lib.hid hsk
              clear hsk
              go_wp2_with fail
              go_meet
              exact ⟨by rw [RGM.out, if_pos HSK.out], HW5.out.symm⟩
            · have t3 : ((s2 / 2 ^ m).tmod 2 == 1) = false := by rw [TM.out, beq_eq_false_iff_ne]; exact hsk
              have HSK := Lib.hid hsk
              clear hsk
              go_wp2_with fail
              all_goals
                go_meet
                exact ⟨by rw [RGM.out, if_neg HSK.out]; congr 1; omega, HW5.out.symm⟩
          case rest =>
            obtain ⟨rfl, rfl⟩ := hcut
            have e5 := HW5.out
            subst e5
            have ev : (valsTo RG (m + 1)).map (Value.int .i64) = (valsTo RG m).map (Value.int .i64) ++ [.int .i64 (RG m)] := by rw [valsTo_succ, List.map_append]; rfl
            have EV := Lib.hid ev
            have own := OWN.out
            have lm : ((valsTo RG m).map (Value.int .i64)).length = m := by rw [List.length_map, valsTo_len]
            clear ev RGM TM HW5
            generalize RG m = RV at *
            have hVz := VV.out.size
            go_wp2_with (at_builtin; refine wpList_append_own _ rfl _ _ 25 rfl WL'.heap.size 3 i0 (.int .i64 0) 1 8 Try.underlying25 hi0 hz0 hz1 hz2 rfl (by decide) _ _ _ rfl (own.alloc _) ⟨_, 0, none⟩ 1 1 [.int .i64 RV] rfl rfl ?c1 ?c2 ?c3 ?c4 ?c5 ?_)
            case c1 => exact cells_new _ _ _ _ rfl
            case c2 => simp [Value.oneCell']
            case c3 => unfold maxLen; omega
            case c4 => omega
            case c5 => simp; omega
            intro x' w6 ho6 hg6 _
            have hBg := grown_below (B := WL'.heap.size) hg6 (by simp; omega) (fun b e => (own.lt _ e).1)
            have hB6 := (VV.out.alloc hVz (.cells #[.int .i64 RV] 3)).trans hBg
            clear own hg6 hBg OWN VV
            go_wp2_with fail
            go_roundw
            case rel => exact ⟨m + 1, by omega, by go_num, hB6, by rw [EV.out]; exact ho6⟩
            case measure => simp [intOf]; omega
        · obtain rfl : m = ss.length + 1 := by omega
          have HO := Lib.hid hown
          clear hown hlt b0 b1 b3 b4
          go_wp2_with fail
          go_ret3
          exact .inr ⟨HA.out, _, _, WL', rfl, HWL.out, RDL.out, hV, HO.out⟩

end Go.Proofs.Ytnombgiacfeloaa
