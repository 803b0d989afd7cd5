/- The walk of the reference's 'most': it hands back the tightened table, or says that there is no truth. -/
import Derived.Test.YtnombgiacfeloaaM28
import Derived.Test.YtnombgiacfeloaaW24
import Derived.Deep.DeepCutAuto
import Derived.BigQuiet
import Derived.StillTailTactics
namespace Go.Proofs.Ytnombgiacfeloaa
set_option linter.unusedVariables false
set_option linter.unusedSimpArgs false
open Go.RowKit

/-- The table of the reference. -/
def closQ (err : Int) (ss : List Stp) (rs : List Int) : Tab := fun a b => closed err ss rs (sx rs.length a) (sx rs.length b)

theorem run_field1 (a b : Int) (w : World) : Sem.run Try.prog (Instr.field 35 (Value.agg #[Value.int .i64 a, Value.int .i64 b]) 1) w = Result.ok (Value.int .i64 b) w := by
  simp [go_sem, Instr.field, asAgg]
theorem run_field0 (a b : Int) (w : World) : Sem.run Try.prog (Instr.field 35 (Value.agg #[Value.int .i64 a, Value.int .i64 b]) 0) w = Result.ok (Value.int .i64 a) w := by
  simp [go_sem, Instr.field, asAgg]

/-- What 'most' hands back. -/
def RetMost (err : Int) (ss : List Stp) (rs : List Int) (w : World) (e : Ending) (w' : World) : Prop := Below w.heap.size w w' ∧
  ((sound (closed err ss rs) = false ∧ e = .returned (.tuple #[.slice none 0 0, .bool false])) ∨
   (sound (closed err ss rs) = true ∧ ∃ (v : Value) (g : Nat) (R C : Nat → Nat), e = .returned (.tuple #[v, .bool true]) ∧ RdTab w' v (rs.length + 1) (closQ err ss rs) g R C))

/-- How many passes there can be. -/
def msr (R : Nat → Nat) (n : Nat) (ag : Value) (w : World) : Nat :=
  2 * (tabSum (fun a b => intOf ((w.cell? ⟨R a, b, none⟩).getD (.int .i64 0))) n n + 16000000 * n).toNat + (match ag with | .bool true => 1 | _ => 0)

theorem rowSum_congr {M N : Tab} {a : Nat} : ∀ {k : Nat}, (∀ b, b < k → M a b = N a b) → rowSum M a k = rowSum N a k
  | 0, _ => rfl
  | k + 1, h => by rw [rowSum, rowSum, rowSum_congr (fun b hb => h b (by omega)), h k (by omega)]
theorem tabSum_congr {M N : Tab} {n : Nat} : ∀ {i : Nat}, (∀ a b, a < i → b < n → M a b = N a b) → tabSum M n i = tabSum N n i
  | 0, _ => rfl
  | i + 1, h => by rw [tabSum, tabSum, tabSum_congr (fun a b ha hb => h a b (by omega) hb), rowSum_congr (fun b hb => h i b (by omega) hb)]

theorem msr_eq {w : World} {base m : Nat} {v : Value} {R C : Nat → Nat} {M : Tab} (h : Mats w base v m m R C M) (b : Bool) : msr R m (.bool b) w = 2 * (tabSum M m m + 16000000 * m).toNat + (if b then 1 else 0) := by
  unfold msr
  rw [tabSum_congr (N := M) (fun a c ha hc => by show intOf ((w.cell? ⟨R a, c, none⟩).getD _) = _; rw [h.cell a c ha hc]; rfl)]
  cases b <;> rfl

/-- A pass lowers the measure. -/
theorem msr_lt {w w' : World} {base m : Nat} {v : Value} {R C : Nat → Nat} {M M' : Tab} (h : Mats w base v m m R C M) (h' : Mats w' base v m m R C M') (b : Bool) (hm : m ≤ 8) (hlo : ∀ a b, a < m → b < m → -2000000 ≤ M a b)
    (hlo' : b = true → ∀ a b, a < m → b < m → -2000000 ≤ M' a b) (hs : tabSum M' m m ≤ tabSum M m m) (hs' : b = true → tabSum M' m m < tabSum M m m) : msr R m (.bool b) w' < msr R m (.bool true) w := by
  rw [msr_eq h, msr_eq h']
  have g1 := tabSum_ge M m hm m (fun a c ha hc => hlo a c ha hc)
  cases b with
  | false => simp; omega
  | true =>
    have g2 := tabSum_ge M' m hm m (fun a c ha hc => hlo' rfl a c ha hc)
    have := hs' rfl
    simp
    omega

set_option maxRecDepth 100000 in
set_option maxHeartbeats 8000000 in
theorem most_any (err : Int) (ss : List Stp) (rs : List Int) (v rv : Value) (w : World) (h : Rd w 4 v (stpRows ss)) (hr : Rd w 1 rv (ints rs)) (hL : LineOk err ss) (hR : ReadOk ss rs) :
    Calls Try.prog 67 #[.agg #[.int .i64 err, v], rv] w (RetMost err ss rs w) := by
  have hlr := hR.len
  have hl6 := hL.len
  have HR := Lib.hid h
  have HQ := Lib.hid hr
  obtain ⟨sa, sc, rfl, -, hm, hcell⟩ := h.stps
  obtain ⟨gb, goff, rfl, hgb, hcell⟩ := hcell (by omega)
  obtain ⟨ra, rc, hrv, -, hm', -⟩ := hr.ints
  have rda := fun w' h h' p hp => read_any err ss rs (.slice (some ⟨gb, goff, none⟩) ss.length sc) rv p w' h h' hL hR hp
  have tq := fun a b ha hb => tabQ_eq hL hR a b ha hb
  have tb := fun a b => tabQ_bd hL hR a b
  have tp := tabQ_top hL hR
  have tn := fun (M : Tab) (h : Tight (tabQ err ss rs) rs.length M) (i : Nat) (hi : i ≤ rs.length) (hd : M i i < 0) => tight_none hL hR h hi hd
  have td := fun (M : Tab) (h : Done (tabQ err ss rs) rs.length M) => done_eq hL hR h
  have lb := fun i hi => lo_bd hL hR i hi
  have hb' := fun i hi => hi_bd hL hR i hi
  have sb := fun i hi => s_bd hL i hi
  have RDA := Lib.hid rda
  have TQ := Lib.hid tq
  have TBD := Lib.hid tb
  have TP := Lib.hid tp
  have TN := Lib.hid tn
  have TD := Lib.hid td
  have LB := Lib.hid lb
  have HB' := Lib.hid hb'
  have SB := Lib.hid sb
  have HC := Lib.hid hcell
  clear rda tq tb tp tn td lb hb' sb hcell h hr hL hR
  clear hcell
  have HLR := Lib.hid hlr
  have hn7 : rs.length ≤ 7 := by omega
  clear hlr hgb
  generalize hT : tabQ err ss rs = T at *
  clear hT
  obtain ⟨i3, hi3, z30, z31, z32⟩ := info_parts info3z
  obtain ⟨i25, hi25, z250, z251, z252⟩ := info_parts info25z
  subst hrv
  go_enter Try.func67, Try.ntmps67
  go_upto_region 1 with fail
  obtain ⟨W0, hW0⟩ : ∃ W0, w.alloc (.cells #[.int .i64 err, .slice (some ⟨gb, goff, none⟩) ss.length sc] 24) = W0 := ⟨_, rfl⟩
  have c0 : W0.cell? ⟨w.heap.size, 0, none⟩ = some (.int .i64 err) := by rw [← hW0]; simp [go_sem]
  have c1 : W0.cell? ⟨w.heap.size, 1, none⟩ = some (.slice (some ⟨gb, goff, none⟩) ss.length sc) := by rw [← hW0]; simp [go_sem]
  have hB : Below w.heap.size w W0 := by rw [← hW0]; exact below_alloc1 _ _
  rw [hW0]
  clear hW0
  go_wp2_with fail
  go_loopw [7, 8] (fun x i wr => ∃ k : Nat, k ≤ rs.length + 1 ∧ i = .int .i64 k ∧ Below W0.heap.size W0 wr ∧ ∃ R C, Mats wr W0.heap.size x k (rs.length + 1) R C T) (fun _ i _ => rs.length + 1 - (intOf i).toNat)
  case atStart => exact ⟨0, Nat.zero_le _, rfl, Below.refl _ _, fun _ => 0, fun _ => 0, Mats.nil0 _ _ _ _ _ _⟩
  case round =>
    obtain ⟨i, hi, rfl, hW, R, C, hM⟩ := hrel
    by_cases hlt : i < rs.length + 1
    · have hltI : (i : Int) ≤ (rs.length : Int) := by omega
      obtain ⟨W1, rfl⟩ : ∃ W1, W1 = wr := ⟨_, rfl⟩
      have HM := Lib.hid hM
      have HW := Lib.hid hW
      have HB1 := Lib.hid (belT hB hW)
      have e0 := keep hW c0
      have e1 := keep hW c1
      clear hM hW c0 c1
      go_wp2_with fail
      go_loopw [9, 10] (fun x j wr => ∃ m : Nat, m ≤ rs.length + 1 ∧ j = .int .i64 m ∧ Below W1.heap.size W1 wr ∧ wr.ownsRow W1.heap.size 3 1 x m (rowVals (T i) m)) (fun _ j _ => rs.length + 1 - (intOf j).toNat)
      case atStart => exact ⟨0, Nat.zero_le _, rfl, Below.refl _ _, World.ownsRow_nil _ _ _ _⟩
      case round =>
        obtain ⟨m, hm1, rfl, hV, hown⟩ := hrel
        by_cases hltm : m < rs.length + 1
        · have hltM : (m : Int) ≤ (rs.length : Int) := by omega
          obtain ⟨wz, rfl⟩ : ∃ wz, wz = wr := ⟨_, rfl⟩
          have own := Lib.hid hown
          have HBz := Lib.hid (belT HB1.out hV)
          have HVz := Lib.hid hV
          have f0 := keep hV e0
          have f1 := keep hV e1
          clear hown hV e0 e1 HM HW HB1
          go_upto_if 30 with fail
          go_cut [11] (fun x wx => ∃ z : Int, x = .int .i64 z ∧ Hid (z = if i = m then 0 else 2000000) ∧ wz = wx)
          case first =>
            by_cases hP : i = m
            · have tP : ((i : Int) == (m : Int)) = true := by rw [beq_iff_eq]; omega
              have HPP := Lib.hid hP
              clear hP
              go_wp2_with fail
              go_meet
              exact ⟨_, rfl, Lib.hid (by rw [if_pos HPP.out]), rfl⟩
            · have tP : ((i : Int) == (m : Int)) = false := by rw [beq_eq_false_iff_ne]; omega
              have HPP := Lib.hid hP
              clear hP
              go_wp2_with fail
              go_meet
              exact ⟨_, rfl, Lib.hid (by rw [if_neg HPP.out]), rfl⟩
          case rest =>
            obtain ⟨z1, rfl, Hz1, rfl⟩ := hcut
            go_upto_region 13 with fail
            go_cut [38] (fun s wx => ∃ b : Bool, s = .bool b ∧ Hid (b = decide (i < rs.length ∧ m = rs.length)) ∧ wz = wx)
            case first =>
              by_cases h1 : i < rs.length
              · have th1 : (i : Int) < (rs.length : Int) := by omega
                have h1H := Lib.hid h1
                clear h1
                by_cases h2 : m = rs.length
                · have th2 : ((m : Int) == (rs.length : Int)) = true := by rw [beq_iff_eq]; omega
                  have h2H := Lib.hid h2
                  clear h2
                  go_wp2_with fail
                  go_meet
                  exact ⟨true, rfl, Lib.hid (decide_eq_true ⟨h1H.out, h2H.out⟩).symm, rfl⟩
                · have th2 : ((m : Int) == (rs.length : Int)) = false := by rw [beq_eq_false_iff_ne]; omega
                  have hnp : Hid (¬ (i < rs.length ∧ m = rs.length)) := Lib.hid (by have := h1H.out; omega)
                  clear h2
                  go_wp2_with fail
                  go_meet
                  exact ⟨false, by first | rfl | (congr 1; exact decide_eq_false (by omega)), Lib.hid (decide_eq_false hnp.out).symm, rfl⟩
              · have th1 : (rs.length : Int) ≤ (i : Int) := by omega
                have hnp : Hid (¬ (i < rs.length ∧ m = rs.length)) := Lib.hid (by omega)
                clear h1
                go_wp2_with fail
                go_meet
                exact ⟨false, by first | rfl | (congr 1; exact decide_eq_false (by omega)), Lib.hid (decide_eq_false hnp.out).symm, rfl⟩
            case rest =>
              obtain ⟨bP, rfl, HbP, rfl⟩ := hcut
              go_upto_if 38 with fail
              go_cut [11] (fun x wx => ∃ z : Int, x = .int .i64 z ∧ Hid (z = if i < rs.length ∧ m = rs.length then hiAt err ss rs i else z1) ∧ Below wz.heap.size wz wx)
              case first =>
                by_cases hP : i < rs.length ∧ m = rs.length
                · obtain rfl : bP = true := by rw [HbP.out]; exact decide_eq_true hP
                  clear HbP
                  have HPP := Lib.hid hP
                  clear hP
                  go_wp2_with fail
                  refine (RDA.out _ (HR.out.below HBz.out) (HQ.out.below HBz.out) i HPP.out.1).mono ?_
                  rintro e w3 ⟨rfl, hb⟩
                  have rf := fun w => run_field1 (loAt err ss rs i) (hiAt err ss rs i) w
                  go_wp2_with fail
                  go_meet
                  exact ⟨_, rfl, Lib.hid (by rw [if_pos HPP.out]), hb⟩
                · obtain rfl : bP = false := by rw [HbP.out]; exact decide_eq_false hP
                  clear HbP
                  have HPP := Lib.hid hP
                  clear hP
                  go_wp2_with fail
                  go_meet
                  exact ⟨_, rfl, Lib.hid (by rw [if_neg HPP.out]), Below.refl _ _⟩
              case rest =>
                obtain ⟨z2, rfl, Hz2, hb⟩ := hcut
                clear HbP
                replace f0 := keep hb f0
                replace f1 := keep hb f1
                replace own := Lib.hid (ownsBw own.out hb)
                replace HBz := Lib.hid (belT HBz.out hb)
                replace HVz := Lib.hid (belT HVz.out hb)
                clear hb
                obtain ⟨wz, rfl⟩ : ∃ wz', wz' = wc := ⟨_, rfl⟩
                go_upto_region 15 with fail
                go_cut [51] (fun s wx => ∃ b : Bool, s = .bool b ∧ Hid (b = decide (i = rs.length ∧ m < rs.length)) ∧ wz = wx)
                case first =>
                  by_cases h1 : i = rs.length
                  · have th1 : ((i : Int) == (rs.length : Int)) = true := by rw [beq_iff_eq]; omega
                    have h1H := Lib.hid h1
                    clear h1
                    by_cases h2 : m < rs.length
                    · have th2 : (m : Int) < (rs.length : Int) := by omega
                      have h2H := Lib.hid h2
                      clear h2
                      go_wp2_with fail
                      go_meet
                      exact ⟨true, rfl, Lib.hid (decide_eq_true ⟨h1H.out, h2H.out⟩).symm, rfl⟩
                    · have th2 : (rs.length : Int) ≤ (m : Int) := by omega
                      have hnp : Hid (¬ (i = rs.length ∧ m < rs.length)) := Lib.hid (by have := h1H.out; omega)
                      clear h2
                      go_wp2_with fail
                      go_meet
                      exact ⟨false, by first | rfl | (congr 1; exact decide_eq_false (by omega)), Lib.hid (decide_eq_false hnp.out).symm, rfl⟩
                  · have th1 : ((i : Int) == (rs.length : Int)) = false := by rw [beq_eq_false_iff_ne]; omega
                    have hnp : Hid (¬ (i = rs.length ∧ m < rs.length)) := Lib.hid (by omega)
                    clear h1
                    go_wp2_with fail
                    go_meet
                    exact ⟨false, by first | rfl | (congr 1; exact decide_eq_false (by omega)), Lib.hid (decide_eq_false hnp.out).symm, rfl⟩
                case rest =>
                  obtain ⟨bP, rfl, HbP, rfl⟩ := hcut
                  go_upto_if 51 with fail
                  go_cut [11] (fun x wx => ∃ z : Int, x = .int .i64 z ∧ Hid (z = if i = rs.length ∧ m < rs.length then -loAt err ss rs m else z2) ∧ Below wz.heap.size wz wx)
                  case first =>
                    by_cases hP : i = rs.length ∧ m < rs.length
                    · obtain rfl : bP = true := by rw [HbP.out]; exact decide_eq_true hP
                      clear HbP
                      have HPP := Lib.hid hP
                      clear hP
                      have hw : IntKind.i64.wrap (-loAt err ss rs m) = -loAt err ss rs m := IntWalk.i64_in _ (by have := LB.out m HPP.out.2; omega)
                      go_wp2_with fail
                      refine (RDA.out _ (HR.out.below HBz.out) (HQ.out.below HBz.out) m HPP.out.2).mono ?_
                      rintro e w3 ⟨rfl, hb⟩
                      have rf := fun w => run_field0 (loAt err ss rs m) (hiAt err ss rs m) w
                      go_wp2_with fail
                      go_meet
                      exact ⟨_, rfl, Lib.hid (by rw [if_pos HPP.out]), hb⟩
                    · obtain rfl : bP = false := by rw [HbP.out]; exact decide_eq_false hP
                      clear HbP
                      have HPP := Lib.hid hP
                      clear hP
                      go_wp2_with fail
                      go_meet
                      exact ⟨_, rfl, Lib.hid (by rw [if_neg HPP.out]), Below.refl _ _⟩
                  case rest =>
                    obtain ⟨z3, rfl, Hz3, hb⟩ := hcut
                    clear HbP
                    replace f0 := keep hb f0
                    replace f1 := keep hb f1
                    replace own := Lib.hid (ownsBw own.out hb)
                    replace HBz := Lib.hid (belT HBz.out hb)
                    replace HVz := Lib.hid (belT HVz.out hb)
                    clear hb
                    obtain ⟨wz, rfl⟩ : ∃ wz', wz' = wc := ⟨_, rfl⟩
                    go_upto_region 17 with fail
                    go_cut [71] (fun s wx => ∃ b : Bool, s = .bool b ∧ Hid (b = decide (i < rs.length ∧ m = i + 1 ∧ m < rs.length)) ∧ wz = wx)
                    case first =>
                      by_cases h1 : i < rs.length
                      · have th1 : (i : Int) < (rs.length : Int) := by omega
                        have h1H := Lib.hid h1
                        clear h1
                        by_cases h2 : m = i + 1
                        · have th2 : ((m : Int) == (i : Int) + 1) = true := by rw [beq_iff_eq]; omega
                          have h2H := Lib.hid h2
                          clear h2
                          by_cases h3 : m < rs.length
                          · have th3 : (m : Int) < (rs.length : Int) := by omega
                            have h3H := Lib.hid h3
                            clear h3
                            go_wp2_with fail
                            go_meet
                            exact ⟨true, rfl, Lib.hid (decide_eq_true ⟨h1H.out, h2H.out, h3H.out⟩).symm, rfl⟩
                          · have th3 : (rs.length : Int) ≤ (m : Int) := by omega
                            have hnp : Hid (¬ (i < rs.length ∧ m = i + 1 ∧ m < rs.length)) := Lib.hid (by have := h1H.out; have := h2H.out; omega)
                            clear h3
                            go_wp2_with fail
                            go_meet
                            exact ⟨false, by first | rfl | (congr 1; exact decide_eq_false (by omega)), Lib.hid (decide_eq_false hnp.out).symm, rfl⟩
                        · have th2 : ((m : Int) == (i : Int) + 1) = false := by rw [beq_eq_false_iff_ne]; omega
                          have hnp : Hid (¬ (i < rs.length ∧ m = i + 1 ∧ m < rs.length)) := Lib.hid (by have := h1H.out; omega)
                          clear h2
                          go_wp2_with fail
                          go_meet
                          exact ⟨false, by first | rfl | (congr 1; exact decide_eq_false (by omega)), Lib.hid (decide_eq_false hnp.out).symm, rfl⟩
                      · have th1 : (rs.length : Int) ≤ (i : Int) := by omega
                        have hnp : Hid (¬ (i < rs.length ∧ m = i + 1 ∧ m < rs.length)) := Lib.hid (by omega)
                        clear h1
                        go_wp2_with fail
                        go_meet
                        exact ⟨false, by first | rfl | (congr 1; exact decide_eq_false (by omega)), Lib.hid (decide_eq_false hnp.out).symm, rfl⟩
                    case rest =>
                      obtain ⟨bP, rfl, HbP, rfl⟩ := hcut
                      go_upto_if 71 with fail
                      go_cut [11] (fun x wx => ∃ z : Int, x = .int .i64 z ∧ Hid (z = if i < rs.length ∧ m = i + 1 ∧ m < rs.length then shi ss i else z3) ∧ Below wz.heap.size wz wx)
                      case first =>
                        by_cases hP : i < rs.length ∧ m = i + 1 ∧ m < rs.length
                        · obtain rfl : bP = true := by rw [HbP.out]; exact decide_eq_true hP
                          clear HbP
                          have HPP := Lib.hid hP
                          clear hP
                          have hps : i < ss.length := by have := HPP.out; have := HLR.out; omega
                          have e2 : shi ss i = ss[i].hi := by unfold shi; rw [List.getElem?_eq_getElem hps]; rfl
                          obtain ⟨-, -, g3, -⟩ := HC.out i hps
                          rw [← e2] at g3
                          replace g3 := keep HBz.out g3
                          have i1 : (i : Int) < (ss.length : Int) := by omega
                          clear e2
                          go_wp2_with fail
                          go_meet
                          exact ⟨_, rfl, Lib.hid (by rw [if_pos HPP.out]), Below.refl _ _⟩
                        · obtain rfl : bP = false := by rw [HbP.out]; exact decide_eq_false hP
                          clear HbP
                          have HPP := Lib.hid hP
                          clear hP
                          go_wp2_with fail
                          go_meet
                          exact ⟨_, rfl, Lib.hid (by rw [if_neg HPP.out]), Below.refl _ _⟩
                      case rest =>
                        obtain ⟨z4, rfl, Hz4, hb⟩ := hcut
                        clear HbP
                        replace f0 := keep hb f0
                        replace f1 := keep hb f1
                        replace own := Lib.hid (ownsBw own.out hb)
                        replace HBz := Lib.hid (belT HBz.out hb)
                        replace HVz := Lib.hid (belT HVz.out hb)
                        clear hb
                        obtain ⟨wz, rfl⟩ : ∃ wz', wz' = wc := ⟨_, rfl⟩
                        go_upto_region 19 with fail
                        go_cut [87] (fun s wx => ∃ b : Bool, s = .bool b ∧ Hid (b = decide (i < rs.length ∧ (m : Int) = (i : Int) - 1)) ∧ wz = wx)
                        case first =>
                          by_cases h1 : i < rs.length
                          · have th1 : (i : Int) < (rs.length : Int) := by omega
                            have h1H := Lib.hid h1
                            clear h1
                            by_cases h2 : (m : Int) = (i : Int) - 1
                            · have th2 : ((m : Int) == (i : Int) - 1) = true := by rw [beq_iff_eq]; omega
                              have h2H := Lib.hid h2
                              clear h2
                              go_wp2_with fail
                              go_meet
                              exact ⟨true, rfl, Lib.hid (decide_eq_true ⟨h1H.out, h2H.out⟩).symm, rfl⟩
                            · have th2 : ((m : Int) == (i : Int) - 1) = false := by rw [beq_eq_false_iff_ne]; omega
                              have hnp : Hid (¬ (i < rs.length ∧ (m : Int) = (i : Int) - 1)) := Lib.hid (by have := h1H.out; omega)
                              clear h2
                              go_wp2_with fail
                              go_meet
                              exact ⟨false, by first | rfl | (congr 1; exact decide_eq_false (by omega)), Lib.hid (decide_eq_false hnp.out).symm, rfl⟩
                          · have th1 : (rs.length : Int) ≤ (i : Int) := by omega
                            have hnp : Hid (¬ (i < rs.length ∧ (m : Int) = (i : Int) - 1)) := Lib.hid (by omega)
                            clear h1
                            go_wp2_with fail
                            go_meet
                            exact ⟨false, by first | rfl | (congr 1; exact decide_eq_false (by omega)), Lib.hid (decide_eq_false hnp.out).symm, rfl⟩
                        case rest =>
                          obtain ⟨bP, rfl, HbP, rfl⟩ := hcut
                          go_upto_if 87 with fail
                          go_cut [11] (fun x wx => ∃ z : Int, x = .int .i64 z ∧ Hid (z = if i < rs.length ∧ (m : Int) = (i : Int) - 1 then -slo ss m else z4) ∧ Below wz.heap.size wz wx)
                          case first =>
                            by_cases hP : i < rs.length ∧ (m : Int) = (i : Int) - 1
                            · obtain rfl : bP = true := by rw [HbP.out]; exact decide_eq_true hP
                              clear HbP
                              have HPP := Lib.hid hP
                              clear hP
                              have hps : m < ss.length := by have := HPP.out; have := HLR.out; omega
                              have e2 : slo ss m = ss[m].lo := by unfold slo; rw [List.getElem?_eq_getElem hps]; rfl
                              obtain ⟨-, g2, -, -⟩ := HC.out m hps
                              rw [← e2] at g2
                              replace g2 := keep HBz.out g2
                              have i1 : (m : Int) < (ss.length : Int) := by omega
                              have hw : IntKind.i64.wrap (-slo ss m) = -slo ss m := IntWalk.i64_in _ (by have := SB.out m hps; omega)
                              clear e2
                              go_wp2_with fail
                              go_meet
                              exact ⟨_, rfl, Lib.hid (by rw [if_pos HPP.out]), Below.refl _ _⟩
                            · obtain rfl : bP = false := by rw [HbP.out]; exact decide_eq_false hP
                              clear HbP
                              have HPP := Lib.hid hP
                              clear hP
                              go_wp2_with fail
                              go_meet
                              exact ⟨_, rfl, Lib.hid (by rw [if_neg HPP.out]), Below.refl _ _⟩
                          case rest =>
                            obtain ⟨z5, rfl, Hz5, hb⟩ := hcut
                            clear HbP
                            replace f0 := keep hb f0
                            replace f1 := keep hb f1
                            replace own := Lib.hid (ownsBw own.out hb)
                            replace HBz := Lib.hid (belT HBz.out hb)
                            replace HVz := Lib.hid (belT HVz.out hb)
                            clear hb
                            obtain ⟨wz, rfl⟩ : ∃ wz', wz' = wc := ⟨_, rfl⟩
                            have hz : T i m = z5 := by rw [TQ.out i m (by omega) (by omega), Hz5.out, Hz4.out, Hz3.out, Hz2.out, Hz1.out]
                            clear Hz1 Hz2 Hz3 Hz4 Hz5
                            have ev : rowVals (T i) (m + 1) = rowVals (T i) m ++ [.int .i64 z5] := by rw [rowVals_succ, hz]
                            have EV := Lib.hid ev
                            have ow := own.out
                            have lm : (rowVals (T i) m).length = m := rowVals_len _ _
                            have hVz := HVz.out.size
                            clear ev hz own f0 f1
                            go_wp2_with (at_builtin; refine wpList_append_own _ rfl _ _ 25 rfl W1.heap.size 3 i3 (.int .i64 0) 1 8 Try.underlying25 hi3 z30 z31 z32 rfl (by decide) _ _ _ rfl (ow.alloc _) ⟨_, 0, none⟩ 1 1 [.int .i64 z5] rfl rfl ?c1 ?c2 ?c3 ?c4 ?c5 ?_)
                            case c1 => exact cells_new _ _ _ _ rfl
                            case c2 => simp [Value.oneCell']
                            case c3 => unfold maxLen; omega
                            case c4 => omega
                            case c5 => simp; omega
                            intro x' w6 ho6 hg6 _
                            have hBg := grown_below (B := W1.heap.size) hg6 (by simp; omega) (fun b e => (ow.lt _ e).1)
                            have hB6 := (HVz.out.alloc hVz (.cells #[.int .i64 z5] 3)).trans hBg
                            clear ow hg6 hBg HVz
                            go_wp2_with fail
                            go_roundw
                            case rel => exact ⟨m + 1, by omega, by go_num, hB6, by rw [EV.out]; exact ho6⟩
                            case measure => simp [intOf]; omega
        · obtain rfl : m = rs.length + 1 := by omega
          obtain ⟨g, cap, rfl⟩ := ownsRow_succ hown
          have HO := Lib.hid hown
          have HV := Lib.hid hV
          have hmv := HM.out.below hV
          have hgW := (hown.lt g rfl).1
          have hVs := hV.size
          have hWs := HW.out.size
          have ow := hmv.out
          have lm : (rowPtrs R C (rs.length + 1) i).length = i := rowPtrs_len _ _ _ _
          clear hown hV hltm e0 e1
          go_wp2_with (at_builtin; refine wpList_append_own _ rfl _ _ 122 rfl W0.heap.size 25 i25 (.slice none 0 0) 1 24 Try.underlying122 hi25 z250 z251 z252 rfl (by decide) _ _ _ rfl (ow.alloc _) ⟨_, 0, none⟩ 1 1 [.slice (some ⟨g, 0, none⟩) (rs.length + 1) cap] rfl rfl ?c1 ?c2 ?c3 ?c4 ?c5 ?_)
          case c1 => exact cells_new _ _ _ _ rfl
          case c2 => simp [Value.oneCell']
          case c3 => unfold maxLen; omega
          case c4 => omega
          case c5 => simp; omega
          intro x' w6 ho6 hg6 _
          have hBg := grown_below (B := W0.heap.size) hg6 (by simp; omega) (fun b e => (ow.lt _ e).1)
          have hB6 := (belT HW.out (belT HV.out (below_alloc1 _ (.cells #[.slice (some ⟨g, 0, none⟩) (rs.length + 1) cap] 25)))).trans hBg
          have hpush := HM.out.push (belT HV.out (below_alloc1 _ (.cells #[.slice (some ⟨g, 0, none⟩) (rs.length + 1) cap] 25))) hgW ((HO.out.alloc _).mono (by omega)) hg6 ho6
          have HP := Lib.hid hpush
          clear ow hg6 hBg HM HV HO hmv ho6 hpush
          go_wp2_with fail
          go_roundw
          case rel => exact ⟨i + 1, by omega, by go_num, hB6, _, _, HP.out⟩
          case measure => simp [intOf]; omega
    · obtain rfl : i = rs.length + 1 := by omega
      obtain ⟨g, gc, rfl⟩ := hM.form (by omega)
      obtain ⟨W3, rfl⟩ : ∃ W3, W3 = wr := ⟨_, rfl⟩
      have hWz := hB.size
      have HI0 := Lib.hid (And.intro (belT hB hW) hM)
      clear c0 c1 hW hlt hM hi hi3 z30 z31 z32 hi25 z250 z251 z252 RDA TQ LB HB' SB HC HR HQ HLR hl6 hB
      go_wp2_with fail
      go_loopw [12] (fun ag wr => ∃ (b : Bool) (M : Tab), ag = .bool b ∧ Hid (Below w.heap.size w wr ∧ Mats wr W0.heap.size (.slice (some ⟨g, 0, none⟩) (rs.length + 1) gc) (rs.length + 1) (rs.length + 1) R C M ∧ (b = true → Top T rs.length M) ∧ (b = false → Done T rs.length M))) (fun ag wr => msr R (rs.length + 1) ag wr)
      case atStart => exact ⟨true, T, rfl, Lib.hid ⟨HI0.out.1, HI0.out.2, fun _ => TP.out, fun h => by cases h⟩⟩
      case round =>
        clear HI0
        obtain ⟨b, M0, rfl, HI⟩ := hrel
        cases b with
        | false =>
          obtain ⟨h1, h2, -, h4⟩ := HI.out
          obtain ⟨hs, he⟩ := TD.out M0 (h4 rfl)
          have HS := Lib.hid hs
          have HE := Lib.hid he
          have HX := Lib.hid (And.intro h1 h2)
          clear h1 h2 h4 hs he HI
          go_wp2_with fail
          go_ret2
          exact ⟨HX.out.1, .inr ⟨HS.out, _, g, R, C, rfl, ⟨⟨_, rfl⟩, fun a ha => HX.out.2.ptr a ha, fun a b ha hb => by rw [HX.out.2.cell a b ha hb, HE.out a b (by omega) (by omega)]; rfl⟩⟩⟩
        | true =>
          obtain ⟨W4, rfl⟩ : ∃ W4, W4 = wr := ⟨_, rfl⟩
          go_wp2_with fail
          go_loopw [12, 13] (fun ag x wr => ∃ (b : Bool) (i : Nat) (M : Tab), ag = .bool b ∧ x = .int .i64 i ∧ i ≤ rs.length + 1 ∧ Hid (Below w.heap.size w wr ∧ Mats wr W0.heap.size (.slice (some ⟨g, 0, none⟩) (rs.length + 1) gc) (rs.length + 1) (rs.length + 1) R C M ∧ Mid T rs.length (tabSum M0 (rs.length + 1) (rs.length + 1)) i 0 b M)) (fun _ x _ => rs.length + 1 - (intOf x).toNat)
          case atStart => exact ⟨false, 0, M0, rfl, rfl, Nat.zero_le _, Lib.hid ⟨HI.out.1, HI.out.2.1, (HI.out.2.2.1 (by first | rfl | trivial)).mid⟩⟩
          case round =>
            obtain ⟨b, i, M1, rfl, rfl, hi, HJ⟩ := hrel
            by_cases hlt : i < rs.length + 1
            · have hltI : (i : Int) ≤ (rs.length : Int) := by omega
              have hii : i ≤ rs.length := by omega
              go_wp2_with fail
              go_loopw [12, 14] (fun ag x wr => ∃ (b : Bool) (k : Nat) (M : Tab), ag = .bool b ∧ x = .int .i64 k ∧ k ≤ rs.length + 1 ∧ Hid (Below w.heap.size w wr ∧ Mats wr W0.heap.size (.slice (some ⟨g, 0, none⟩) (rs.length + 1) gc) (rs.length + 1) (rs.length + 1) R C M ∧ Mid T rs.length (tabSum M0 (rs.length + 1) (rs.length + 1)) i k b M)) (fun _ x _ => rs.length + 1 - (intOf x).toNat)
              case atStart => exact ⟨b, 0, M1, rfl, rfl, Nat.zero_le _, HJ⟩
              case round =>
                clear HJ
                obtain ⟨b, k, M2, rfl, rfl, hk, HJ⟩ := hrel
                by_cases hltk : k < rs.length + 1
                · have hltK : (k : Int) ≤ (rs.length : Int) := by omega
                  have hkk : k ≤ rs.length := by omega
                  go_wp2_with fail
                  go_loopw [12, 15] (fun ag x wr => ∃ (b : Bool) (j : Nat) (M : Tab), ag = .bool b ∧ x = .int .i64 j ∧ j ≤ rs.length + 1 ∧ Hid (Below w.heap.size w wr ∧ Mats wr W0.heap.size (.slice (some ⟨g, 0, none⟩) (rs.length + 1) gc) (rs.length + 1) (rs.length + 1) R C M ∧ Inn T rs.length (tabSum M0 (rs.length + 1) (rs.length + 1)) i k j b M)) (fun _ x _ => rs.length + 1 - (intOf x).toNat)
                  case atStart => exact ⟨b, 0, M2, rfl, rfl, Nat.zero_le _, Lib.hid ⟨HJ.out.1, HJ.out.2.1, HJ.out.2.2.inn hii hkk⟩⟩
                  case round =>
                    clear HJ
                    obtain ⟨b, j, M3, rfl, rfl, hj, HJ⟩ := hrel
                    have bd := HJ.out.2.2.bd (fun a b _ _ => (TBD.out a b).2) hn7 hii hkk
                    have p1 := HJ.out.2.1.ptr i hlt
                    have q3 := HJ.out.2.1.cell i k hlt hltk
                    have b3 := bd i k hii hkk
                    have i1 : (i : Int) < ((rs.length + 1 : Nat) : Int) := by omega
                    have i2 : (i : Int) < (rs.length : Int) + 1 := by omega
                    have k1 : (k : Int) < ((rs.length + 1 : Nat) : Int) := by omega
                    have k2 : (k : Int) < (rs.length : Int) + 1 := by omega
                    by_cases hltj : j < rs.length + 1
                    · have hltJ : (j : Int) ≤ (rs.length : Int) := by omega
                      have hjj : j ≤ rs.length := by omega
                      have p2 := HJ.out.2.1.ptr j hltj
                      have q1 := HJ.out.2.1.cell i j hlt hltj
                      have q2 := HJ.out.2.1.cell j k hltj hltk
                      have b1 := bd i j hii hjj
                      have b2 := bd j k hjj hkk
                      have j1 : (j : Int) < ((rs.length + 1 : Nat) : Int) := by omega
                      have j2 : (j : Int) < (rs.length : Int) + 1 := by omega
                      have hwS : IntKind.i64.wrap (M3 i j + M3 j k) = M3 i j + M3 j k := IntWalk.i64_in _ (by omega)
                      have fz := HJ.out.2.1.frozen i k hlt
                      have hRi := (HJ.out.2.1.lt i hlt).1
                      clear bd
                      by_cases hc : M3 i j + M3 j k < M3 i k
                      · have hup := HJ.out.2.2.upd hii hkk hjj hc
                        have HUP := Lib.hid hup
                        have hcx := Lib.hid hc
                        clear hup
                        go_upto_region 35 with fail
                        go_quiet (fail)
                        obtain ⟨wd, hwd⟩ : ∃ wd, wr.drewN nq = wd := ⟨_, rfl⟩
                        have hkd : Below wr.heap.size wr wd := by rw [← hwd]; exact below_drewN (Below.refl _ _) _
                        rw [hwd]
                        replace fz := keepF hkd (HJ.out.2.1.lt i hlt).2 fz
                        replace p1 := keep hkd p1
                        replace p2 := keep hkd p2
                        replace q1 := keep hkd q1
                        replace q2 := keep hkd q2
                        replace q3 := keep hkd q3
                        have hst := (HJ.out.2.1.below hkd).set i k hlt hltk (M3 i j + M3 j k)
                        have hbw := Below.setCell (belT HJ.out.1 hkd) (p := ⟨R i, k, none⟩) (by show w.heap.size ≤ R i; omega) (.int .i64 (M3 i j + M3 j k))
                        have HN := Lib.hid (And.intro hbw.drew (And.intro (hst.below (Below.drew (Below.refl _ _))) HUP.out))
                        clear hst hbw HJ HUP hwd hkd
                        go_upto_region 36 with fail
                        go_still_tail 21, (by kernel_rfl)
                        change wpList _ _ _ _ _ wd.drew
                        go_wp2_with fail
                        go_roundw
                        case rel => exact ⟨true, j + 1, _, rfl, by go_num, by omega, HN⟩
                        case measure => simp [intOf]; omega
                      · have hc' : M3 i k ≤ M3 i j + M3 j k := by omega
                        have hkp := HJ.out.2.2.keep hjj hc
                        have HKP := Lib.hid hkp
                        clear hkp hc
                        go_upto_region 35 with fail
                        go_quiet (fail)
                        have hkd : Below wr.heap.size wr (wr.drewN nq) := below_drewN (Below.refl _ _) _
                        have HN := Lib.hid (And.intro (belT HJ.out.1 hkd) (And.intro (HJ.out.2.1.below hkd) HKP.out))
                        clear HKP HJ hkd p1 p2 q1 q2 q3 fz
                        go_wp2_with fail
                        go_roundw
                        case rel => exact ⟨b, j + 1, _, rfl, by go_num, by omega, HN⟩
                        case measure => simp [intOf]; omega
                    · obtain rfl : j = rs.length + 1 := by omega
                      clear bd hltj hj
                      by_cases hik : i = k
                      · have tik : ((i : Int) == (k : Int)) = true := by rw [beq_iff_eq]; omega
                        by_cases hneg : M3 i k < 0
                        · have HNG := Lib.hid (And.intro hik hneg)
                          have HT3 := Lib.hid (And.intro HJ.out.1 HJ.out.2.2.t)
                          clear hik HJ
                          go_wp2_with fail
                          go_ret2
                          exact ⟨HT3.out.1, .inl ⟨TN.out M3 HT3.out.2 i hii (by have := HNG.out; obtain ⟨rfl, h⟩ := this; exact h), rfl⟩⟩
                        · have hneg' : 0 ≤ M3 i k := by omega
                          have hnx := HJ.out.2.2.next hii hkk (fun _ => hneg)
                          have HN := Lib.hid (And.intro HJ.out.1 (And.intro HJ.out.2.1 hnx))
                          clear hnx HJ hneg hik
                          go_wp2_with fail
                          go_roundw
                          case rel => exact ⟨b, k + 1, M3, rfl, by go_num, by omega, HN⟩
                          case measure => simp [intOf]; omega
                      · have tik : ((i : Int) == (k : Int)) = false := by rw [beq_eq_false_iff_ne]; omega
                        have hnx := HJ.out.2.2.next hii hkk (fun h => absurd h hik)
                        have HN := Lib.hid (And.intro HJ.out.1 (And.intro HJ.out.2.1 hnx))
                        clear hnx HJ hik p1 q3
                        go_wp2_with fail
                        go_roundw
                        case rel => exact ⟨b, k + 1, M3, rfl, by go_num, by omega, HN⟩
                        case measure => simp [intOf]; omega
                · obtain rfl : k = rs.length + 1 := by omega
                  have HN := Lib.hid (And.intro HJ.out.1 (And.intro HJ.out.2.1 (HJ.out.2.2.row hii hn7)))
                  clear HJ hltk hk
                  go_wp2_with fail
                  go_roundw
                  case rel => exact ⟨b, i + 1, M2, rfl, by go_num, by omega, HN⟩
                  case measure => simp [intOf]; omega
            · obtain rfl : i = rs.length + 1 := by omega
              obtain ⟨m1, m2, m3⟩ := HJ.out
              have hT2 : ∀ a b, a ≤ rs.length → b ≤ rs.length → T a b ≤ 2000000 := fun a b _ _ => (TBD.out a b).2
              have hlt' : msr R (rs.length + 1) (.bool b) wr < msr R (rs.length + 1) (.bool true) W4 := by
                refine msr_lt HI.out.2.1 m2 b (by omega) (fun a c ha hc => (HI.out.2.2.1 (by first | rfl | trivial)).lo a c (by omega) (by omega)) ?_ m3.sum.1 (fun hb => m3.sum.2 hb)
                intro hb a c ha hc
                subst hb
                exact (m3.again hT2).1.lo a c (by omega) (by omega)
              have HN : Hid (Below w.heap.size w wr ∧ Mats wr W0.heap.size (.slice (some ⟨g, 0, none⟩) (rs.length + 1) gc) (rs.length + 1) (rs.length + 1) R C M1 ∧ (b = true → Top T rs.length M1) ∧ (b = false → Done T rs.length M1)) :=
                Lib.hid ⟨m1, m2, fun hb => by subst hb; exact (m3.again hT2).1, fun hb => by subst hb; exact m3.done⟩
              have HML := Lib.hid hlt'
              clear m1 m2 m3 hT2 hlt' HJ HI hlt hi
              go_wp2_with fail
              go_roundw
              case rel => (repeat apply Exists.intro); exact ⟨⟨b, M1, rfl, HN⟩, rfl⟩
              case measure => exact HML.out

end Go.Proofs.Ytnombgiacfeloaa
