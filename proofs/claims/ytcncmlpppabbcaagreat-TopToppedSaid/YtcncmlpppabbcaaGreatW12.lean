/- Proved here: contracts of functions of the program, each for every input that its statement names. The walk of 'points', as an iterator. -/
import Derived.Test.YtcncmlpppabbcaaGreatW11
import Derived.Test.YtcncmlpppabbcaaGreatM1
import Derived.Test.YtcncmlpppabbcaaGreatM8
import Derived.RangeFuncNested
import Derived.RangeFuncBound
import Derived.RangeFuncCalls
import Derived.RangeFuncLeaves
import Derived.RangeFuncFrom
import Derived.Shelf.Abstract
import Derived.OwnWalkIn
import Derived.TacticsInMore
import Derived.LoopNIn
import Derived.LoopIn
namespace Go.Proofs.YtcncmlpppabbcaaGreat
set_option linter.unusedVariables false
set_option linter.unusedSimpArgs false
open Go.RowKit Go.Shelf
attribute [local go_sem] Oper.semAt_some

set_option maxHeartbeats 1000000 in
theorem points_any (err : Int) (v rv : Value) (w : World) :
    Calls Tryz.prog 52 #[.agg #[.int .i64 err, v, rv]] w fun e w' => e = .returned (.func (.func 89) #[] #[.pointer (some ⟨w.heap.size, 0, none⟩)]) ∧ w' = w.alloc (.cells #[.int .i64 err, v, rv] 99) := by
  go_enter Tryz.func52, Tryz.ntmps52
  go_wp2
  go_ret
  exact ⟨rfl, rfl⟩

/-- The points of n. -/
abbrev Pts (n : Nat) := { i : Nat // i < n }

/-- What the loop's body is handed at a point. -/
def ptEnc (err : Int) (ss : List Stp) (rs : List Int) (x : Pts rs.length) : Array Value := #[.int .i64 x.1, .agg #[.int .i64 (loAt err ss rs x.1), .int .i64 (hiAt err ss rs x.1)]]

/-- All points up to k. -/
def ptsTo (n : Nat) : (k : Nat) → k ≤ n → List (Pts n)
  | 0, _ => []
  | k + 1, h => ptsTo n k (by omega) ++ [⟨k, by omega⟩]

theorem ptsTo_len (n k : Nat) (h : k ≤ n) : (ptsTo n k h).length = k := by
  induction k with
  | zero => rfl
  | succ k ih => simp [ptsTo, ih]

set_option maxRecDepth 100000 in
set_option maxHeartbeats 3000000 in
theorem points1_in (n : Nat) (hn : 1 ≤ n) (l B : Nat) (n₀ X : Nat) (err : Int) (ss : List Stp) (rs : List Int) (v rv : Value) (hL : LineOk err ss) (hR : ReadOk ss rs) (J Jx : List (Pts rs.length) → World → Prop) (W : World)
    (hJ : AbidesFrom W.heap.size J) (hJx : AbidesFrom W.heap.size Jx)
    (hY : ∀ pre x W1, J pre W1 → pre.length < rs.length → YieldAt Fence.wide (n - 1) Tryz.prog l (ptEnc err ss rs x) W1 fun e W' =>
      (e = .returned (.bool true) ∧ J (pre ++ [x]) W' ∧ BelowBut n₀ X W1 W') ∨ (e = .returned (.bool false) ∧ Jx (pre ++ [x]) W'))
    (hn0 : n₀ ≤ W.heap.size) (hB : B < n₀) (hBX : B ≠ X)
    (h0 : W.cell? ⟨B, 0, none⟩ = some (.int .i64 err)) (h1 : W.cell? ⟨B, 1, none⟩ = some v) (h2 : W.cell? ⟨B, 2, none⟩ = some rv)
    (hv : Rd W 4 v (stpRows ss)) (hvb : ∀ b o a c, v = .slice (some ⟨b, o, none⟩) a c → b < n₀ ∧ b ≠ X) (hr : Rd W 1 rv (ints rs)) (hrb : ∀ b o a c, rv = .slice (some ⟨b, o, none⟩) a c → b < n₀ ∧ b ≠ X) (hJ0 : J [] W) :
    CallsIn Fence.wide n Tryz.prog 89 #[.func (.yield l) #[] #[], .pointer (some ⟨B, 0, none⟩)] W fun e W' => (∃ v, e = .returned v) ∧
      ((∃ ys, ys = ptsTo rs.length rs.length (Nat.le_refl _) ∧ J ys W') ∨ (∃ pre, True ∧ Jx pre W')) := by
  obtain ⟨a, c, rfl, -, hm, hcs⟩ := hv.stps
  obtain ⟨a', c', rfl, -, hm', hcr⟩ := hr.ints
  have hlen := hR.len
  have hl1 := hL.len
  obtain ⟨b, off, rfl, hbl, hcs⟩ := hcs (by omega)
  obtain ⟨b', off', rfl, hbl', hcr⟩ := hcr (by omega)
  have hb0 := hvb b off _ _ rfl
  have hb1 := hrb b' off' _ _ rfl
  have HCS := Lib.hid hcs
  have HCR := Lib.hid hcr
  have HL := Lib.hid hL
  have HR := Lib.hid hR
  clear hv hr hvb hrb hcs hcr hL hR hlen
  refine callsIn_of_wp Tryz.func89 rfl trivial ?_ rfl
  simp only [Tryz.ntmps89, List.size_toArray, List.length_cons, List.length_nil, Nat.reduceAdd, Nat.reduceSub, Array.replicate_succ, Array.replicate_zero, List.push_toArray, List.append_toArray, List.nil_append, List.cons_append]
  gi_wp2
  gi_loopw [3, 13] (fun e i wr => ∃ (k : Nat) (h : k ≤ rs.length), i = .int .i64 k ∧ (∃ z, e = .int .i64 z) ∧ (k = 0 → e = .int .i64 err) ∧ J (ptsTo rs.length k h) wr ∧ BelowBut n₀ X W wr)
    (fun _ i _ => rs.length - (intOf i).toNat)
  case atStart => exact ⟨0, Nat.zero_le _, rfl, ⟨_, rfl⟩, fun _ => rfl, hJ0, BelowBut.refl _ _ _⟩
  case round =>
    obtain ⟨k, hk, rfl, ⟨z, rfl⟩, hz, hJs, hnx⟩ := hrel
    by_cases hlt : k < rs.length
    · have g0 := (hnx.cell (p := ⟨B, 0, none⟩) hB hBX).trans h0
      have g1 := (hnx.cell (p := ⟨B, 1, none⟩) hB hBX).trans h1
      have g2 := (hnx.cell (p := ⟨B, 2, none⟩) hB hBX).trans h2
      have r0 := (hnx.cell (p := ⟨b', off' + k, none⟩) hb1.1 hb1.2).trans (HCR.out k hlt)
      have hrk := HR.out.rd rs[k] (List.getElem_mem _)
      have hrl := HR.out.len
      have hwb := wrong_bd HL.out k
      have hlo : loAt err ss rs k = rdLo rs[k] (wrongAt err ss k) := by unfold loAt; rw [List.getElem?_eq_getElem hlt]; rfl
      have hhi : hiAt err ss rs k = rdHi rs[k] (wrongAt err ss k) := by unfold hiAt; rw [List.getElem?_eq_getElem hlt]; rfl
      have hsz := hnx.size
      have hal : ∀ o : Obj, J (ptsTo rs.length k hk) (wr.alloc o) := fun o => hJ _ wr _ none hJs (World.grownBy_alloc wr o none) (fun r e => by cases e)
      have hYY := fun o => hY _ ⟨k, hlt⟩ (wr.alloc o) (hal o) (by rw [ptsTo_len]; exact hlt)
      have HY := Lib.hid hYY
      clear hYY hal
      generalize rs[k] = r at r0 hrk hlo hhi
      have hk0 : k = 0 ∨ ∃ j, k = j + 1 := by cases k with
        | zero => exact .inl rfl
        | succ j => exact .inr ⟨j, rfl⟩
      rcases hk0 with rfl | ⟨j, rfl⟩
      · rw [Nat.add_zero] at r0
        have HRL := Lib.hid hrl
        clear hrl
        obtain rfl : err = z := by have := hz rfl; simp at this; exact this.symm
        have hw0 : wrongAt err ss 0 = err := rfl
        rw [hw0] at hlo hhi hwb
        clear hz hw0
        by_cases hr1 : r = -1
        · subst hr1
          have hlo' : loAt err ss rs 0 = 0 := by rw [hlo]; simp [rdLo, rdHi, *]; try omega
          have hhi' : hiAt err ss rs 0 = 1000000 := by rw [hhi]; simp [rdLo, rdHi, *]; try omega
          obtain ⟨fn, tmps, assign, body, hy, hRR⟩ := HY.out (Obj.cells #[Value.int IntKind.i64 (0), Value.int IntKind.i64 (1000000)] 23)
          unfold ptEnc at hy
          dsimp only at hy
          rw [show ((0 : Nat) : Int) = 0 from rfl] at hy
          rw [hlo', hhi'] at hy
          clear hlo hhi hlo' hhi'
          have HRR := Lib.hid hRR
          clear hRR
          gi_wp2
          refine HRR.out.mono ?_
          rintro e W3 (⟨rfl, hJ3, hk3⟩ | ⟨rfl, hJx3⟩)
          · gi_wp2
            go_roundw
            case rel => exact ⟨0 + 1, by omega, by go_num, ⟨_, rfl⟩, fun h => absurd h (by omega), hJ3, (hnx.alloc (by omega) _).trans hk3⟩
            case measure => simp [intOf]; omega
          · gi_wp2
            refine bodyPost_ret (results_none rfl _ _ _) rfl ?_
            exact ⟨⟨_, rfl⟩, .inr ⟨_, trivial, hJx3⟩⟩
        · have t1 : (r != -1) = true := by simp [hr1]
          have hr0 : 0 ≤ r ∧ r ≤ 1000000 := hrk.resolve_left hr1
          by_cases ha : 0 < r - err
          · by_cases hb2 : r + err < 1000000
            · clear hrk
              have hlo' : loAt err ss rs 0 = r - err := by rw [hlo]; simp [rdLo, rdHi, *]; try omega
              have hhi' : hiAt err ss rs 0 = r + err := by rw [hhi]; simp [rdLo, rdHi, *]; try omega
              obtain ⟨fn, tmps, assign, body, hy, hRR⟩ := HY.out (Obj.cells #[Value.int IntKind.i64 (r - err), Value.int IntKind.i64 (r + err)] 23)
              unfold ptEnc at hy
              dsimp only at hy
              rw [show ((0 : Nat) : Int) = 0 from rfl] at hy
              rw [hlo', hhi'] at hy
              clear hlo hhi hlo' hhi'
              have HRR := Lib.hid hRR
              clear hRR
              gi_wp2
              refine HRR.out.mono ?_
              rintro e W3 (⟨rfl, hJ3, hk3⟩ | ⟨rfl, hJx3⟩)
              · gi_wp2
                go_roundw
                case rel => exact ⟨0 + 1, by omega, by go_num, ⟨_, rfl⟩, fun h => absurd h (by omega), hJ3, (hnx.alloc (by omega) _).trans hk3⟩
                case measure => simp [intOf]; omega
              · gi_wp2
                refine bodyPost_ret (results_none rfl _ _ _) rfl ?_
                exact ⟨⟨_, rfl⟩, .inr ⟨_, trivial, hJx3⟩⟩
            · clear hrk
              have hlo' : loAt err ss rs 0 = r - err := by rw [hlo]; simp [rdLo, rdHi, *]; try omega
              have hhi' : hiAt err ss rs 0 = 1000000 := by rw [hhi]; simp [rdLo, rdHi, *]; try omega
              obtain ⟨fn, tmps, assign, body, hy, hRR⟩ := HY.out (Obj.cells #[Value.int IntKind.i64 (r - err), Value.int IntKind.i64 (1000000)] 23)
              unfold ptEnc at hy
              dsimp only at hy
              rw [show ((0 : Nat) : Int) = 0 from rfl] at hy
              rw [hlo', hhi'] at hy
              clear hlo hhi hlo' hhi'
              have HRR := Lib.hid hRR
              clear hRR
              gi_wp2
              refine HRR.out.mono ?_
              rintro e W3 (⟨rfl, hJ3, hk3⟩ | ⟨rfl, hJx3⟩)
              · gi_wp2
                go_roundw
                case rel => exact ⟨0 + 1, by omega, by go_num, ⟨_, rfl⟩, fun h => absurd h (by omega), hJ3, (hnx.alloc (by omega) _).trans hk3⟩
                case measure => simp [intOf]; omega
              · gi_wp2
                refine bodyPost_ret (results_none rfl _ _ _) rfl ?_
                exact ⟨⟨_, rfl⟩, .inr ⟨_, trivial, hJx3⟩⟩
          · by_cases hb2 : r + err < 1000000
            · clear hrk
              have hlo' : loAt err ss rs 0 = 0 := by rw [hlo]; simp [rdLo, rdHi, *]; try omega
              have hhi' : hiAt err ss rs 0 = r + err := by rw [hhi]; simp [rdLo, rdHi, *]; try omega
              obtain ⟨fn, tmps, assign, body, hy, hRR⟩ := HY.out (Obj.cells #[Value.int IntKind.i64 (0), Value.int IntKind.i64 (r + err)] 23)
              unfold ptEnc at hy
              dsimp only at hy
              rw [show ((0 : Nat) : Int) = 0 from rfl] at hy
              rw [hlo', hhi'] at hy
              clear hlo hhi hlo' hhi'
              have HRR := Lib.hid hRR
              clear hRR
              gi_wp2
              refine HRR.out.mono ?_
              rintro e W3 (⟨rfl, hJ3, hk3⟩ | ⟨rfl, hJx3⟩)
              · gi_wp2
                go_roundw
                case rel => exact ⟨0 + 1, by omega, by go_num, ⟨_, rfl⟩, fun h => absurd h (by omega), hJ3, (hnx.alloc (by omega) _).trans hk3⟩
                case measure => simp [intOf]; omega
              · gi_wp2
                refine bodyPost_ret (results_none rfl _ _ _) rfl ?_
                exact ⟨⟨_, rfl⟩, .inr ⟨_, trivial, hJx3⟩⟩
            · clear hrk
              have hlo' : loAt err ss rs 0 = 0 := by rw [hlo]; simp [rdLo, rdHi, *]; try omega
              have hhi' : hiAt err ss rs 0 = 1000000 := by rw [hhi]; simp [rdLo, rdHi, *]; try omega
              obtain ⟨fn, tmps, assign, body, hy, hRR⟩ := HY.out (Obj.cells #[Value.int IntKind.i64 (0), Value.int IntKind.i64 (1000000)] 23)
              unfold ptEnc at hy
              dsimp only at hy
              rw [show ((0 : Nat) : Int) = 0 from rfl] at hy
              rw [hlo', hhi'] at hy
              clear hlo hhi hlo' hhi'
              have HRR := Lib.hid hRR
              clear hRR
              gi_wp2
              refine HRR.out.mono ?_
              rintro e W3 (⟨rfl, hJ3, hk3⟩ | ⟨rfl, hJx3⟩)
              · gi_wp2
                go_roundw
                case rel => exact ⟨0 + 1, by omega, by go_num, ⟨_, rfl⟩, fun h => absurd h (by omega), hJ3, (hnx.alloc (by omega) _).trans hk3⟩
                case measure => simp [intOf]; omega
              · gi_wp2
                refine bodyPost_ret (results_none rfl _ _ _) rfl ?_
                exact ⟨⟨_, rfl⟩, .inr ⟨_, trivial, hJx3⟩⟩
      · have hjl : j < ss.length := by omega
        have HRL := Lib.hid hrl
        clear hrl
        obtain ⟨-, -, -, q3⟩ := HCS.out j hjl
        replace q3 := (hnx.cell (p := ⟨b, off + j * 4 + 3, none⟩) hb0.1 hb0.2).trans q3
        have hw1 : wrongAt err ss (j + 1) = ss[j].err := by simp [wrongAt, hjl]
        rw [hw1] at hlo hhi hwb
        clear hw1 hz
        generalize ss[j].err = x at q3 hlo hhi hwb
        by_cases hr1 : r = -1
        · subst hr1
          have hlo' : loAt err ss rs (j + 1) = 0 := by rw [hlo]; simp [rdLo, rdHi, *]; try omega
          have hhi' : hiAt err ss rs (j + 1) = 1000000 := by rw [hhi]; simp [rdLo, rdHi, *]; try omega
          obtain ⟨fn, tmps, assign, body, hy, hRR⟩ := HY.out (Obj.cells #[Value.int IntKind.i64 (0), Value.int IntKind.i64 (1000000)] 23)
          unfold ptEnc at hy
          dsimp only at hy
          rw [show ((j + 1 : Nat) : Int) = (j : Int) + 1 from by simp] at hy
          rw [hlo', hhi'] at hy
          clear hlo hhi hlo' hhi'
          have HRR := Lib.hid hRR
          clear hRR
          gi_wp2
          refine HRR.out.mono ?_
          rintro e W3 (⟨rfl, hJ3, hk3⟩ | ⟨rfl, hJx3⟩)
          · gi_wp2
            go_roundw
            case rel => exact ⟨(j + 1) + 1, by omega, by go_num, ⟨_, rfl⟩, fun h => absurd h (by omega), hJ3, (hnx.alloc (by omega) _).trans hk3⟩
            case measure => simp [intOf]; omega
          · gi_wp2
            refine bodyPost_ret (results_none rfl _ _ _) rfl ?_
            exact ⟨⟨_, rfl⟩, .inr ⟨_, trivial, hJx3⟩⟩
        · have t1 : (r != -1) = true := by simp [hr1]
          have hr0 : 0 ≤ r ∧ r ≤ 1000000 := hrk.resolve_left hr1
          by_cases ha : 0 < r - x
          · by_cases hb2 : r + x < 1000000
            · clear hrk
              have hlo' : loAt err ss rs (j + 1) = r - x := by rw [hlo]; simp [rdLo, rdHi, *]; try omega
              have hhi' : hiAt err ss rs (j + 1) = r + x := by rw [hhi]; simp [rdLo, rdHi, *]; try omega
              obtain ⟨fn, tmps, assign, body, hy, hRR⟩ := HY.out (Obj.cells #[Value.int IntKind.i64 (r - x), Value.int IntKind.i64 (r + x)] 23)
              unfold ptEnc at hy
              dsimp only at hy
              rw [show ((j + 1 : Nat) : Int) = (j : Int) + 1 from by simp] at hy
              rw [hlo', hhi'] at hy
              clear hlo hhi hlo' hhi'
              have HRR := Lib.hid hRR
              clear hRR
              gi_wp2
              refine HRR.out.mono ?_
              rintro e W3 (⟨rfl, hJ3, hk3⟩ | ⟨rfl, hJx3⟩)
              · gi_wp2
                go_roundw
                case rel => exact ⟨(j + 1) + 1, by omega, by go_num, ⟨_, rfl⟩, fun h => absurd h (by omega), hJ3, (hnx.alloc (by omega) _).trans hk3⟩
                case measure => simp [intOf]; omega
              · gi_wp2
                refine bodyPost_ret (results_none rfl _ _ _) rfl ?_
                exact ⟨⟨_, rfl⟩, .inr ⟨_, trivial, hJx3⟩⟩
            · clear hrk
              have hlo' : loAt err ss rs (j + 1) = r - x := by rw [hlo]; simp [rdLo, rdHi, *]; try omega
              have hhi' : hiAt err ss rs (j + 1) = 1000000 := by rw [hhi]; simp [rdLo, rdHi, *]; try omega
              obtain ⟨fn, tmps, assign, body, hy, hRR⟩ := HY.out (Obj.cells #[Value.int IntKind.i64 (r - x), Value.int IntKind.i64 (1000000)] 23)
              unfold ptEnc at hy
              dsimp only at hy
              rw [show ((j + 1 : Nat) : Int) = (j : Int) + 1 from by simp] at hy
              rw [hlo', hhi'] at hy
              clear hlo hhi hlo' hhi'
              have HRR := Lib.hid hRR
              clear hRR
              gi_wp2
              refine HRR.out.mono ?_
              rintro e W3 (⟨rfl, hJ3, hk3⟩ | ⟨rfl, hJx3⟩)
              · gi_wp2
                go_roundw
                case rel => exact ⟨(j + 1) + 1, by omega, by go_num, ⟨_, rfl⟩, fun h => absurd h (by omega), hJ3, (hnx.alloc (by omega) _).trans hk3⟩
                case measure => simp [intOf]; omega
              · gi_wp2
                refine bodyPost_ret (results_none rfl _ _ _) rfl ?_
                exact ⟨⟨_, rfl⟩, .inr ⟨_, trivial, hJx3⟩⟩
          · by_cases hb2 : r + x < 1000000
            · clear hrk
              have hlo' : loAt err ss rs (j + 1) = 0 := by rw [hlo]; simp [rdLo, rdHi, *]; try omega
              have hhi' : hiAt err ss rs (j + 1) = r + x := by rw [hhi]; simp [rdLo, rdHi, *]; try omega
              obtain ⟨fn, tmps, assign, body, hy, hRR⟩ := HY.out (Obj.cells #[Value.int IntKind.i64 (0), Value.int IntKind.i64 (r + x)] 23)
              unfold ptEnc at hy
              dsimp only at hy
              rw [show ((j + 1 : Nat) : Int) = (j : Int) + 1 from by simp] at hy
              rw [hlo', hhi'] at hy
              clear hlo hhi hlo' hhi'
              have HRR := Lib.hid hRR
              clear hRR
              gi_wp2
              refine HRR.out.mono ?_
              rintro e W3 (⟨rfl, hJ3, hk3⟩ | ⟨rfl, hJx3⟩)
              · gi_wp2
                go_roundw
                case rel => exact ⟨(j + 1) + 1, by omega, by go_num, ⟨_, rfl⟩, fun h => absurd h (by omega), hJ3, (hnx.alloc (by omega) _).trans hk3⟩
                case measure => simp [intOf]; omega
              · gi_wp2
                refine bodyPost_ret (results_none rfl _ _ _) rfl ?_
                exact ⟨⟨_, rfl⟩, .inr ⟨_, trivial, hJx3⟩⟩
            · clear hrk
              have hlo' : loAt err ss rs (j + 1) = 0 := by rw [hlo]; simp [rdLo, rdHi, *]; try omega
              have hhi' : hiAt err ss rs (j + 1) = 1000000 := by rw [hhi]; simp [rdLo, rdHi, *]; try omega
              obtain ⟨fn, tmps, assign, body, hy, hRR⟩ := HY.out (Obj.cells #[Value.int IntKind.i64 (0), Value.int IntKind.i64 (1000000)] 23)
              unfold ptEnc at hy
              dsimp only at hy
              rw [show ((j + 1 : Nat) : Int) = (j : Int) + 1 from by simp] at hy
              rw [hlo', hhi'] at hy
              clear hlo hhi hlo' hhi'
              have HRR := Lib.hid hRR
              clear hRR
              gi_wp2
              refine HRR.out.mono ?_
              rintro e W3 (⟨rfl, hJ3, hk3⟩ | ⟨rfl, hJx3⟩)
              · gi_wp2
                go_roundw
                case rel => exact ⟨(j + 1) + 1, by omega, by go_num, ⟨_, rfl⟩, fun h => absurd h (by omega), hJ3, (hnx.alloc (by omega) _).trans hk3⟩
                case measure => simp [intOf]; omega
              · gi_wp2
                refine bodyPost_ret (results_none rfl _ _ _) rfl ?_
                exact ⟨⟨_, rfl⟩, .inr ⟨_, trivial, hJx3⟩⟩
    · obtain rfl : k = rs.length := by omega
      gi_wp2
      go_end0
      exact ⟨⟨_, rfl⟩, .inl ⟨_, rfl, hJs⟩⟩

/-- The iterator 'points': all points, or some of them. -/
theorem points_stops (n : Nat) (hn : 1 ≤ n) (B n₀ X : Nat) (err : Int) (ss : List Stp) (rs : List Int) (v rv : Value) (hL : LineOk err ss) (hR : ReadOk ss rs) (w : World) (hn0 : n₀ ≤ w.heap.size) (hB : B < n₀) (hBX : B ≠ X)
    (h0 : w.cell? ⟨B, 0, none⟩ = some (.int .i64 err)) (h1 : w.cell? ⟨B, 1, none⟩ = some v) (h2 : w.cell? ⟨B, 2, none⟩ = some rv)
    (hv : Rd w 4 v (stpRows ss)) (hvb : ∀ b o a c, v = .slice (some ⟨b, o, none⟩) a c → b < n₀ ∧ b ≠ X) (hr : Rd w 1 rv (ints rs)) (hrb : ∀ b o a c, rv = .slice (some ⟨b, o, none⟩) a c → b < n₀ ∧ b ≠ X) :
    SeqStopsK Fence.wide n Tryz.prog 89 #[.pointer (some ⟨B, 0, none⟩)] (ptEnc err ss rs) (BelowBut n₀ X) (fun ys => ys = ptsTo rs.length rs.length (Nat.le_refl _)) (fun _ => True) rs.length w :=
  fun l J Jx W hW hJ hJx hY hJ0 =>
    points1_in n hn l B n₀ X err ss rs v rv hL hR J Jx W hJ hJx hY (Nat.le_trans hn0 hW.size) hB hBX (keep hW h0) (keep hW h1) (keep hW h2) (hv.below hW) hvb (hr.below hW) hrb hJ0

end Go.Proofs.YtcncmlpppabbcaaGreat
