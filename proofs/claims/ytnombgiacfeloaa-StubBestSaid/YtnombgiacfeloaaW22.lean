/- The walks of the reference's 'Chosen', 'Least' and 'earlier'. -/
import Derived.Test.YtnombgiacfeloaaW20
import Derived.Test.YtnombgiacfeloaaW6
namespace Go.Proofs.Ytnombgiacfeloaa
set_option linter.unusedVariables false
set_option linter.unusedSimpArgs false
open Go.RowKit

/-- The first k bags, and their indices, that are in a set. -/
def chosenK (bs : List Bag) (s : Nat) : Nat → List Bag
  | 0 => []
  | k + 1 => match bs[k]? with
    | some b => if hasK s k then chosenK bs s k ++ [b] else chosenK bs s k
    | none => chosenK bs s k
def idxK (s : Nat) : Nat → List Int
  | 0 => []
  | k + 1 => if hasK s k then idxK s k ++ [(k : Int)] else idxK s k

theorem idxK_len (s k : Nat) : (idxK s k).length ≤ k := by
  induction k with
  | zero => simp [idxK]
  | succ k ih =>
    unfold idxK
    split
    · simp; omega
    · omega
theorem chosenK_len (bs : List Bag) (s k : Nat) : (chosenK bs s k).length ≤ k := by
  induction k with
  | zero => simp [chosenK]
  | succ k ih =>
    unfold chosenK
    split
    · split
      · simp; omega
      · omega
    · omega
theorem chosenK_succ (bs : List Bag) (s k : Nat) (h : k < bs.length) : chosenK bs s (k + 1) = if hasK s k then chosenK bs s k ++ [bs[k]] else chosenK bs s k := by
  rw [chosenK, List.getElem?_eq_getElem h]
theorem chosenK_sub (bs : List Bag) (s k : Nat) : ∀ b ∈ chosenK bs s k, b ∈ bs := by
  induction k with
  | zero => simp [chosenK]
  | succ k ih =>
    intro b hb
    unfold chosenK at hb
    split at hb
    · rename_i x hx
      split at hb
      · rw [List.mem_append, List.mem_singleton] at hb
        rcases hb with hb | rfl
        · exact ih b hb
        · exact List.mem_of_getElem? hx
      · exact ih b hb
    · exact ih b hb

/-- Two lists, in new memory. -/
def RetTwo (cs : List Bag) (zs : List Int) (w : World) (e : Ending) (w' : World) : Prop := ∃ l z, e = .returned (.tuple #[l, z]) ∧ Rd w' 3 l (bagRows cs) ∧ Rd w' 1 z (ints zs) ∧ Below w.heap.size w w'

theorem owns_ne {w : World} {base : Nat} {e e' : TypeId} {size size' n n' : Nat} {v v' : Value} {xs ys : List Value} (h : w.ownsRow base e size v n xs) (h' : w.ownsRow base e' size' v' n' ys) (hne : e ≠ e') : v.ownBlock = none ∨ v.ownBlock ≠ v'.ownBlock := by
  rcases h.2 with ⟨rfl, -⟩ | ⟨g, cap, cur, rfl, hb, hg, -⟩
  · exact .inl rfl
  · refine .inr ?_
    rcases h'.2 with ⟨rfl, -⟩ | ⟨g', cap', cur', rfl, hb', hg', -⟩
    · simp [Value.ownBlock]
    · simp only [Value.ownBlock, ne_eq, Option.some.injEq]
      rintro rfl
      rw [hg] at hg'
      simp at hg'
      exact hne hg'.2

set_option maxRecDepth 100000 in
set_option maxHeartbeats 2000000 in
theorem chosen_any (v : Value) (bs : List Bag) (s : Nat) (w : World) (h : Rd w 3 v (bagRows bs)) (hlen : bs.length ≤ 10) (hs : s ≤ 1000000) :
    Calls Try.prog 49 #[v, .int .i64 s] w (RetTwo (chosenK bs s bs.length) (idxK s bs.length) w) := by
  obtain ⟨sa, c, rfl, -, hm, hr⟩ := h.bags
  have H := Lib.hid hr
  clear hr h
  obtain ⟨i0, hi, hz0, hz1, hz2⟩ := info_parts info3
  obtain ⟨i1, hi1, hz01, hz11, hz21⟩ := info_parts info57
  go_enter Try.func49, Try.ntmps49
  go_wp2_with fail
  go_loopw [6, 7, 8] (fun x y i wr => ∃ k : Nat, k ≤ bs.length ∧ i = .int .i64 k ∧ Below w.heap.size w wr ∧ wr.ownsRow w.heap.size 57 3 x (bagRows (chosenK bs s k)).length (bagRows (chosenK bs s k)).flatten ∧ wr.ownsRow w.heap.size 3 1 y (ints (idxK s k)).length (ints (idxK s k)).flatten) (fun _ _ i _ => bs.length - (intOf i).toNat)
  case atStart => exact ⟨0, Nat.zero_le _, rfl, Below.refl _ _, World.ownsRow_nil _ _ _ _, World.ownsRow_nil _ _ _ _⟩
  case round =>
    obtain ⟨k, hk, rfl, hB, ho1, ho2⟩ := hrel
    have hzB := hB.size
    by_cases hlt : k < bs.length
    · have hlt' : (k : Int) < bs.length := by omega
      obtain ⟨b, off, rfl, hbl, hc⟩ := H.out (by omega)
      obtain ⟨g1, g2, g3⟩ := hc k hlt
      clear hc
      rw [← hB.cell (p := ⟨b, _, none⟩) hbl] at g1 g2 g3
      have e1 := chosenK_succ bs s k hlt
      have e2 : idxK s (k + 1) = if hasK s k then idxK s k ++ [(k : Int)] else idxK s k := rfl
      have l1 := chosenK_len bs s k
      have l2 := idxK_len s k
      have l3 : (bagRows (chosenK bs s k)).length ≤ 10 := by rw [bagRows, List.length_map]; omega
      have l4 : (ints (idxK s k)).length ≤ 10 := by rw [ints_length]; omega
      clear l1 l2
      generalize bs[k] = x at g1 g2 g3 e1
      obtain ⟨lo, hi', kd⟩ := x
      dsimp only at g1 g2 g3
      cases h1 : hasK s k
      · rw [h1] at e1 e2
        simp only [Bool.false_eq_true, if_false] at e1 e2
        have E1 := Lib.hid e1
        have E2 := Lib.hid e2
        clear e1 e2
        go_wp2_with (go_at_call 52; refine (has_at s k _ h1 hs (by omega) _).mono ?_; rintro e w1 ⟨rfl, hww⟩; obtain rfl := hww.symm)
        go_roundw
        case rel => exact ⟨k + 1, by omega, by go_num, hB, by rw [E1.out]; exact ho1, by rw [E2.out]; exact ho2⟩
        case measure => simp [intOf]; omega
      · rw [h1] at e1 e2
        simp only [if_true] at e1 e2
        have E1 := Lib.hid e1
        have E2 := Lib.hid e2
        clear e1 e2
        go_wp2_with (first | (go_at_call 52; refine (has_at s k _ h1 hs (by omega) _).mono ?_; rintro e w1 ⟨rfl, hww⟩; obtain rfl := hww.symm) | (at_builtin; refine wpList_append_own _ rfl _ _ 47 rfl w.heap.size 57 i1 (.agg #[.int .i64 0, .int .i64 0, .int .i64 0]) 3 24 Try.underlying47 hi1 hz01 hz11 hz21 rfl (by decide) _ _ _ rfl (ho1.alloc _) ⟨wr.heap.size, 0, none⟩ 1 1 [.int .i64 lo, .int .i64 hi', .int .i64 kd] rfl rfl ?c1 ?c2 ?c3 ?c4 ?c5 ?_))
        case c1 => exact cells_new _ _ _ _ rfl
        case c2 => simp [Value.oneCell']
        case c3 => unfold maxLen; omega
        case c4 => omega
        case c5 => simp; omega
        intro x' w3 ho3 hg3 _
        have hne := owns_ne (ho2.alloc (.cells #[.int .i64 lo, .int .i64 hi', .int .i64 kd] 57)) (ho1.alloc (.cells #[.int .i64 lo, .int .i64 hi', .int .i64 kd] 57)) (by decide)
        have ho4 := (ho2.alloc (.cells #[.int .i64 lo, .int .i64 hi', .int .i64 kd] 57)).kept hg3 hne
        have hBg := grown_below (B := w.heap.size) hg3 (by simp; omega) (fun b e => (ho1.lt _ e).1)
        have hB3 := (hB.alloc hzB (.cells #[.int .i64 lo, .int .i64 hi', .int .i64 kd] 57)).trans hBg
        have hz3 := hB3.size
        clear hne ho2 ho1 hg3 hBg hB
        go_wp2_with (at_builtin; refine wpList_append_own _ rfl _ _ 25 rfl w.heap.size 3 i0 (.int .i64 0) 1 8 Try.underlying25 hi hz0 hz1 hz2 rfl (by decide) _ _ _ rfl (ho4.alloc _) ⟨w3.heap.size, 0, none⟩ 1 1 [.int .i64 k] rfl rfl ?c1 ?c2 ?c3 ?c4 ?c5 ?_)
        case c1 => exact cells_new _ _ _ _ rfl
        case c2 => simp [Value.oneCell']
        case c3 => unfold maxLen; omega
        case c4 => omega
        case c5 => simp; omega
        intro y' w4 ho5 hg4 _
        have hne := owns_ne (ho3.alloc (.cells #[.int .i64 k] 3)) (ho4.alloc (.cells #[.int .i64 k] 3)) (by decide)
        have ho6 := (ho3.alloc (.cells #[.int .i64 k] 3)).kept hg4 hne
        have hBg := grown_below (B := w.heap.size) hg4 (by simp; omega) (fun b e => (ho4.lt _ e).1)
        have hB4 := (hB3.alloc hz3 (.cells #[.int .i64 k] 3)).trans hBg
        clear hne ho3 ho4 hg4 hBg hB3
        go_wp2_with fail
        refine ⟨⟨k + 1, by omega, by go_num, hB4, ?_, ?_⟩, by simp [intOf]; omega⟩
        · rw [E1.out]
          have e1 : (bagRows (chosenK bs s k ++ [⟨lo, hi', kd⟩])).length = (bagRows (chosenK bs s k)).length + 1 := by simp [bagRows]
          have e2 : (bagRows (chosenK bs s k ++ [⟨lo, hi', kd⟩])).flatten = (bagRows (chosenK bs s k)).flatten ++ [.int .i64 lo, .int .i64 hi', .int .i64 kd] := by simp [bagRows, Bag.row]
          rw [e1, e2]; exact ho6
        · rw [E2.out]
          have e1 : (ints (idxK s k ++ [(k : Int)])).length = (ints (idxK s k)).length + 1 := by simp [ints]
          have e2 : (ints (idxK s k ++ [(k : Int)])).flatten = (ints (idxK s k)).flatten ++ [.int .i64 k] := by simp [ints]
          rw [e1, e2]; exact ho5
    · obtain rfl : k = bs.length := by omega
      have r1 := Lib.hid (Rd.of_owns ho1 (fun r hr => by obtain ⟨z, -, rfl⟩ := List.mem_map.1 hr; rfl))
      have r2 := Lib.hid (Rd.of_owns ho2 (fun r hr => by obtain ⟨z, -, rfl⟩ := List.mem_map.1 hr; rfl))
      clear ho1 ho2
      go_wp2_with fail
      go_ret2
      exact ⟨_, _, rfl, r1.out, r2.out, hB⟩

set_option maxHeartbeats 400000 in
theorem least_all (v : Value) (bs : List Bag) (w : World) (h : Rd w 3 v (bagRows bs)) (hlen : bs.length ≤ 10) (hg : Good bs) :
    Calls Try.prog 51 #[v] w fun e w' => e = .returned (.int .i64 (sumTo Bag.lo bs bs.length)) ∧ Below w.heap.size w w' := by
  obtain ⟨sa, c, rfl, -, hm, hr⟩ := h.bags
  have H := Lib.hid hr
  have HG := Lib.hid hg.lo
  clear hr h hg
  go_enter Try.func51, Try.ntmps51
  go_wp2_with fail
  go_loopw [3, 4] (fun x i wr => ∃ k : Nat, k ≤ bs.length ∧ i = .int .i64 k ∧ x = .int .i64 (sumTo Bag.lo bs k) ∧ wr = w) (fun _ i _ => bs.length - (intOf i).toNat)
  case atStart => exact ⟨0, Nat.zero_le _, rfl, by rw [sumTo_zero], rfl⟩
  case round =>
    obtain ⟨k, hk, rfl, rfl, rfl⟩ := hrel
    have b1 := sumTo_bd _ bs 1000000 HG.out k hk
    by_cases hlt : k < bs.length
    · have hlt' : (k : Int) < bs.length := by omega
      obtain ⟨b, off, rfl, hbl, hc⟩ := H.out (by omega)
      obtain ⟨g1, g2, g3⟩ := hc k hlt
      clear hc
      have s1 := sumTo_succ Bag.lo bs k hlt
      have m1 := HG.out bs[k] (List.getElem_mem _)
      generalize bs[k] = x at g1 g2 g3 s1 m1
      generalize sumTo Bag.lo bs k = X at *
      obtain ⟨lo, hi, kd⟩ := x
      dsimp only at g1 g2 g3 m1 s1
      have S1 := Lib.hid s1
      clear s1
      go_wp2_with fail
      go_roundw
      case rel => exact ⟨k + 1, by omega, by go_num, by rw [S1.out], trivial⟩
      case measure => simp [intOf]; omega
    · obtain rfl : k = bs.length := by omega
      obtain ⟨X, hX⟩ : ∃ X, sumTo Bag.lo bs bs.length = X := ⟨_, rfl⟩
      rw [hX]
      have HX := Lib.hid hX
      clear hX b1
      go_wp2_with fail
      go_ret
      exact ⟨by rw [HX.out]; rfl, Below.refl _ _⟩

end Go.Proofs.Ytnombgiacfeloaa
