/- slices.Clone of numbers, and mould's joined: the spans from some numbers to others. -/
import Derived.Test.YtcncmlpppabbcaaGreatD29
import Derived.Test.YtcncmlpppabbcaaGreatD2
import Derived.Deep.RegionHeld3
import Derived.Lib.BufferMore
namespace Go.Proofs.YtcncmlpppabbcaaGreat
set_option linter.unusedVariables false
set_option linter.unusedSimpArgs false
open Go.RowKit
attribute [local go_sem] Oper.semAt_some

theorem keepN {W w1 : World} {n : Nat} (hb : Below n W w1) {b o : Nat} {v : Value} (hl : b < n) (h : W.cell? ⟨b, o, none⟩ = some v) : w1.cell? ⟨b, o, none⟩ = some v := by
  rw [hb.cell (p := ⟨b, o, none⟩) hl]; exact h
theorem ints_one1 (zs : List Int) : ∀ r ∈ ints zs, ∀ x ∈ r, x.oneCell' = true := by
  intro r hr x hx
  obtain ⟨z, -, rfl⟩ := List.mem_map.1 hr
  simp at hx
  subst hx
  rfl
theorem spans_one1 (zs : List (Int × Int)) : ∀ r ∈ spanRows zs, ∀ x ∈ r, x.oneCell' = true := by
  intro r hr x hx
  obtain ⟨z, -, rfl⟩ := List.mem_map.1 hr
  simp at hx
  rcases hx with rfl | rfl <;> rfl
theorem info23a : (Tryz.prog.info? 23).map (fun i => (i.zero, i.size, i.bytes)) = some (some (.agg #[.int .i64 0, .int .i64 0]), 2, 16) := by kernel_rfl

@[local go_sem] theorem nil26 (w : World) (a : Addr) (n c : Nat) : (binOp .eql 26 (.slice (some a) n c) (.slice none 0 0)).run Tryz.prog w = .ok (.bool false) w := Lib.run_eql_slice_some_nil w a n c Tryz.underlying26

set_option maxRecDepth 100000 in
set_option maxHeartbeats 1000000 in
theorem clone_any (b off n c : Nat) (zs : List Int) (w : World) (h : Rd w 1 (.slice (some ⟨b, off, none⟩) n c) (ints zs)) (hn : zs.length ≤ 1000) :
    Calls Tryz.prog 65 #[.slice (some ⟨b, off, none⟩) n c] w fun e w' => ∃ v', e = .returned v' ∧ Rd w' 1 v' (ints zs) ∧ Below w.heap.size w w' := by
  obtain ⟨i0, hi0, hz0, hz1, hz2⟩ := info_parts info3a
  have HR := Lib.hid (h.below (below_alloc1 w (.cells #[] 3)))
  have h1 : 0 + (ints zs).length ≤ maxLen := by rw [ints_length]; unfold maxLen; omega
  have h2 : (0 + (ints zs).length) * 8 ≤ 140737488355328 := by rw [ints_length]; omega
  have H1 := Lib.hid h1
  have H2 := Lib.hid h2
  clear h hn h1 h2
  go_enter Tryz.func65, Tryz.ntmps65
  go_wp2_with (at_builtin; refine wpList_append_rd rfl (.tmp 5) (.tmp 6) 26 rfl w.heap.size 3 i0 (.int .i64 0) 1 8 Tryz.underlying26 hi0 hz0 hz1 hz2 rfl (by decide) _ 0 [] (by rfl) (owns_empty w 3 1) _ (ints zs) (by rfl) HR.out (ints_one1 _) H1.out H2.out (by simp) ?_; intro V4 w4 own4 hg4)
  have hb4 : Below w.heap.size w w4 := (below_alloc1 w (.cells #[] 3)).trans (grown_below hg4 (by simp) (fun j e => by simp [Value.ownBlock] at e; omega))
  have hrd : Rd w4 1 V4 (ints zs) := Rd.of_owns (base := w.heap.size) (e := 3) (rows := ints zs) (by rw [Nat.zero_add, List.nil_append] at own4; exact own4) (fun r hr => by obtain ⟨z, -, rfl⟩ := List.mem_map.1 hr; rfl)
  clear own4 hg4
  go_ret
  exact ⟨V4, rfl, hrd, hb4⟩

theorem Rd.madeSpan (w : World) (x y : Int) : Rd (w.alloc (.cells #[.int .i64 x, .int .i64 y] 23)) 2 (.slice (some ⟨w.heap.size, 0, none⟩) 1 1) (spanRows [(x, y)]) := by
  refine ⟨_, _, rfl, by simp [spanRows], by simp [spanRows], by simp [spanRows], fun _ => ⟨_, _, rfl, by simp, ?_⟩⟩
  intro j r hj i z hi
  have hj0 : j = 0 := by
    have := (List.getElem?_eq_some_iff.1 hj).1
    simp [spanRows] at this
    exact this
  subst hj0
  simp [spanRows] at hj
  subst hj
  rw [cell_new_lit w [.int .i64 x, .int .i64 y] 23]
  simpa using hi

/-- The first k spans, cell by cell. -/
def jnRow (xs ys : List Int) (k : Nat) : List Value := (spanRows ((xs.zip ys).take k)).flatten
theorem jnRow_succ {xs ys : List Int} {k : Nat} (hx : k < xs.length) (hy : k < ys.length) : jnRow xs ys (k + 1) = jnRow xs ys k ++ (spanRows [(xs[k], ys[k])]).flatten := by
  unfold jnRow
  rw [List.take_succ_eq_append_getElem (by simp; omega)]
  simp [spanRows]

set_option maxRecDepth 100000 in
set_option maxHeartbeats 2000000 in
theorem joined_any (va vb : Value) (xs ys : List Int) (hl : xs.length = ys.length) (h0 : 0 < xs.length) (h8 : xs.length ≤ 100) (w : World) (ha : Rd w 1 va (ints xs)) (hb : Rd w 1 vb (ints ys)) :
    Calls Tryz.prog 67 #[va, vb, .func (.func 68) #[] #[]] w fun e w' => ∃ v', e = .returned v' ∧ Rd w' 2 v' (spanRows (xs.zip ys)) ∧ Below w.heap.size w w' := by
  obtain ⟨i0, hi0, hz0, hz1, hz2⟩ := info_parts info23a
  obtain ⟨a, c, rfl, -, hmx, hq⟩ := ha.ints
  obtain ⟨ba, oa, rfl, hba, hca⟩ := hq h0
  obtain ⟨a2, c2, rfl, -, hmx2, hq2⟩ := hb.ints
  obtain ⟨bb, ob, rfl, hbb, hcb⟩ := hq2 (by omega)
  have HCA := Lib.hid (fun (W : World) (hbW : Below w.heap.size w W) (j : Nat) (hj : j < xs.length) => show W.cell? ⟨ba, oa + j, none⟩ = some (.int .i64 xs[j]) by
    rw [hbW.cell (p := ⟨ba, _, none⟩) hba, hca j hj])
  have HCB := Lib.hid (fun (W : World) (hbW : Below w.heap.size w W) (j : Nat) (hj : j < ys.length) => show W.cell? ⟨bb, ob + j, none⟩ = some (.int .i64 ys[j]) by
    rw [hbW.cell (p := ⟨bb, _, none⟩) hbb, hcb j hj])
  have HS := Lib.hid (fun (k : Nat) (hx : k < xs.length) (hy : k < ys.length) => jnRow_succ (xs := xs) (ys := ys) (k := k) hx hy)
  have hle : ys.length ≤ 100 := by omega
  have l0 : 0 < ys.length := by omega
  have HL := Lib.hid hl
  clear ha hb hq hq2 hca hcb hl
  go_enter Tryz.func67, Tryz.ntmps67
  go_wp2_with fail
  go_loopw [6, 10] (fun v i wr => ∃ k : Nat, k ≤ xs.length ∧ i = .int .i64 k ∧ Hid (Below w.heap.size w wr) ∧ Hid (wr.ownsRow w.heap.size 23 2 v k (jnRow xs ys k))) (fun _ i _ => xs.length - (intOf i).toNat)
  case atStart => exact ⟨0, Nat.zero_le _, rfl, Lib.hid (Below.refl _ _), Lib.hid ⟨by simp [jnRow, spanRows], .inl ⟨rfl, rfl⟩⟩⟩
  case round =>
    obtain ⟨k, hk, rfl, hB, hown⟩ := hrel
    by_cases hlt : k < xs.length
    · have hlt' : (k : Int) < xs.length := by omega
      have hly : k < ys.length := by have := HL.out; omega
      have hly' : (k : Int) < ys.length := by omega
      have ca := HCA.out wr hB.out k hlt
      have cb := HCB.out wr hB.out k hly
      have HSS := Lib.hid (HS.out k hlt hly)
      generalize xs[k] = x at *
      generalize ys[k] = y at *
      have hz := hB.out.size
      go_upto_region 4 with fail
      have hd := Below.drew (Below.refl wr.heap.size wr)
      go_region_held3 (fun w' => w'.cell? ⟨ba, oa + k, none⟩ = some (.int .i64 x) ∧ w'.cell? ⟨bb, ob + k, none⟩ = some (.int .i64 y))
        (first
          | with_reducible exact ⟨keep hd ca, keep hd cb⟩
          | with_reducible exact ⟨keep hb3 ca, keep hb3 cb⟩
          | with_reducible exact ⟨keep ha3 ca, keep ha3 cb⟩
          | with_reducible exact ⟨keepN hb5 hba ca, keepN hb5 hbb cb⟩)
        (first
          | (go_at_call 68; refine (spanM_any x y _).mono ?_; rintro e w3 ⟨rfl, hb⟩; have hb3 : Below wr.heap.size wr w3 := belT hd hb; have ha3 : Below wr.heap.size wr (w3.alloc (.cells #[.int .i64 x, .int .i64 y] 23)) := hb3.alloc hb3.size _)
          | (refine step_append_rd rfl (.tmp 13) (.tmp 24) 50 rfl w.heap.size 23 i0 (.agg #[.int .i64 0, .int .i64 0]) 2 16 Tryz.underlying50 hi0 hz0 hz1 hz2 rfl (by decide) u6 k _ (by rfl) (ownsBel hown.out ha3) _ (spanRows [(x, y)]) (by rfl) (Rd.madeSpan w3 x y) (spans_one1 _) (by rw [spanRows_length]; unfold maxLen; simp; omega) (by rw [spanRows_length]; simp; omega) (Nat.le_trans hz ha3.size) ?_; intro V5 W5 own5 gr5; have hb5 : Below w.heap.size wr W5 := (ha3.mono hz).trans (grown_below gr5 (Nat.le_trans hz ha3.size) (fun j e => (hown.out.lt j e).1))))
      have OWN5 : Hid (W5.ownsRow w.heap.size 23 2 V5 (k + 1) (jnRow xs ys (k + 1))) := Lib.hid (by
        rw [HSS.out]
        rw [spanRows_length] at own5
        exact own5)
      have HB5 := Lib.hid (hB.out.trans hb5)
      clear own5 gr5 hb5 ha3 hb3 hb hd
      go_wp2_with fail
      go_roundw
      case rel => exact ⟨k + 1, by omega, by go_num, HB5, OWN5⟩
      case measure => simp [intOf]; omega
    · obtain rfl : k = xs.length := by omega
      have hrd : Rd wr 2 u6 (spanRows (xs.zip ys)) := Rd.of_owns (base := w.heap.size) (e := 23) (by
        have e1 : (spanRows (xs.zip ys)).length = xs.length := by rw [spanRows_length, List.length_zip]; have := HL.out; omega
        have e2 : (spanRows (xs.zip ys)).flatten = jnRow xs ys xs.length := by
          unfold jnRow
          rw [List.take_of_length_le (by rw [List.length_zip]; omega)]
        rw [e1, e2]
        exact hown.out) (fun r hr => by obtain ⟨z, -, rfl⟩ := List.mem_map.1 hr; rfl)
      have HRD := Lib.hid hrd
      clear hrd hown
      go_wp2_with fail
      go_ret
      exact ⟨u6, rfl, HRD.out, hB.out⟩

end Go.Proofs.YtcncmlpppabbcaaGreat
