/- Contracts: slices.Repeat of one element, a few times. -/
import Derived.Test.YtcncmlpppabbcaaGreatD9
import Derived.Test.YtcncmlpppabbcaaGreatM1
import Derived.Test.YtcncmlpppabbcaaGreatW6
import Derived.Laws.CopyOwn
import Derived.Deep.RegionLaw
namespace Go.Proofs.YtcncmlpppabbcaaGreat
set_option linter.unusedVariables false
set_option linter.unusedSimpArgs false
open Go.RowKit
attribute [local go_sem] Oper.semAt_some

theorem splice_fill {α : Type} (x : α) (cur : List α) (k m n : Nat) (hl : cur.length = n) (hk : cur.take k = List.replicate k x) (hkn : k + m ≤ n) :
    (splice cur k (List.replicate m x)).length = n ∧ (splice cur k (List.replicate m x)).take (k + m) = List.replicate (k + m) x := by
  refine ⟨by rw [length_splice _ _ _ (by simp; omega)]; exact hl, ?_⟩
  unfold splice
  rw [hk, ← List.append_assoc, List.replicate_append_replicate]
  exact List.take_left' (by simp)
theorem size4r : (Tryz.prog.info? 4).map (·.size) = some 1 := by kernel_rfl
theorem size3r : (Tryz.prog.info? 3).map (·.size) = some 1 := by kernel_rfl
theorem info4r : (Tryz.prog.info? 4).map (fun i => (i.zero, i.size, i.bytes)) = some (some (.bool false), 1, 1) := by kernel_rfl
theorem info3r : (Tryz.prog.info? 3).map (fun i => (i.zero, i.size, i.bytes)) = some (some (.int .i64 0), 1, 8) := by kernel_rfl

set_option maxRecDepth 100000 in
set_option maxHeartbeats 1000000 in
theorem repeat90_any (x : Int) (n H : Nat) (hn : 1 ≤ n ∧ n ≤ 8) (w : World) (hx : w.cell? ⟨H, 0, none⟩ = some (Value.int .i64 x)) :
    Calls Tryz.prog 90 #[.slice (some ⟨H, 0, none⟩) 1 1, .int .i64 n] w fun e w' => ∃ L, e = .returned (.slice (some ⟨L, 0, none⟩) n n) ∧ w.heap.size ≤ L ∧ w'.heap[L]? = some (.cells (List.replicate n (Value.int .i64 x)).toArray 3 (0, 0)) ∧ Below w.heap.size w w' := by
  obtain ⟨h1, h8⟩ := hn
  have i1 : (1 : Int) ≤ n := by omega
  have i8 : (n : Int) ≤ 8 := by omega
  have HL := lt_of_cell hx
  obtain ⟨i0, hi, hz0, hz1, hz2⟩ := info_parts info3r
  go_enter Tryz.func90, Tryz.ntmps90
  go_upto_region 3 with fail
  go_wp2_with (first | (go_at_call 91; refine (mul_one n h8 _).mono ?_; rintro e w' ⟨rfl, rfl⟩) | (at_make; refine wpList_make_full _ rfl _ _ 26 rfl w.heap.size 3 i0 (Value.int .i64 0) 1 Tryz.underlying26 hi hz0 hz1 .i64 .i64 n n n rfl rfl rfl rfl (by rw [hz2]; omega) (by unfold maxLen; omega) (Nat.le_refl _) ?_))
  intro w1 hown hg
  obtain ⟨cur, hblk, hcl⟩ := owns_block hown
  have hB1 : Below w.heap.size w w1 := grown_below hg (Nat.le_refl _) (by simp)
  have hx1 := keep hB1 hx
  have HBLK := Lib.hid hblk
  have HX := Lib.hid hx1
  clear hown hg hblk hx1 hx
  go_wp2_with (with_reducible refine wpList_copy_splice (o := ⟨some 33, _, _, _, _, _⟩) rfl (.tmp 31) (.tmp 32) 26 26 rfl 3 Tryz.underlying26 size3r (some ⟨w.heap.size, 0, none⟩) (some ⟨H, 0, none⟩) n n 1 1 ?d1 ?d2 w.heap.size 0 cur 3 HBLK.out [Value.int .i64 x] ?d3 ?d4 ?c2 ?d5 w.heap.size w hB1 (Nat.le_refl _) ?_)
  case d1 => rfl
  case d2 => rfl
  case d3 => show 1 = Nat.min 1 n; exact (Nat.min_eq_left h1).symm
  case d4 =>
    first
      | (intro _
         refine ⟨rfl, _, rfl, fun j v hj => ?_⟩
         obtain ⟨hj1, rfl⟩ := List.getElem?_eq_some_iff.1 hj
         obtain rfl : j = 0 := by simpa using hj1
         exact HX.out)
      | (intro j v hj
         obtain ⟨hj1, rfl⟩ := List.getElem?_eq_some_iff.1 hj
         obtain rfl : j = 0 := by simpa using hj1
         exact HX.out)
  case c2 => simp [hcl]; omega
  case d5 => intro v hv; obtain rfl := List.mem_singleton.1 hv; rfl
  intro w2 hblk2 hB2
  have hf := splice_fill (Value.int .i64 x) cur 0 1 n hcl (by simp) (by omega)
  have HI := Lib.hid (And.intro hblk2.out (And.intro hf.1 (And.intro hf.2 hB2)))
  clear hf hblk2 HBLK HX hB1 hB2
  go_wp2_with fail
  go_loopw [8] (fun c wr => ∃ (k : Nat) (cur : List Value), 1 ≤ k ∧ k ≤ n ∧ c = .int .i64 k ∧ Hid (wr.heap[w.heap.size]? = some (.cells cur.toArray 3 (0, 0)) ∧ cur.length = n ∧ cur.take k = List.replicate k (Value.int .i64 x) ∧ Below w.heap.size w wr)) (fun c _ => n - (intOf c).toNat)
  case atStart => exact ⟨1, _, Nat.le_refl _, h1, rfl, HI⟩
  case round =>
    clear HI
    obtain ⟨k, cur, hk1, hk, rfl, HI⟩ := hrel
    by_cases hlt : k < n
    · have hlt' : (k : Int) < n := by omega
      obtain ⟨q, hq⟩ : ∃ q, Nat.min k (n - k) = q := ⟨_, rfl⟩
      have hm0 : q ≤ n - k := hq ▸ Nat.min_le_right _ _
      have hm2 : q ≤ k := hq ▸ Nat.min_le_left _ _
      have hm1 : 1 ≤ q := hq ▸ Nat.le_min.2 ⟨hk1, by omega⟩
      have hlen : (List.replicate q (Value.int .i64 x)).length = q := List.length_replicate
      have hfit : k + (List.replicate q (Value.int .i64 x)).length ≤ cur.length := by rw [hlen, HI.out.2.1]; omega
      have h1c : ∀ v ∈ List.replicate q (Value.int .i64 x), v.oneCell' = true := fun v hv => by obtain ⟨-, rfl⟩ := List.mem_replicate.1 hv; rfl
      have hcells : ∀ (j : Nat) (v : Value), (List.replicate q (Value.int .i64 x))[j]? = some v → wr.cell? (Addr.add ⟨w.heap.size, 0, none⟩ j) = some v := by
        intro j v hj
        rw [show Addr.add ⟨w.heap.size, 0, none⟩ j = ⟨w.heap.size, j, none⟩ from by unfold Addr.add; by_cases e : j = 0 <;> simp [e]]
        obtain ⟨hj1, rfl⟩ := List.getElem?_eq_some_iff.1 hj
        rw [hlen] at hj1
        rw [List.getElem_replicate, cell_of_row wr _ _ _ 3 (0, 0) HI.out.1]
        have e1 : cur[j]? = (cur.take k)[j]? := (List.getElem?_take_of_lt (by omega)).symm
        simp only [List.getElem?_toArray]
        rw [e1, HI.out.2.2.1, List.getElem?_replicate, if_pos (by omega)]
      have HC := Lib.hid hcells
      clear hcells
      go_upto_region 9 with fail
      have hne : ¬ n = k := by omega
      go_region_law (refine step_copy_splice rfl (.tmp 41) (.tmp 44) 26 26 rfl 3 Tryz.underlying26 size3r (some ⟨w.heap.size, k, none⟩) (some ⟨w.heap.size, 0, none⟩) (n - k) (n - k) k n (by simp [Act.eval, Act.put, hne]) (by simp [Act.eval, Act.put]) w.heap.size k cur 3 HI.out.1 (List.replicate q (Value.int .i64 x)) (hlen.trans hq.symm) (fun _ => ⟨rfl, _, rfl, HC.out⟩) hfit h1c w.heap.size w HI.out.2.2.2.drew (Nat.le_refl _) ?_; intro w4 hg4 hb4)
      have hf := splice_fill (Value.int .i64 x) cur k q n HI.out.2.1 HI.out.2.2.1 (by omega)
      have HF := Lib.hid (And.intro hg4.out (And.intro hf.1 (And.intro hf.2 hb4)))
      clear HI hf hg4 hb4 hq hlen hfit h1c HC
      have hw : IntKind.i64.wrap ((k : Int) + (q : Int)) = ((k + q : Nat) : Int) := by rw [IntKind.wrap_i64]; omega
      rw [hw]
      simp [Act.put]
      go_roundw
      case rel => first | exact ⟨k + q, _, by omega, by omega, by go_num, HF⟩ | exact ⟨_, _, _, _, _, _, _, _, _, _, _, _, _, _, ⟨k + q, _, by omega, by omega, by go_num, HF⟩, rfl⟩
      case measure => simp [intOf]; omega
    · obtain rfl : k = n := by omega
      go_wp2_with fail
      go_ret
      refine ⟨_, rfl, Nat.le_refl _, ?_, HI.out.2.2.2⟩
      have e : cur = List.replicate k (Value.int .i64 x) := by rw [← HI.out.2.2.1, ← HI.out.2.1, List.take_length]
      rw [← e]
      exact HI.out.1

set_option maxRecDepth 100000 in
set_option maxHeartbeats 1000000 in
theorem repeat62_any (x : Bool) (n H : Nat) (hn : 1 ≤ n ∧ n ≤ 8) (w : World) (hx : w.cell? ⟨H, 0, none⟩ = some (Value.bool x)) :
    Calls Tryz.prog 62 #[.slice (some ⟨H, 0, none⟩) 1 1, .int .i64 n] w fun e w' => ∃ L, e = .returned (.slice (some ⟨L, 0, none⟩) n n) ∧ w.heap.size ≤ L ∧ w'.heap[L]? = some (.cells (List.replicate n (Value.bool x)).toArray 4 (0, 0)) ∧ Below w.heap.size w w' := by
  obtain ⟨h1, h8⟩ := hn
  have i1 : (1 : Int) ≤ n := by omega
  have i8 : (n : Int) ≤ 8 := by omega
  have HL := lt_of_cell hx
  obtain ⟨i0, hi, hz0, hz1, hz2⟩ := info_parts info4r
  go_enter Tryz.func62, Tryz.ntmps62
  go_upto_region 3 with fail
  go_wp2_with (first | (go_at_call 91; refine (mul_one n h8 _).mono ?_; rintro e w' ⟨rfl, rfl⟩) | (at_make; refine wpList_make_full _ rfl _ _ 118 rfl w.heap.size 4 i0 (Value.bool false) 1 Tryz.underlying118 hi hz0 hz1 .i64 .i64 n n n rfl rfl rfl rfl (by rw [hz2]; omega) (by unfold maxLen; omega) (Nat.le_refl _) ?_))
  intro w1 hown hg
  obtain ⟨cur, hblk, hcl⟩ := owns_block hown
  have hB1 : Below w.heap.size w w1 := grown_below hg (Nat.le_refl _) (by simp)
  have hx1 := keep hB1 hx
  have HBLK := Lib.hid hblk
  have HX := Lib.hid hx1
  clear hown hg hblk hx1 hx
  go_wp2_with (with_reducible refine wpList_copy_splice (o := ⟨some 33, _, _, _, _, _⟩) rfl (.tmp 31) (.tmp 32) 118 118 rfl 4 Tryz.underlying118 size4r (some ⟨w.heap.size, 0, none⟩) (some ⟨H, 0, none⟩) n n 1 1 ?d1 ?d2 w.heap.size 0 cur 4 HBLK.out [Value.bool x] ?d3 ?d4 ?c2 ?d5 w.heap.size w hB1 (Nat.le_refl _) ?_)
  case d1 => rfl
  case d2 => rfl
  case d3 => show 1 = Nat.min 1 n; exact (Nat.min_eq_left h1).symm
  case d4 =>
    first
      | (intro _
         refine ⟨rfl, _, rfl, fun j v hj => ?_⟩
         obtain ⟨hj1, rfl⟩ := List.getElem?_eq_some_iff.1 hj
         obtain rfl : j = 0 := by simpa using hj1
         exact HX.out)
      | (intro j v hj
         obtain ⟨hj1, rfl⟩ := List.getElem?_eq_some_iff.1 hj
         obtain rfl : j = 0 := by simpa using hj1
         exact HX.out)
  case c2 => simp [hcl]; omega
  case d5 => intro v hv; obtain rfl := List.mem_singleton.1 hv; rfl
  intro w2 hblk2 hB2
  have hf := splice_fill (Value.bool x) cur 0 1 n hcl (by simp) (by omega)
  have HI := Lib.hid (And.intro hblk2.out (And.intro hf.1 (And.intro hf.2 hB2)))
  clear hf hblk2 HBLK HX hB1 hB2
  go_wp2_with fail
  go_loopw [8] (fun c wr => ∃ (k : Nat) (cur : List Value), 1 ≤ k ∧ k ≤ n ∧ c = .int .i64 k ∧ Hid (wr.heap[w.heap.size]? = some (.cells cur.toArray 4 (0, 0)) ∧ cur.length = n ∧ cur.take k = List.replicate k (Value.bool x) ∧ Below w.heap.size w wr)) (fun c _ => n - (intOf c).toNat)
  case atStart => exact ⟨1, _, Nat.le_refl _, h1, rfl, HI⟩
  case round =>
    clear HI
    obtain ⟨k, cur, hk1, hk, rfl, HI⟩ := hrel
    by_cases hlt : k < n
    · have hlt' : (k : Int) < n := by omega
      obtain ⟨q, hq⟩ : ∃ q, Nat.min k (n - k) = q := ⟨_, rfl⟩
      have hm0 : q ≤ n - k := hq ▸ Nat.min_le_right _ _
      have hm2 : q ≤ k := hq ▸ Nat.min_le_left _ _
      have hm1 : 1 ≤ q := hq ▸ Nat.le_min.2 ⟨hk1, by omega⟩
      have hlen : (List.replicate q (Value.bool x)).length = q := List.length_replicate
      have hfit : k + (List.replicate q (Value.bool x)).length ≤ cur.length := by rw [hlen, HI.out.2.1]; omega
      have h1c : ∀ v ∈ List.replicate q (Value.bool x), v.oneCell' = true := fun v hv => by obtain ⟨-, rfl⟩ := List.mem_replicate.1 hv; rfl
      have hcells : ∀ (j : Nat) (v : Value), (List.replicate q (Value.bool x))[j]? = some v → wr.cell? (Addr.add ⟨w.heap.size, 0, none⟩ j) = some v := by
        intro j v hj
        rw [show Addr.add ⟨w.heap.size, 0, none⟩ j = ⟨w.heap.size, j, none⟩ from by unfold Addr.add; by_cases e : j = 0 <;> simp [e]]
        obtain ⟨hj1, rfl⟩ := List.getElem?_eq_some_iff.1 hj
        rw [hlen] at hj1
        rw [List.getElem_replicate, cell_of_row wr _ _ _ 4 (0, 0) HI.out.1]
        have e1 : cur[j]? = (cur.take k)[j]? := (List.getElem?_take_of_lt (by omega)).symm
        simp only [List.getElem?_toArray]
        rw [e1, HI.out.2.2.1, List.getElem?_replicate, if_pos (by omega)]
      have HC := Lib.hid hcells
      clear hcells
      go_upto_region 9 with fail
      have hne : ¬ n = k := by omega
      go_region_law (refine step_copy_splice rfl (.tmp 41) (.tmp 44) 118 118 rfl 4 Tryz.underlying118 size4r (some ⟨w.heap.size, k, none⟩) (some ⟨w.heap.size, 0, none⟩) (n - k) (n - k) k n (by simp [Act.eval, Act.put, hne]) (by simp [Act.eval, Act.put]) w.heap.size k cur 4 HI.out.1 (List.replicate q (Value.bool x)) (hlen.trans hq.symm) (fun _ => ⟨rfl, _, rfl, HC.out⟩) hfit h1c w.heap.size w HI.out.2.2.2.drew (Nat.le_refl _) ?_; intro w4 hg4 hb4)
      have hf := splice_fill (Value.bool x) cur k q n HI.out.2.1 HI.out.2.2.1 (by omega)
      have HF := Lib.hid (And.intro hg4.out (And.intro hf.1 (And.intro hf.2 hb4)))
      clear HI hf hg4 hb4 hq hlen hfit h1c HC
      have hw : IntKind.i64.wrap ((k : Int) + (q : Int)) = ((k + q : Nat) : Int) := by rw [IntKind.wrap_i64]; omega
      rw [hw]
      simp [Act.put]
      go_roundw
      case rel => first | exact ⟨k + q, _, by omega, by omega, by go_num, HF⟩ | exact ⟨_, _, _, _, _, _, _, _, _, _, _, _, _, _, ⟨k + q, _, by omega, by omega, by go_num, HF⟩, rfl⟩
      case measure => simp [intOf]; omega
    · obtain rfl : k = n := by omega
      go_wp2_with fail
      go_ret
      refine ⟨_, rfl, Nat.le_refl _, ?_, HI.out.2.2.2⟩
      have e : cur = List.replicate k (Value.bool x) := by rw [← HI.out.2.2.1, ← HI.out.2.1, List.take_length]
      rw [← e]
      exact HI.out.1

end Go.Proofs.YtcncmlpppabbcaaGreat
