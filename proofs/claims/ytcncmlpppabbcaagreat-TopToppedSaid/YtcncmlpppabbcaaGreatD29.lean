/- The append of one number to a list of numbers (A1 and W26, turned). -/
import Derived.Test.YtcncmlpppabbcaaGreatM1
import Derived.Test.YtcncmlpppabbcaaGreatM8
import Derived.Deep.Upon
import Derived.Deep.AppendSrc
import Derived.RegionCalls
import Derived.WideShapes
import Derived.OwnWalk
import Derived.Test.YtcncmlpppabbcaaGreatProg
namespace Go.Proofs.YtcncmlpppabbcaaGreat
set_option linter.unusedVariables false
set_option linter.unusedSimpArgs false
open Go.RowKit

theorem flat_back {k : Nat} (hk : 0 < k) {rows : List (List Value)} (hl : ∀ r ∈ rows, r.length = k) {j : Nat} {u : Value} (h : rows.flatten[j]? = some u) : ∃ r, rows[j / k]? = some r ∧ r[j % k]? = some u := by
  have hlen : rows.flatten.length = rows.length * k := by
    clear h
    induction rows with
    | nil => simp
    | cons r rows ih => rw [List.flatten_cons, List.length_append, ih (fun r hr => hl r (List.mem_cons_of_mem _ hr)), hl r List.mem_cons_self, List.length_cons, Nat.add_mul]; omega
  have hj : j < rows.length * k := by rw [← hlen]; exact (List.getElem?_eq_some_iff.1 h).1
  have hq : j / k < rows.length := (Nat.div_lt_iff_lt_mul hk).2 hj
  have hp : j % k < k := Nat.mod_lt _ hk
  have hr := hl rows[j / k] (List.getElem_mem hq)
  have e1 : rows[j / k]? = some rows[j / k] := List.getElem?_eq_getElem hq
  have e2 : rows[j / k][j % k]? = some (rows[j / k][j % k]'(by omega)) := List.getElem?_eq_getElem (by omega)
  have := getElem?_flatten_const hl _ _ e1 _ _ e2
  rw [show j / k * k + j % k = j by rw [Nat.mul_comm]; exact Nat.div_add_mod j k, h] at this
  exact ⟨_, e1, by rw [e2]; exact this.symm⟩

theorem Rd.drop {w : World} {k n c b o : Nat} {rows : List (List Value)} (h : Rd w k (.slice (some ⟨b, o, none⟩) n c) rows) (i : Nat) (hi : i ≤ rows.length) : Rd w k (.slice (some ⟨b, o + i * k, none⟩) (n - i) (c - i)) (rows.drop i) := by
  obtain ⟨a', c', hv, hc, hm, hl, hr⟩ := h
  simp only [Value.slice.injEq] at hv
  obtain ⟨ha, rfl, rfl⟩ := hv
  have hlen : (rows.drop i).length = rows.length - i := by simp
  refine ⟨_, _, by rw [hlen], by omega, by omega, fun r hr => hl r (List.mem_of_mem_drop hr), fun h0 => ?_⟩
  obtain ⟨b', o', ha', hb, hcell⟩ := hr (by omega)
  rw [← ha] at ha'
  simp only [Option.some.injEq, Addr.mk.injEq, and_true] at ha'
  obtain ⟨rfl, rfl⟩ := ha'
  refine ⟨b, o + i * k, rfl, hb, fun j r hj p x hp => ?_⟩
  rw [List.getElem?_drop] at hj
  have := hcell (i + j) r hj p x hp
  rw [Nat.add_mul] at this
  rw [← this]
  congr 2
  omega

section
variable {P : Program}

theorem run_append_rd (w : World) (base : Nat) (t ty e : TypeId) (i : TypeInfo) (z : Value) (size bytes : Nat) (ht : P.underlying t = some (.slice e)) (hi : P.info? e = some i) (hz : i.zero = some z)
    (hsize : i.size = size) (hby : i.bytes = bytes) (hzs : z.cells.size = size) (hsz : 0 < size) (v : Value) (n : Nat) (xs : List Value) (hown : w.ownsRow base e size v n xs)
    (u : Value) (rows : List (List Value)) (hu : Rd w size u rows) (h1 : ∀ r ∈ rows, ∀ x ∈ r, x.oneCell' = true) (h63 : n + rows.length ≤ maxLen) (hbytes : (n + rows.length) * bytes ≤ 140737488355328) (hbase : base ≤ w.heap.size) :
    ∃ v' w', (Builtin.append_ #[t, t] ty #[v, u]).run P w = .ok v' w' ∧ w'.ownsRow base e size v' (n + rows.length) (xs ++ rows.flatten) ∧ w.grownBy w' v.ownBlock := by
  obtain ⟨a, c, rfl, hc, hm, hl, hr⟩ := hu
  cases a with
  | none =>
    have h0 : rows = [] := by
      cases rows with
      | nil => rfl
      | cons r rows => obtain ⟨b, off, ha, -⟩ := hr (by simp); simp at ha
    subst h0
    obtain ⟨bb, sl, sc, rfl, hle⟩ : ∃ bb sl sc, v = .slice bb sl sc ∧ sl ≤ sc := by
      rcases hown.2 with ⟨rfl, -⟩ | ⟨g, cap, cur, rfl, -, -, h, -⟩
      · exact ⟨_, _, _, rfl, Nat.le_refl _⟩
      · exact ⟨_, _, _, rfl, h⟩
    refine ⟨_, _, run_append_nothing w t t ty e i ht hi bb sl sc hle _ (Src.ofNil w ht c), by simpa using hown, World.grownBy.refl _ _⟩
  | some ad =>
    have hnews : ∀ j x, rows.flatten[j]? = some x → w.cell? (ad.add j) = some x := by
      intro j x hj
      obtain ⟨r, e1, e2⟩ := flat_back hsz hl hj
      have hpos : 0 < rows.length := Nat.lt_of_le_of_lt (Nat.zero_le _) (List.getElem?_eq_some_iff.1 e1).1
      obtain ⟨b, off, ha, -, hcell⟩ := hr hpos
      simp only [Option.some.injEq] at ha
      subst ha
      have := hcell _ _ e1 _ _ e2
      rw [Go.WideShapes.add_plain, ← this]
      congr 2
      rw [Nat.add_assoc, Nat.mul_comm, Nat.div_add_mod]
    have hlen : rows.flatten.length = rows.length * size := by
      clear hnews hr h63 hbytes h1 hm hc
      induction rows with
      | nil => simp
      | cons r rows ih => rw [List.flatten_cons, List.length_append, ih (fun r hr => hl r (List.mem_cons_of_mem _ hr)), hl r List.mem_cons_self, List.length_cons, Nat.add_mul]; omega
    obtain ⟨v', w', r1, r2, r3, -⟩ := run_append_own (P := P) w base t ty e i z size bytes ht hi hz hsize hby hzs hsz v n xs hown ad rows.length c rows.flatten hlen hnews
      (fun x hx => by obtain ⟨r, hr, hx⟩ := List.mem_flatten.1 hx; exact h1 r hr x hx) h63 hbytes hbase
    exact ⟨v', w', r1, r2, r3⟩

theorem wp_append_rd {o : Oper} {a : Act} {w : World} {K : Act → World → Prop} {Q : Exit → Act → World → Prop} (s x : Operand) (t : TypeId) (ho : o.op = .call { callee := .builtin .append, args := #[s, x], argTypes := #[t, t] })
    (base : Nat) (e : TypeId) (i : TypeInfo) (z : Value) (size bytes : Nat) (ht : P.underlying t = some (.slice e)) (hi : P.info? e = some i) (hz : i.zero = some z)
    (hsize : i.size = size) (hby : i.bytes = bytes) (hzs : z.cells.size = size) (hsz : 0 < size) (v : Value) (n : Nat) (xs : List Value) (hs : a.eval s = v) (hown : w.ownsRow base e size v n xs)
    (u : Value) (rows : List (List Value)) (hx : a.eval x = u) (hu : Rd w size u rows) (h1 : ∀ r ∈ rows, ∀ x ∈ r, x.oneCell' = true) (h63 : n + rows.length ≤ maxLen) (hbytes : (n + rows.length) * bytes ≤ 140737488355328) (hbase : base ≤ w.heap.size)
    (h : ∀ v' w', w'.ownsRow base e size v' (n + rows.length) (xs ++ rows.flatten) → w.grownBy w' v.ownBlock → K (a.put o.dst v') w') : o.wp P a w K Q := by
  obtain ⟨v', w', hr, h2, h3⟩ := run_append_rd (P := P) w base t o.type e i z size bytes ht hi hz hsize hby hzs hsz v n xs hown u rows hu h1 h63 hbytes hbase
  unfold Oper.wp execOp
  simp only [ho, resolve, invoke, builtin, Sem.run_bind, Sem.run_pure, Result.andThen_ok, List.map_toArray, List.map_cons, List.map_nil, hs, hx, hr]
  exact h v' w' h2 h3

theorem wpList_append_rd {ops : Array Oper} {rest : List Oper} {o : Oper} {a : Act} {w : World} {Q : Exit → Act → World → Prop} (hgd : o.guard = none) (s x : Operand) (t : TypeId) (ho : o.op = .call { callee := .builtin .append, args := #[s, x], argTypes := #[t, t] })
    (base : Nat) (e : TypeId) (i : TypeInfo) (z : Value) (size bytes : Nat) (ht : P.underlying t = some (.slice e)) (hi : P.info? e = some i) (hz : i.zero = some z)
    (hsize : i.size = size) (hby : i.bytes = bytes) (hzs : z.cells.size = size) (hsz : 0 < size) (v : Value) (n : Nat) (xs : List Value) (hs : a.eval s = v) (hown : w.ownsRow base e size v n xs)
    (u : Value) (rows : List (List Value)) (hx : a.eval x = u) (hu : Rd w size u rows) (h1 : ∀ r ∈ rows, ∀ x ∈ r, x.oneCell' = true) (h63 : n + rows.length ≤ maxLen) (hbytes : (n + rows.length) * bytes ≤ 140737488355328) (hbase : base ≤ w.heap.size)
    (h : ∀ v' w', w'.ownsRow base e size v' (n + rows.length) (xs ++ rows.flatten) → w.grownBy w' v.ownBlock → wpList P ops Q rest (a.put o.dst v') w') : wpList P ops Q (o :: rest) a w :=
  wpList_plain hgd fun _ hK => wp_append_rd s x t ho base e i z size bytes ht hi hz hsize hby hzs hsz v n xs hs hown u rows hx hu h1 h63 hbytes hbase fun v' w' h2 h3 => hK _ _ (h v' w' h2 h3)

theorem step_append_rd {ops : Array Oper} {o : Oper} {a : Act} {w : World} {K : Act → World → Prop} {Q : Exit → Act → World → Prop} {E : Prop} (hgd : o.guard = none) (s x : Operand) (t : TypeId) (ho : o.op = .call { callee := .builtin .append, args := #[s, x], argTypes := #[t, t] })
    (base : Nat) (e : TypeId) (i : TypeInfo) (z : Value) (size bytes : Nat) (ht : P.underlying t = some (.slice e)) (hi : P.info? e = some i) (hz : i.zero = some z)
    (hsize : i.size = size) (hby : i.bytes = bytes) (hzs : z.cells.size = size) (hsz : 0 < size) (v : Value) (n : Nat) (xs : List Value) (hs : a.eval s = v) (hown : w.ownsRow base e size v n xs)
    (u : Value) (rows : List (List Value)) (hx : a.eval x = u) (hu : Rd w size u rows) (h1 : ∀ r ∈ rows, ∀ x ∈ r, x.oneCell' = true) (h63 : n + rows.length ≤ maxLen) (hbytes : (n + rows.length) * bytes ≤ 140737488355328) (hbase : base ≤ w.heap.size)
    (h : ∀ v' w', w'.ownsRow base e size v' (n + rows.length) (xs ++ rows.flatten) → w.grownBy w' v.ownBlock → K (a.put o.dst v') w') : if Region.wanted o (yielded ops a.tmps) = true then Oper.wp P o a w K Q else E := by
  have hw : Region.wanted o (yielded ops a.tmps) = true := by simp [Region.wanted, hgd]
  rw [if_pos hw]
  exact wp_append_rd s x t ho base e i z size bytes ht hi hz hsize hby hzs hsz v n xs hs hown u rows hx hu h1 h63 hbytes hbase h

end

/-- A new block without cells is a row of one's own. -/
theorem owns_empty (w : World) (e : TypeId) (size : Nat) : (w.alloc (.cells #[] e)).ownsRow w.heap.size e size (.slice (some ⟨w.heap.size, 0, none⟩) 0 0) 0 [] :=
  ⟨by simp, .inr ⟨_, 0, #[], rfl, Nat.le_refl _, heap_alloc_new _ _, Nat.le_refl _, by unfold maxLen; omega, by simp, by simp⟩⟩

theorem info3a : (Tryz.prog.info? 3).map (fun i => (i.zero, i.size, i.bytes)) = some (some (.int .i64 0), 1, 8) := by kernel_rfl
theorem run_append_int (w : World) (base : Nat) (ty : TypeId) (i : TypeInfo) (hi : Tryz.prog.info? 3 = some i) (hz : i.zero = some (.int .i64 0)) (hsize : i.size = 1) (hby : i.bytes = 8) (v : Value) (n : Nat) (xs : List Value) (hown : w.ownsRow base 3 1 v n xs)
    (ad : Addr) (c : Nat) (x : Int) (hx : w.cell? ad = some (.int .i64 x)) (hn : n ≤ 1000) (hbase : base ≤ w.heap.size) :
    ∃ v' w', (Builtin.append_ #[26, 26] ty #[v, .slice (some ad) 1 c]).run Tryz.prog w = .ok v' w' ∧ w'.ownsRow base 3 1 v' (n + 1) (xs ++ [.int .i64 x]) ∧ w.grownBy w' v.ownBlock ∧ w'.ownsRow base 3 1 v n xs := by
  have hnews : ∀ j u, ([.int .i64 x] : List Value)[j]? = some u → w.cell? (ad.add j) = some u := by
    intro j u hj
    cases j with
    | zero =>
      simp at hj
      subst hj
      rw [show ad.add 0 = ad by cases ad; unfold Addr.add; split <;> simp_all]
      exact hx
    | succ j => simp at hj
  have h1 : ∀ u ∈ ([.int .i64 x] : List Value), u.oneCell' = true := by simp [Value.oneCell']
  obtain ⟨v', w', r1, r2, r3, -⟩ := run_append_own (P := Tryz.prog) w base 26 ty 3 i (.int .i64 0) 1 8 Tryz.underlying26 hi hz hsize hby rfl (by decide) v n xs hown ad 1 c [.int .i64 x] rfl hnews h1 (by unfold maxLen; omega) (by omega) hbase
  refine ⟨v', w', r1, r2, r3, hown.1, ?_⟩
  rcases hown.2 with hl | ⟨g, cap, cur, rfl, hbg, hg, hnc, hcm, hcs, htake⟩
  · exact .inl hl
  · refine .inr ?_
    by_cases hroom : n + 1 ≤ cap
    · have hr := run_append_room (P := Tryz.prog) w 26 ty 3 i Tryz.underlying26 hi g n cap cur hg ad 1 c [.int .i64 x] (by rw [hsize]; rfl) hnews h1 hroom (by rw [hsize]; simp; omega)
      rw [hr] at r1
      simp only [Result.ok.injEq] at r1
      obtain ⟨-, rfl⟩ := r1
      refine ⟨g, cap, _, rfl, hbg, setRow_heap w g cur _ 3 _ hg, hnc, hcm, ?_, ?_⟩
      · rw [hsize]
        simp only [List.size_toArray, List.length_append, List.length_take, List.length_drop, Array.length_toList, List.length_singleton]
        omega
      · rw [hsize, Nat.mul_one, List.append_assoc]
        have hx1 := hown.1
        rw [Nat.mul_one] at htake
        have ht : cur.toList.take n = xs := by simpa using htake
        rw [ht]
        have : xs.length = n := by have := hown.1; omega
        rw [← this]
        exact List.take_left
    · have holds : ∀ j u, xs[j]? = some u → w.cell? ((⟨g, 0, none⟩ : Addr).add j) = some u := hown.cells (g := g) rfl
      have hr := run_append_grow (P := Tryz.prog) w 26 ty 3 i (.int .i64 0) Tryz.underlying26 hi hz ⟨g, 0, none⟩ n cap xs (by rw [hsize]; exact hown.1) holds ad 1 c [.int .i64 x] (by rw [hsize]; rfl) hnews (by omega) (by omega) (growslice_fits (by omega) (by rw [hby]; omega))
      rw [hr] at r1
      simp only [Result.ok.injEq] at r1
      obtain ⟨-, rfl⟩ := r1
      exact ⟨g, cap, cur, rfl, hbg, (heap_alloc_old w.drew _ (Array.getElem?_eq_some_iff.1 hg).1).trans hg, hnc, hcm, hcs, htake⟩

theorem step_append_int {ops : Array Oper} {o : Oper} {a : Act} {w : World} {K : Act → World → Prop} {Q : Exit → Act → World → Prop} {E : Prop} (hgd : o.guard = none) (s y : Operand) (ho : o.op = .call { callee := .builtin .append, args := #[s, y], argTypes := #[26, 26] })
    (base : Nat) (i : TypeInfo) (hi : Tryz.prog.info? 3 = some i) (hz : i.zero = some (.int .i64 0)) (hsize : i.size = 1) (hby : i.bytes = 8) (v : Value) (n : Nat) (xs : List Value) (hs : a.eval s = v) (hown : w.ownsRow base 3 1 v n xs)
    (ad : Addr) (c : Nat) (x : Int) (hy : a.eval y = .slice (some ad) 1 c) (hx : w.cell? ad = some (.int .i64 x)) (hn : n ≤ 1000) (hbase : base ≤ w.heap.size)
    (h : ∀ v' w', w'.ownsRow base 3 1 v' (n + 1) (xs ++ [.int .i64 x]) → w.grownBy w' v.ownBlock → w'.ownsRow base 3 1 v n xs → K (a.put o.dst v') w') : if Region.wanted o (yielded ops a.tmps) = true then Oper.wp Tryz.prog o a w K Q else E := by
  have hw : Region.wanted o (yielded ops a.tmps) = true := by simp [Region.wanted, hgd]
  rw [if_pos hw]
  obtain ⟨v', w', hr, h2, h3, h4⟩ := run_append_int w base o.type i hi hz hsize hby v n xs hown ad c x hx hn hbase
  unfold Oper.wp execOp
  simp only [ho, resolve, invoke, builtin, Sem.run_bind, Sem.run_pure, Result.andThen_ok, List.map_toArray, List.map_cons, List.map_nil, hs, hy, hr]
  exact h v' w' h2 h3 h4

theorem ownsBel {w w' : World} {base : Nat} {e : TypeId} {size n : Nat} {v : Value} {xs : List Value} (h : w.ownsRow base e size v n xs) (hb : Below w.heap.size w w') : w'.ownsRow base e size v n xs := by
  refine ⟨h.1, ?_⟩
  rcases h.2 with hn | ⟨g, cap, cur, rfl, hbg, hgg, rest⟩
  · exact .inl hn
  · refine .inr ⟨g, cap, cur, rfl, hbg, ?_, rest⟩
    rw [hb.block g (Array.getElem?_eq_some_iff.1 hgg).1]
    exact hgg

theorem ownsCell {w : World} {base g o n cap : Nat} {xs : List Value} (h : w.ownsRow base 3 1 (.slice (some ⟨g, 0, none⟩) n cap) n xs) {u : Value} (hu : xs[o]? = some u) : w.cell? ⟨g, o, none⟩ = some u := by
  have := h.cells (g := g) rfl o u hu
  rw [Go.WideShapes.add_plain] at this
  rw [← this]
  congr 2
  omega

theorem ownsOne (w : World) (x : Value) : (w.alloc (.cells #[x] 3)).ownsRow w.heap.size 3 1 (.slice (some ⟨w.heap.size, 0, none⟩) 1 1) 1 [x] :=
  ⟨rfl, .inr ⟨_, 1, #[x], rfl, Nat.le_refl _, heap_alloc_new _ _, Nat.le_refl _, by unfold maxLen; omega, by simp, by simp⟩⟩

theorem rdInts {w : World} {base : Nat} {v : Value} {zs : List Int} (h : w.ownsRow base 3 1 v zs.length (zs.map (Value.int .i64))) : Rd w 1 v (ints zs) := by
  refine Rd.of_owns (base := base) (e := 3) (rows := ints zs) ?_ (fun r hr => by obtain ⟨z, -, rfl⟩ := List.mem_map.1 hr; rfl)
  have e2 : (ints zs).flatten = zs.map (Value.int .i64) := by
    unfold ints
    rw [← List.flatMap_def]
    simp [List.map_eq_flatMap]
  rw [ints_length, e2]
  exact h
/-- One number more on the row, at a row that is any value. -/
theorem step_apI {ops : Array Oper} {o : Oper} {a : Act} {wz : World} {K : Act → World → Prop} {Q : Exit → Act → World → Prop} {E : Prop} (WB : World)
    (hgd : o.guard = none) (s y : Operand) (ho : o.op = .call { callee := .builtin .append, args := #[s, y], argTypes := #[26, 26] }) (v : Value) (n : Nat) (xs : List Value) (x : Int) (hs : a.eval s = v) (hn : n ≤ 1000)
    (hy : a.eval y = .slice (some ⟨wz.heap.size, 0, none⟩) 1 1)
    (hown : (wz.alloc (.cells #[.int .i64 x] 3)).ownsRow WB.heap.size 3 1 v n xs) (hbw : Below WB.heap.size WB (wz.alloc (.cells #[.int .i64 x] 3)))
    (h : ∀ v' w', w'.ownsRow WB.heap.size 3 1 v' (n + 1) (xs ++ [.int .i64 x]) → (wz.alloc (.cells #[.int .i64 x] 3)).grownBy w' v.ownBlock → w'.ownsRow WB.heap.size 3 1 v n xs → Below WB.heap.size WB w' → K (a.put o.dst v') w') :
    if Region.wanted o (yielded ops a.tmps) = true then Oper.wp Tryz.prog o a (wz.alloc (.cells #[.int .i64 x] 3)) K Q else E := by
  obtain ⟨i, hi, hz, hsize, hby⟩ := info_parts info3a
  refine step_append_int hgd s y ho WB.heap.size i hi hz hsize hby v n xs hs hown ⟨wz.heap.size, 0, none⟩ 1 x hy ?_ hn hbw.size ?_
  · exact cell_new_lit wz [.int .i64 x] 3 0
  · intro v' w' h1 h2 h3
    exact h v' w' h1 h2 h3 (hbw.trans (grown_below h2 hbw.size fun j e => (hown.lt j e).1))
/-- The same, whatever the world is. -/
theorem step_apG {ops : Array Oper} {o : Oper} {a : Act} {wz : World} {K : Act → World → Prop} {Q : Exit → Act → World → Prop} {E : Prop} (WB : World)
    (hgd : o.guard = none) (s y : Operand) (ho : o.op = .call { callee := .builtin .append, args := #[s, y], argTypes := #[26, 26] }) (v : Value) (n : Nat) (xs : List Value) (x : Int) (hs : a.eval s = v) (hn : n ≤ 1000)
    (ad : Addr) (hy : a.eval y = .slice (some ad) 1 1) (hx : wz.cell? ad = some (.int .i64 x))
    (hown : wz.ownsRow WB.heap.size 3 1 v n xs) (hbw : Below WB.heap.size WB wz)
    (h : ∀ v' w', w'.ownsRow WB.heap.size 3 1 v' (n + 1) (xs ++ [.int .i64 x]) → wz.grownBy w' v.ownBlock → w'.ownsRow WB.heap.size 3 1 v n xs → Below WB.heap.size WB w' → K (a.put o.dst v') w') :
    if Region.wanted o (yielded ops a.tmps) = true then Oper.wp Tryz.prog o a wz K Q else E := by
  obtain ⟨i, hi, hz, hsize, hby⟩ := info_parts info3a
  refine step_append_int hgd s y ho WB.heap.size i hi hz hsize hby v n xs hs hown ad 1 x hy hx hn hbw.size ?_
  intro v' w' h1 h2 h3
  exact h v' w' h1 h2 h3 (hbw.trans (grown_below h2 hbw.size fun j e => (hown.lt j e).1))
/-- The empty row. -/
theorem owns_nil (w : World) (base : Nat) : w.ownsRow base 3 1 (.slice none 0 0) 0 [] := ⟨rfl, .inl ⟨rfl, rfl⟩⟩

end Go.Proofs.YtcncmlpppabbcaaGreat
