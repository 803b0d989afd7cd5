/- The walk of mould's when: in which minute each ring sets. -/
import Derived.Test.YtcncmlpppabbcaaGreatD18
import Derived.Test.YtcncmlpppabbcaaGreatD7h
import Derived.Test.YtcncmlpppabbcaaGreatD10
import Derived.Maps.RangeWalk
import Derived.Maps.OwnIn
import Derived.LoopIn
import Derived.LoopNIn
import Derived.OwnWalkIn
import Derived.TacticsInMore
namespace Go.Proofs.YtcncmlpppabbcaaGreat
set_option linter.unusedVariables false
set_option linter.unusedSimpArgs false
open Go.RowKit Go.Maps
attribute [local go_sem] Oper.semAt_some

theorem mlaw3 : Keyed Tryz.prog 3 := int_keyed Tryz.underlying3
theorem zero3 (w : World) : (zeroValue 3).run Tryz.prog w = .ok (.int .i64 0) w := by kernel_rfl
theorem ringK_wf {j : Nat} (h : j < 8) : (Lit.int .i64 (j : Int)).wf = true := WalkArith.wf_i64 (by omega)

/-- What holds on the way through a minute. -/
structure Mid (m : Mo) (p wl : Int) (rn k j n0 N0 : Nat) (w W wr : World) (D : DataW Unit) : Prop where
  B : Below n0 w wr
  M : MoAt wr n0 m
  s : wr.cell? ⟨n0 + 2, 0, none⟩ = some (.map (some (n0 + 1)))
  o : wr.ownsMap Tryz.prog 3 (plainElem Tryz.prog 3) (n0 + 1) (many (wf m p wl k j) rn) D
  h : Holds D rn (wf m p wl k j)
  S : SameAt (fun b => N0 ≤ b ∨ (b = n0 + 3 ∨ b = n0 + 4)) W wr

theorem Mid.put {m : Mo} {p wl : Int} {rn k j n0 N0 : Nat} {w W wr w1 : World} {D : DataW Unit} (h : Mid m p wl rn k j n0 N0 w W wr D) (hN : n0 + 5 ≤ N0) (hj : j < rn) (hf : wf m p wl k j j = none) (hs : stR m p wl k j ≤ m.set)
    (ho : w1.ownsMap Tryz.prog 3 (plainElem Tryz.prog 3) (n0 + 1) (many (wf m p wl k j) rn + 1) (D.put (.int .i64 (j : Int)) (.lit (.int .i64 (k : Int))))) (hg : wr.grownBy w1 (some (n0 + 1))) :
    ∃ D', Mid m p wl rn k (j + 1) n0 N0 w W w1 D' := by
  have hw := wf_put hf hs
  refine ⟨D.put (.int .i64 (j : Int)) (.lit (.int .i64 (k : Int))), ⟨hg.os.trans h.B.os, hg.tape.trans h.B.tape, hg.output.trans h.B.output, Nat.le_trans h.B.size hg.size, fun i hi => (hg.block i (by have := lt_of_cell h.s; omega) (by simp; omega)).trans (h.B.block i hi)⟩, h.M.same8 (hg.block _ h.M.lt (by simp)), ?_, ?_, ?_, h.S.trans (SameAt.of_grown hg (by omega))⟩
  · exact (World.cell?_of_block (hg.block _ (lt_of_cell h.s) (by simp))).trans h.s
  · rw [hw, many_put hf, if_pos hj]; exact ho
  · rw [hw]; exact h.h.put k hj hf
theorem Mid.skip {m : Mo} {p wl : Int} {rn k j n0 N0 : Nat} {w W wr : World} {D : DataW Unit} (h : Mid m p wl rn k j n0 N0 w W wr D) (hf : ¬ (wf m p wl k j j = none ∧ stR m p wl k j ≤ m.set)) :
    ∃ D', Mid m p wl rn k (j + 1) n0 N0 w W wr D' := by
  have hw := wf_skip hf
  exact ⟨D, h.B, h.M, h.s, by rw [hw]; exact h.o, by rw [hw]; exact h.h, h.S⟩

/-- What lies in a ring's place while the map is gone through. -/
def valF (F : Nat → Option Nat) (left : Lit → Bool) (i : Nat) : Int :=
  match F i with
  | some v => if left (ringK i) then 601 else v
  | none => 601
theorem valF_start {H : Type} {D : DataW H} {r : Nat} {F : Nat → Option Nat} (h : Holds D r F) {i : Nat} (hi : i < r) : valF F (Maps.has D) i = 601 := by
  have hh := h.has_iff hi
  unfold valF
  cases hF : F i with
  | some v => rw [hF] at hh; simp only; rw [if_pos (show Maps.has D (ringK i) = true from hh)]
  | none => rfl
theorem valF_end {F : Nat → Option Nat} {left : Lit → Bool} (h : ∀ kl, left kl = false) (i : Nat) : valF F left i = match F i with | some n => (n : Int) | none => 601 := by
  unfold valF
  cases hF : F i with
  | some v => simp only; rw [if_neg (by rw [h]; simp)]
  | none => rfl
theorem valF_step {F : Nat → Option Nat} {left : Lit → Bool} {j n : Nat} (hj : F j = some n) (i : Nat) : putR (valF F left) j n i = valF F (fun z => left z && !z.sameKey (.int .i64 (j : Int))) i := by
  unfold putR
  by_cases e : i = j
  · subst e
    rw [if_pos rfl]
    have hk : (ringK i).sameKey (.int .i64 (i : Int)) = true := WideAt.sameKey_self (ringK_key i)
    unfold valF
    rw [hj]
    simp only [hk]
    simp
  · rw [if_neg e]
    have hk : (ringK i).sameKey (.int .i64 (j : Int)) = false := Maps.sameKey_ne (ringK_ne e)
    unfold valF
    simp only [hk, Bool.not_false, Bool.and_true]
/-- The entry that has come. -/
theorem Holds.entry {H : Type} {D : DataW H} {r : Nat} {F : Nat → Option Nat} (h : Holds D r F) {x c : Int} (hat : ∀ zd, D.atKey (.int .i64 x) zd = .lit (.int .i64 c)) : ∃ i n : Nat, i < r ∧ x = i ∧ c = n ∧ F i = some n := by
  obtain ⟨i, hi, e, hs⟩ := h.here _ (Maps.has_true_of_atKey hat)
  obtain ⟨n, hn⟩ := Option.isSome_iff_exists.1 hs
  have hx : x = i := by
    simp only [ringK, Lit.int.injEq, true_and] at e
    exact e
  subst hx
  have ha := (h.all i n hi hn).2 (.lit (.int .i64 0))
  rw [show ringK i = .int .i64 (i : Int) from rfl, hat] at ha
  simp only [DataW.lit.injEq, Lit.int.injEq, true_and] at ha
  exact ⟨i, n, hi, rfl, ha, hn⟩

/-- In which minute a ring sets where all is at one side; 601: in none. -/
def whenF (m : Mo) (p wl : Int) (i : Nat) : Int := match fs m p wl i 601 with | some n => (n : Int) | none => 601
def whenL (m : Mo) (p wl : Int) : List Int := (List.range m.rings.toNat).map (whenF m p wl)
theorem whenL_length (m : Mo) (p wl : Int) : (whenL m p wl).length = m.rings.toNat := by simp [whenL]

set_option maxRecDepth 100000 in
set_option maxHeartbeats 1000000 in
theorem when_any (m : Mo) (hm : MoOk m) (f : Nat) (p wl : Int)
    (hseq : ∀ (n B1 B2 : Nat) (w : World), 1 ≤ n → MoAt w B1 m → w.cell? ⟨B2, 0, none⟩ = some (.func (.func f) #[] #[]) → SeqLow Fence.wide n Tryz.prog 92 #[.pointer (some ⟨B1, 0, none⟩), .pointer (some ⟨B2, 0, none⟩)] (minEnc m p wl) (fun b => b = B1 ∨ b = B2) 601 w) (w : World) :
    Calls Tryz.prog 57 #[.agg m.cells, .func (.func f) #[] #[]] w fun e w' => ∃ L, e = .returned (.slice (some ⟨L, 0, none⟩) m.rings.toNat m.rings.toNat) ∧ w.heap.size ≤ L ∧ InAt w' L m.rings.toNat (whenF m p wl) ∧ Below w.heap.size w w' := by
  have hr := hm.rings
  have HO := Lib.hid hm
  have HSQ := Lib.hid hseq
  have HM := Lib.hid (MoAt.new w m 61)
  have hmm := @run_makeMap Tryz.prog
  unfold Mo.cells at HM
  clear hm hseq
  refine (callsIn_wide (n := 3)).1 ?_
  refine callsIn_of_wp_marks Tryz.func57 rfl trivial ?_ rfl
  unfold Mo.cells
  simp only [Tryz.ntmps57, List.size_toArray, List.length_cons, List.length_nil, Nat.reduceAdd, Nat.reduceSub, Array.replicate_succ, Array.replicate_zero, List.push_toArray, List.append_toArray, List.nil_append, List.cons_append]
  refine wpIn_wide.2 ?_
  go_upto_region 2 with fail
  go_step3
  go_wp2_with fail
  go_step3
  go_wp2_with (go_at_call 66; refine (minutes_any m (.func (.func f) #[] #[]) _ rfl rfl).mono ?_; rintro e w1 ⟨rfl, hw1⟩)
  subst hw1
  have s0 : (((((w.alloc (.cells m.cells 61)).alloc (.map #[] 0)).alloc (.cells #[.map (some (w.heap.size + 1))] 154)).alloc (.cells m.cells 61)).alloc (.cells #[.func (.func f) #[] #[]] 126)).heap.size = w.heap.size + 5 := by simp
  have b3 : Below w.heap.size w (((w.alloc (.cells m.cells 61)).alloc (.map #[] 0)).alloc (.cells #[.map (some (w.heap.size + 1))] 154)) := ((below_alloc1 _ _).alloc (by simp) _).alloc (by simp; omega) _
  have b5 : Below w.heap.size w (((((w.alloc (.cells m.cells 61)).alloc (.map #[] 0)).alloc (.cells #[.map (some (w.heap.size + 1))] 154)).alloc (.cells m.cells 61)).alloc (.cells #[.func (.func f) #[] #[]] 126)) := (b3.alloc (by simp; omega) _).alloc (by simp; omega) _
  have m5 : MoAt (((((w.alloc (.cells m.cells 61)).alloc (.map #[] 0)).alloc (.cells #[.map (some (w.heap.size + 1))] 154)).alloc (.cells m.cells 61)).alloc (.cells #[.func (.func f) #[] #[]] 126)) w.heap.size m :=
    ((((MoAt.new w m 61).below (below_alloc1 _ _)).below (below_alloc1 _ _)).below (below_alloc1 _ _)).below (below_alloc1 _ _)
  have m6 : MoAt (((((w.alloc (.cells m.cells 61)).alloc (.map #[] 0)).alloc (.cells #[.map (some (w.heap.size + 1))] 154)).alloc (.cells m.cells 61)).alloc (.cells #[.func (.func f) #[] #[]] 126)) (w.heap.size + 3) m := by
    have := (MoAt.new (((w.alloc (.cells m.cells 61)).alloc (.map #[] 0)).alloc (.cells #[.map (some (w.heap.size + 1))] 154)) m 61).below (below_alloc1 _ (.cells #[.func (.func f) #[] #[]] 126))
    have e : (((w.alloc (.cells m.cells 61)).alloc (.map #[] 0)).alloc (.cells #[.map (some (w.heap.size + 1))] 154)).heap.size = w.heap.size + 3 := by simp
    rw [e] at this
    exact this
  have f6 : (((((w.alloc (.cells m.cells 61)).alloc (.map #[] 0)).alloc (.cells #[.map (some (w.heap.size + 1))] 154)).alloc (.cells m.cells 61)).alloc (.cells #[.func (.func f) #[] #[]] 126)).cell? ⟨w.heap.size + 4, 0, none⟩ = some (.func (.func f) #[] #[]) := by simp [go_sem]
  have v5 : (((((w.alloc (.cells m.cells 61)).alloc (.map #[] 0)).alloc (.cells #[.map (some (w.heap.size + 1))] 154)).alloc (.cells m.cells 61)).alloc (.cells #[.func (.func f) #[] #[]] 126)).cell? ⟨w.heap.size + 2, 0, none⟩ = some (.map (some (w.heap.size + 1))) := by simp [go_sem]
  have o5 : (((((w.alloc (.cells m.cells 61)).alloc (.map #[] 0)).alloc (.cells #[.map (some (w.heap.size + 1))] 154)).alloc (.cells m.cells 61)).alloc (.cells #[.func (.func f) #[] #[]] 126)).ownsMap Tryz.prog 3 (plainElem (H := Unit) Tryz.prog 3) (w.heap.size + 1) 0 (.map []) := by
    have := World.ownsMap_made (H := Unit) (w.alloc (.cells m.cells 61)) Tryz.prog 3 (plainElem Tryz.prog 3)
    rw [show (w.alloc (.cells m.cells 61)).heap.size = w.heap.size + 1 by simp] at this
    exact ((this.alloc _).alloc _).alloc _
  clear b3
  change Code.wp _ _ _ _ (((((w.alloc (.cells m.cells 61)).alloc (.map #[] 0)).alloc (.cells #[.map (some (w.heap.size + 1))] 154)).alloc (.cells m.cells 61)).alloc (.cells #[.func (.func f) #[] #[]] 126))
  generalize (((((w.alloc (.cells m.cells 61)).alloc (.map #[] 0)).alloc (.cells #[.map (some (w.heap.size + 1))] 154)).alloc (.cells m.cells 61)).alloc (.cells #[.func (.func f) #[] #[]] 126)) = W0 at *
  clear HM hmm
  have HI0 := Lib.hid (And.intro b5 (And.intro m5 (And.intro v5 o5)))
  have HF := Lib.hid (And.intro m6 f6)
  clear b5 m5 v5 o5 m6 f6
  have HS0 := Lib.hid s0
  clear s0
  have e3 : w.heap.size + 1 + 1 + 1 = w.heap.size + 3 := rfl
  refine (wpIn_wide (n := 3)).1 ?_
  refine wpIn_rangeFunc_low1 (n := 3) rfl (by decide) (gf := 92) (lb := #[.pointer (some ⟨w.heap.size + 3, 0, none⟩), .pointer (some ⟨w.heap.size + 4, 0, none⟩)]) rfl trivial (enters_of Tryz.func92 (by kernel_rfl) rfl)
    (HSQ.out 2 (w.heap.size + 3) (w.heap.size + 4) W0 (by decide) HF.out.1 HF.out.2) (fun _ => rfl) (fun b hb => by have := HS0.out; rcases hb with rfl | rfl <;> omega)
    (fun k W => ∃ D : DataW Unit, Below w.heap.size w W ∧ MoAt W w.heap.size m ∧ W.cell? ⟨w.heap.size + 2, 0, none⟩ = some (.map (some (w.heap.size + 1))) ∧
      W.ownsMap Tryz.prog 3 (plainElem Tryz.prog 3) (w.heap.size + 1) (many (fun i => fs m p wl i k) m.rings.toNat) D ∧ Holds D m.rings.toNat (fun i => fs m p wl i k))
    (fun W => ∃ D : DataW Unit, Below w.heap.size w W ∧ MoAt W w.heap.size m ∧ W.cell? ⟨w.heap.size + 2, 0, none⟩ = some (.map (some (w.heap.size + 1))) ∧
      W.ownsMap Tryz.prog 3 (plainElem Tryz.prog 3) (w.heap.size + 1) 8 D ∧ Holds D m.rings.toNat (fun i => fs m p wl i 601))
    ?hI ?hE ?h0 ?hIE
    (fun T k a1 W => ∃ Bl, W0.heap.size + 2 ≤ Bl ∧ RgAt W Bl (stR m p wl k) ∧ a1 = { tmps := (((T.setIfInBounds 19 (.int .i64 k)).setIfInBounds 20 (.agg (rgCells (stR m p wl k)))).setIfInBounds 6 (.int .i64 k)).setIfInBounds 7 (.pointer (some ⟨Bl, 0, none⟩)), defers := [] })
    ?assign ?body ?fin
  case hI =>
    rintro k W W' ⟨D, h1, h2, h3, h4, h5⟩ hb
    have := HS0.out
    exact ⟨D, h1.trans (hb.mono (by omega)), h2.belowN hb (by omega), (hb.cell (p := ⟨w.heap.size + 2, 0, none⟩) (by show w.heap.size + 2 < W0.heap.size; omega)).trans h3, owns_same h4 (hb.block _ (by omega)), h5⟩
  case hE =>
    rintro W W' ⟨D, h1, h2, h3, h4, h5⟩ hb
    have := HS0.out
    exact ⟨D, h1.trans (hb.mono (by omega)), h2.belowN hb (by omega), (hb.cell (p := ⟨w.heap.size + 2, 0, none⟩) (by show w.heap.size + 2 < W0.heap.size; omega)).trans h3, owns_same h4 (hb.block _ (by omega)), h5⟩
  case h0 =>
    refine ⟨.map [], HI0.out.1, HI0.out.2.1, HI0.out.2.2.1, HI0.out.2.2.2.mono (Nat.zero_le _), ?_⟩
    exact (holds_empty m.rings.toNat).congr fun i _ => rfl
  case hIE =>
    rintro W ⟨D, h1, h2, h3, h4, h5⟩
    exact ⟨D, h1, h2, h3, h4.mono (by have := many_le (fun i => fs m p wl i 601) m.rings.toNat; omega), h5⟩
  case assign =>
    rintro k W K ⟨D, h1, h2, h3, h4, h5⟩ hk hz hK
    simp only [minEnc, rgCells]
    gi_wp2
    have hb := below_alloc1 W (.cells (rgCells (stR m p wl k)) 121)
    have hsz : W0.heap.size + 2 ≤ W.heap.size := hz
    have hs0 := HS0.out
    refine hK _ _ (SameAt.of_below hb) ⟨D, belT h1 hb, h2.below hb, keep hb h3, owns_same h4 (hb.block _ (by omega)), h5⟩ fun o => ⟨W.heap.size, by omega, ?_, rfl⟩
    exact (World.putObj_heap_other (by omega)).trans (RgAt.new W (stR m p wl k))
  case body =>
    rintro k a1 W ⟨Bl, hBl, hl, rfl⟩ ⟨D, h1, h2, h3, h4, h5⟩ hk hz
    obtain ⟨rn, hrn⟩ : ∃ rn : Nat, m.rings = rn := ⟨m.rings.toNat, by omega⟩
    have r1 : (1 : Int) ≤ rn := by omega
    have r8 : (rn : Int) ≤ 8 := by omega
    have er : m.rings.toNat = rn := by omega
    rw [er] at h4 h5
    have c0 := h2.c0
    rw [hrn] at c0
    have HI := Lib.hid (show Mid m p wl rn k 0 w.heap.size W0.heap.size w W W D from ⟨h1, h2, h3, by rw [wf_zero]; exact h4, by rw [wf_zero]; exact h5, SameAt.refl _ _⟩)
    have HL := Lib.hid (And.intro hBl hl)
    have HN := Lib.hid hrn
    clear h1 h2 h3 h4 h5 hBl hl hrn er
    gi_wp2
    gi_loopw [26] (fun i wr => ∃ j : Nat, j ≤ rn ∧ i = .int .i64 j ∧ ∃ D, Hid (Mid m p wl rn k j w.heap.size W0.heap.size w W wr D)) (fun i _ => rn - (intOf i).toNat)
    case atStart => exact ⟨0, Nat.zero_le _, rfl, D, HI⟩
    case round =>
      clear HI c0 D
      obtain ⟨j, hj, rfl, D, HI⟩ := hrel
      by_cases hlt : j < rn
      · have hj8 : j < 8 := by omega
        have ltj : (j : Int) < rn := by omega
        have cl := (HL.out.2.same8 (HI.out.S.block Bl (.inl (by have := HL.out.1; omega)) HL.out.2.lt)).cell hj8
        have c2 := HI.out.s
        have cs := HI.out.M.c6
        have ow := HI.out.o
        have hi := HI.out.h.has_iff hlt
        by_cases hf : wf m p wl k j j = none
        · rw [hf] at hi
          change Maps.has D (.int .i64 (j : Int)) = false at hi
          by_cases hs : stR m p wl k j ≤ m.set
          · have hmany := many_le (wf m p wl k j) rn
            gi_wp2_with (first
              | (gi_at_lookup; refine wpListIn_lookup_own_ok_int _ rfl _ _ 154 rfl 3 3 .i64 mlaw3 Tryz.underlying154 Tryz.underlying3 (zero3 _) (w.heap.size + 1) _ D rfl ow _ (.int .i64 (j : Int)) rfl (keyOf_int_mk Tryz.underlying3 (ringK_wf hj8)) ?_; intro c hat hwc; rw [hi]; clear hat hwc)
              | (gi_at_mapUpdate; refine wpListIn_mapUpdate_own _ rfl _ _ _ 154 rfl 3 3 mlaw3 Tryz.underlying154 _ (w.heap.size + 1) _ D rfl ow (by unfold maxLen; omega) _ _ _ rfl rfl (keyOf_int_mk Tryz.underlying3 (ringK_wf hj8)) _ [] (plainElem_int Tryz.underlying3 (WalkArith.wf_i64 (by omega))) ?_; intro w1 ow1 hg1))
            go_roundw
            case rel =>
              obtain ⟨D', H'⟩ := HI.out.put (Nat.le_of_eq HS0.out.symm) hlt hf hs ow1 hg1
              exact ⟨j + 1, by omega, by go_num, D', Lib.hid H'⟩
            case measure => simp [intOf]; omega
          · gi_wp2_with (first
              | (gi_at_lookup; refine wpListIn_lookup_own_ok_int _ rfl _ _ 154 rfl 3 3 .i64 mlaw3 Tryz.underlying154 Tryz.underlying3 (zero3 _) (w.heap.size + 1) _ D rfl ow _ (.int .i64 (j : Int)) rfl (keyOf_int_mk Tryz.underlying3 (ringK_wf hj8)) ?_; intro c hat hwc; rw [hi]; clear hat hwc))
            go_roundw
            case rel =>
              obtain ⟨D', H'⟩ := HI.out.skip (fun q => hs q.2)
              exact ⟨j + 1, by omega, by go_num, D', Lib.hid H'⟩
            case measure => simp [intOf]; omega
        · have hi' : Maps.has D (.int .i64 (j : Int)) = true := hi.trans (by cases hq : wf m p wl k j j with | none => exact absurd hq hf | some q => rfl)
          clear hi
          have hi := hi'
          clear hi'
          gi_wp2_with (first
              | (gi_at_lookup; refine wpListIn_lookup_own_ok_int _ rfl _ _ 154 rfl 3 3 .i64 mlaw3 Tryz.underlying154 Tryz.underlying3 (zero3 _) (w.heap.size + 1) _ D rfl ow _ (.int .i64 (j : Int)) rfl (keyOf_int_mk Tryz.underlying3 (ringK_wf hj8)) ?_; intro c hat hwc; rw [hi]; clear hat hwc))
          go_roundw
          case rel =>
            obtain ⟨D', H'⟩ := HI.out.skip (fun q => hf q.1)
            exact ⟨j + 1, by omega, by go_num, D', Lib.hid H'⟩
          case measure => simp [intOf]; omega
      · obtain rfl : j = rn := by omega
        have c2 := HI.out.s
        have cr := HI.out.M.c0
        rw [HN.out] at cr
        have ow := HI.out.o
        have hsz := HI.out.h.size
        by_cases hq : many (wf m p wl k j) j = j
        · gi_wp2_with (first
              | (gi_at_len; refine wpListIn_len_own _ rfl _ _ rfl 3 3 Tryz.underlying154 _ (w.heap.size + 1) _ D rfl ow ?_; rw [hsz, hq]))
          refine ⟨HI.out.S.mono fun b hb => .inl hb, rfl, D, HI.out.B, HI.out.M, HI.out.s, HI.out.o.mono (by omega), ?_⟩
          have er : m.rings.toNat = j := by have := HN.out; omega
          rw [er]
          exact HI.out.h.congr (many_iff hq (by omega) (fun i hi => wf_end i hi))
        · have hne : ((many (wf m p wl k j) j : Nat) : Int) ≠ (j : Int) := by omega
          gi_wp2_with (first
              | (gi_at_len; refine wpListIn_len_own _ rfl _ _ rfl 3 3 Tryz.underlying154 _ (w.heap.size + 1) _ D rfl ow ?_; rw [hsz]))
          have er : m.rings.toNat = j := by have := HN.out; omega
          refine ⟨HI.out.S, D, HI.out.B, HI.out.M, HI.out.s, ?_, ?_⟩
          · rw [er, ← many_congr j (fun i hi => wf_end (m := m) (p := p) (wl := wl) (k := k) i hi)]; exact HI.out.o
          · rw [er]
            exact HI.out.h.congr fun i hi => wf_end i hi
  case fin =>
    rintro W ⟨D, h1, h2, h3, h4, h5⟩ hd
    obtain ⟨rn, hrn⟩ : ∃ rn : Nat, m.rings = rn := ⟨m.rings.toNat, by omega⟩
    have r1 : 1 ≤ rn := by omega
    have r8 : rn ≤ 8 := by omega
    have er : m.rings.toNat = rn := by omega
    rw [er] at h5
    have c0 := h2.c0
    rw [hrn] at c0
    have HI := Lib.hid (And.intro h1 (And.intro h3 (And.intro h4 (And.intro h5 hd))))
    have HN := Lib.hid er
    clear h1 h2 h3 h4 h5 hd er hrn hr HSQ HI0 HF
    replace c0 := keep (below_alloc1 W (.cells #[.int .i64 601] 3)) c0
    gi_wp2
    go_wp2_with fail
    refine (repeat90_any 601 rn W.heap.size ⟨r1, r8⟩ _ (by simp [go_sem])).mono ?_
    rintro e w2 ⟨L, rfl, hL, hb, hbl⟩
    have hk : Below W.heap.size W w2 := belT (below_alloc1 _ _) hbl
    have hs0 := HS0.out
    have hlW := HI.out.2.2.1.lt
    have hL0 : w.heap.size + 6 ≤ L := by
      have h1 : w.heap.size + 5 < W.heap.size := by
        have := (Array.getElem?_eq_some_iff.1 HI.out.2.2.2.2).1
        omega
      simp at hL
      omega
    have c2 := keep hk HI.out.2.1
    have ow := owns_same HI.out.2.2.1 (hk.block _ hlW)
    have hd := (hk.block _ (Array.getElem?_eq_some_iff.1 HI.out.2.2.2.2).1).trans HI.out.2.2.2.2
    have hA : InAt w2 L rn (fun _ => 601) := by
      unfold InAt
      rw [← inRow_const]
      exact hb
    have hB := HI.out.1.trans (hk.mono HI.out.1.size)
    have HJ := Lib.hid (And.intro hB (And.intro hA hd))
    have HH := Lib.hid HI.out.2.2.2.1
    clear HI hb hbl hk hd hA hB hlW hL c0
    go_wp2_with (first
      | (at_range; refine wpList_range_own _ rfl _ 154 rfl 3 3 mlaw3 Tryz.underlying154 _ (w.heap.size + 1) 8 D rfl ow ?_; intro w3 hrg3 hg3 hs3)
      | go_in)
    go_frame
    have lr := HJ.out.2.1.lt
    have HK : Hid (InAt w3 L rn (valF (fun i => fs m p wl i 601) (Maps.has D)) ∧ Below w.heap.size w w3 ∧ w3.heap[w.heap.size + 5]? = some (.deferred (some []))) := Lib.hid (by
      obtain ⟨q1, q2, q3⟩ := HJ.out
      rw [hs0] at q3
      have hk3 : Below w2.heap.size w2 w3 := ⟨hg3.os, hg3.tape, hg3.output, hg3.size, fun i hi => hg3.block i hi (by simp)⟩
      exact ⟨(q2.same (hk3.block _ q2.lt)).congr fun i hi => (valF_start HH.out hi).symm, q1.trans (hk3.mono q1.size), (hk3.block _ (Array.getElem?_eq_some_iff.1 q3).1).trans q3⟩)
    have hr0 : w.heap.size + 6 < w2.heap.size := by omega
    generalize w2.heap.size = R0 at *
    clear HJ ow c2
    go_loopw [13] (fun _ wr => ∃ left cnt, Hid (wr.ranges Tryz.prog 3 (plainElem (H := Unit) Tryz.prog 3) (w.heap.size + 1) R0 8 D left cnt ∧ InAt wr L rn (valF (fun i => fs m p wl i 601) left) ∧ Below w.heap.size w wr ∧ wr.heap[w.heap.size + 5]? = some (.deferred (some [])))) (fun _ wr => wr.rangeLeft (w.heap.size + 1) R0)
    case atStart => exact ⟨_, _, Lib.hid ⟨hrg3, HK.out⟩⟩
    case round =>
      clear HK hrg3 hg3 hs3
      obtain ⟨left, cnt, HI⟩ := hrel
      have hrg := HI.out.1
      go_wp2_with (first
        | (at_next; refine wpList_next_ranges_ii _ rfl _ rfl 3 3 .i64 .i64 mlaw3 Tryz.underlying3 Tryz.underlying3 (w.heap.size + 1) R0 8 _ _ _ rfl hrg ?_ ?_)
        | go_in)
      · intro hc0 hl0
        go_wp2_with fail
        rw [Exit.noGoto_ret]
        obtain ⟨-, a1, b1, d1⟩ := HI.out
        have hdl := (Array.getElem?_eq_some_iff.1 d1).1
        have hLl := a1.lt
        refine ⟨by simp, .inl ⟨_, _, rfl, run_takeDeferred d1, ?_⟩⟩
        rw [HN.out]
        refine ⟨_, by simp [results, Tryz.results57, go_sem], ⟨L, rfl, by omega, ?_, ?_⟩⟩
        · have hA : InAt (wr.putObj (w.heap.size + 5) (.deferred none)) L rn (valF (fun i => fs m p wl i 601) left) := a1.same (World.putObj_heap_other (by omega))
          exact hA.congr fun i _ => valF_end hl0 i
        · exact b1.trans ⟨rfl, rfl, rfl, by simp [World.putObj], fun q hq => World.putObj_heap_other (by omega)⟩
      · intro x c w1 cnt1 hwx hwc hlx hat hrg1 hlt hg1 hs1 hen
        obtain ⟨i, n, hi, rfl, rfl, hF⟩ := HH.out.entry hat
        have a1 : InAt w1 L rn (valF (fun i => fs m p wl i 601) left) := HI.out.2.1.same (hg1.block _ HI.out.2.1.lt (by simp; omega))
        have hi' : (i : Int) < rn := by omega
        have ce := a1.cell hi
        have fe := a1.frozen i
        have hst : Hid (InAt (w1.setCell ⟨L, i, none⟩ (.int .i64 (n : Int))) L rn (valF (fun i => fs m p wl i 601) (fun z => left z && !z.sameKey (.int .i64 (i : Int))))) := Lib.hid ((a1.set (n : Int) hi).congr fun q _ => valF_step (F := fun i => fs m p wl i 601) (j := i) hF q)
        have hgs : w1.grownBy (w1.setCell ⟨L, i, none⟩ (.int .i64 (n : Int))) (some L) := ⟨rfl, rfl, rfl, by simp, fun q _ hne => heap_setCell_ne (fun e => hne (by rw [e]))⟩
        have hrg2 := hrg1.kept hgs (by simp; omega) (by simp; omega)
        have HG := Lib.hid hgs
        clear hgs
        go_wp2_with fail
        go_roundw
        case rel =>
          refine ⟨_, cnt1, Lib.hid ⟨hrg2, hst.out, ?_, ?_⟩⟩
          · exact (HI.out.2.2.1.trans ⟨hg1.os, hg1.tape, hg1.output, hg1.size, fun q hq => hg1.block q (by have := HI.out.2.2.1.size; omega) (by simp; omega)⟩).setCell (p := ⟨L, i, none⟩) (by show w.heap.size ≤ L; omega) _
          · have hd := HI.out.2.2.2
            have hdl := (Array.getElem?_eq_some_iff.1 hd).1
            rw [heap_setCell_ne (by omega), hg1.block _ hdl (by simp; omega)]
            exact hd
        case measure => rw [hrg2.left_eq, hrg.left_eq]; exact hlt

theorem when_cold (m : Mo) (hm : MoOk m) (w : World) : Calls Tryz.prog 57 #[.agg m.cells, .func (.func 58) #[] #[]] w fun e w' => ∃ L, e = .returned (.slice (some ⟨L, 0, none⟩) m.rings.toNat m.rings.toNat) ∧ w.heap.size ≤ L ∧ InAt w' L m.rings.toNat (whenF m m.plo m.wlo) ∧ Below w.heap.size w w' :=
  when_any m hm 58 m.plo m.wlo (fun n B1 B2 w hn h1 h2 => minutes_cold n hn m hm B1 B2 w h1 h2) w
theorem when_hot (m : Mo) (hm : MoOk m) (w : World) : Calls Tryz.prog 57 #[.agg m.cells, .func (.func 59) #[] #[]] w fun e w' => ∃ L, e = .returned (.slice (some ⟨L, 0, none⟩) m.rings.toNat m.rings.toNat) ∧ w.heap.size ≤ L ∧ InAt w' L m.rings.toNat (whenF m m.phi m.whi) ∧ Below w.heap.size w w' :=
  when_any m hm 59 m.phi m.whi (fun n B1 B2 w hn h1 h2 => minutes_hot n hn m hm B1 B2 w h1 h2) w

end Go.Proofs.YtcncmlpppabbcaaGreat
