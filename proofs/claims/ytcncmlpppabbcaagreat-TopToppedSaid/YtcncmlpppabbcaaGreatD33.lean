/- The walk of the law's Truth: any truth of a mould, by turns. -/
import Derived.Test.YtcncmlpppabbcaaGreatD29
import Derived.Test.YtcncmlpppabbcaaGreatD25
import Derived.Test.YtcncmlpppabbcaaGreatD18
import Derived.Deep.RegionHeld3
import Derived.Deep.RegionLaw
import Derived.Deep.Cut
namespace Go.Proofs.YtcncmlpppabbcaaGreat
set_option linter.unusedVariables false
set_option linter.unusedSimpArgs false
open Go.RowKit
attribute [local go_sem] Oper.semAt_some

/-- Numbers of a span, by turns. -/
def truF (lo hi : Int) (xs : List Int) (i : Nat) : Int := lo + turnV xs i % (hi - lo + 1)
def truL (lo hi : Int) (xs : List Int) (n : Nat) : List Int := (List.range n).map (truF lo hi xs)
def truRow (lo hi : Int) (xs : List Int) (n : Nat) : List Value := (truL lo hi xs n).map (Value.int .i64)
theorem truRow_succ (lo hi : Int) (xs : List Int) (n : Nat) : truRow lo hi xs (n + 1) = truRow lo hi xs n ++ [.int .i64 (truF lo hi xs n)] := by simp [truRow, truL, List.range_succ]
theorem truF_bd {lo hi : Int} (h : lo ≤ hi) (xs : List Int) (i : Nat) : lo ≤ truF lo hi xs i ∧ truF lo hi xs i ≤ hi := by
  unfold truF
  have e1 := Int.emod_nonneg (turnV xs i) (by omega : hi - lo + 1 ≠ 0)
  have e2 := Int.emod_lt_of_pos (turnV xs i) (by omega : 0 < hi - lo + 1)
  omega

theorem size57 (x0 x1 : Value) : (Tryz.prog.info? 57).map (·.size) = some (#[x0, x1] : Array Value).size := by
  show _ = some 2
  kernel_rfl
theorem run_load57 {w : World} {B : Nat} {x0 x1 : Value} (h : w.heap[B]? = some (.cells #[x0, x1] 57 (0, 0))) : (loadVar 57 ⟨B, 0, none⟩).run Tryz.prog w = .ok (.agg #[x0, x1]) w :=
  run_loadVar_row w B 57 57 #[x0, x1] (0, 0) _ h Tryz.underlying57 rfl (size57 x0 x1)
theorem results_one57 {w : World} {B : Nat} {x0 x1 : Value} {fn : Func} {p : Tmp} (h : fn.results = #[.cell p 57]) (tmps : Array Value) (hp : tmps.getD p undef = .pointer (some ⟨B, 0, none⟩)) (hT : w.heap[B]? = some (.cells #[x0, x1] 57 (0, 0))) :
    (results fn tmps).run Tryz.prog w = .ok (.agg #[x0, x1]) w := by
  have h1 := run_load57 hT
  have hp2 : tmps[p]?.getD undef = .pointer (some ⟨B, 0, none⟩) := by simpa using hp
  simp only [results, h]
  simp [Sem.run_bind, Result.andThen, hp2, asAddr, h1]
theorem row2 {w : World} {B t : Nat} {x0 x1 : Value} (h : w.heap[B]? = some (.cells #[x0, x1] t (0, 0))) (a b : Value) :
    ((w.setCell ⟨B, 0, none⟩ a).setCell ⟨B, 1, none⟩ b).heap[B]? = some (.cells #[a, b] t (0, 0)) := by
  have h0 : w.heap[B]? = some (.cells [x0, x1].toArray t (0, 0)) := h
  exact row_setG (row_setG h0 0 a) 1 b

theorem alloc4 (w : World) (A Y R T : Obj) : ∃ W, W = (((w.alloc A).alloc Y).alloc R).alloc T ∧ W.heap[w.heap.size]? = some A ∧ W.heap[w.heap.size + 1]? = some Y ∧ W.heap[w.heap.size + 1 + 1]? = some R ∧ W.heap[w.heap.size + 1 + 1 + 1]? = some T ∧
    W.heap.size = w.heap.size + 1 + 1 + 1 + 1 ∧ Below w.heap.size w W := by
  have e1 : (w.alloc A).heap.size = w.heap.size + 1 := by simp
  have e2 : ((w.alloc A).alloc Y).heap.size = w.heap.size + 1 + 1 := by simp
  have e3 : (((w.alloc A).alloc Y).alloc R).heap.size = w.heap.size + 1 + 1 + 1 := by simp
  have hA := heap_alloc_new w A
  have hY := heap_alloc_new (w.alloc A) Y
  have hR := heap_alloc_new ((w.alloc A).alloc Y) R
  have hT := heap_alloc_new (((w.alloc A).alloc Y).alloc R) T
  rw [e1] at hY
  rw [e2] at hR
  rw [e3] at hT
  refine ⟨_, rfl, ?_, ?_, ?_, hT, by simp, (((Below.refl _ _).alloc (Nat.le_refl _) _).alloc (by simp) _).alloc (by simp; omega) _ |>.alloc (by simp; omega) _⟩
  · exact (heap_alloc_old _ _ (by rw [e3]; omega)).trans ((heap_alloc_old _ _ (by rw [e2]; omega)).trans ((heap_alloc_old _ _ (by rw [e1]; omega)).trans hA))
  · exact (heap_alloc_old _ _ (by rw [e3]; omega)).trans ((heap_alloc_old _ _ (by rw [e2]; omega)).trans hY)
  · exact (heap_alloc_old _ _ (by rw [e3]; omega)).trans hR

theorem keepB {W w1 : World} {n : Nat} (hb : Below n W w1) {b o : Nat} {v : Value} (hl : b < n) (h : W.cell? ⟨b, o, none⟩ = some v) : w1.cell? ⟨b, o, none⟩ = some v := by
  rw [hb.cell (p := ⟨b, o, none⟩) hl]; exact h
theorem owns_lit {w : World} {base n : Nat} {e : TypeId} {v : Value} {xs : List Value} (h : w.ownsRow base e 1 v (n + 1) xs) : ∃ g cap, v = .slice (some ⟨g, 0, none⟩) (n + 1) cap := by
  rcases h.2 with ⟨-, q⟩ | ⟨g, cap, cur, rfl, -⟩
  · omega
  · exact ⟨g, cap, rfl⟩
theorem ownsSet {w : World} {base n B o : Nat} {e : TypeId} {v u : Value} {xs : List Value} (h : w.ownsRow base e 1 v n xs) (hB : B < base) : (w.setCell ⟨B, o, none⟩ u).ownsRow base e 1 v n xs := by
  refine ⟨h.1, ?_⟩
  rcases h.2 with hn | ⟨g, cap, cur, rfl, hbg, hgg, rest⟩
  · exact .inl hn
  · exact .inr ⟨g, cap, cur, rfl, hbg, (heap_setCell_ne (by omega)).trans hgg, rest⟩
theorem ownsSame {w w' : World} {base n T : Nat} {e : TypeId} {v : Value} {xs : List Value} (h : w.ownsRow base e 1 v n xs) (hs : SameAt (fun b => b ≠ T) w w') (hB : T < base) : w'.ownsRow base e 1 v n xs := by
  refine ⟨h.1, ?_⟩
  rcases h.2 with hn | ⟨g, cap, cur, rfl, hbg, hgg, rest⟩
  · exact .inl hn
  · exact .inr ⟨g, cap, cur, rfl, hbg, (hs.block g (by omega) (Array.getElem?_eq_some_iff.1 hgg).1).trans hgg, rest⟩

set_option maxRecDepth 100000 in
set_option maxHeartbeats 4000000 in
theorem truth_any (m : Mo) (hm : MoOk m) (K : Nat) (hK : K ≤ 600) (xs ys : List Int) (hx : ∀ x ∈ xs, 0 ≤ x ∧ x ≤ 65535) (hy : ∀ x ∈ ys, 0 ≤ x ∧ x ≤ 65535) (pv wv : Value) (w : World) (hpv : Rd w 1 pv (us xs)) (hwv : Rd w 1 wv (us ys)) :
    Calls Tryz.prog 14 #[.agg m.cells, .int .i64 K, .agg #[pv, wv]] w fun e w' => ∃ v1 v2, e = .returned (.agg #[v1, v2]) ∧ Rd w' 1 v1 (ints (truL m.plo m.phi xs m.rings.toNat)) ∧ Rd w' 1 v2 (ints (truL m.wlo m.whi ys K)) ∧ Below w.heap.size w w' := by
  obtain ⟨i0, hi0, hz0, hz1, hz2⟩ := info_parts info3a
  have hrn : (m.rings.toNat : Int) = m.rings := by have := hm.rings; omega
  have r8 : m.rings.toNat ≤ 8 := by have := hm.rings; omega
  have TP := Lib.hid (fun (n : Nat) (hn : n ≤ 1000) (w' : World) (h : Rd w' 1 pv (us xs)) => turn_any pv xs n hn hx w' h)
  have TW := Lib.hid (fun (n : Nat) (hn : n ≤ 1000) (w' : World) (h : Rd w' 1 wv (us ys)) => turn_any wv ys n hn hy w' h)
  have AP := Lib.hid (fun (n : Nat) (w' : World) => among_any m.plo m.phi (turnV xs n) w' hm.pour (turnV_bd hx n))
  have AW := Lib.hid (fun (n : Nat) (w' : World) => among_any m.wlo m.whi (turnV ys n) w' hm.wall (turnV_bd hy n))
  have HPV := Lib.hid hpv
  have HWV := Lib.hid hwv
  generalize m.rings.toNat = rn at *
  have HRN := Lib.hid hrn
  obtain ⟨pa, pc, rfl, -, hpm, -⟩ := hpv.us
  obtain ⟨wa, wc, rfl, -, hwm, -⟩ := hwv.us
  obtain ⟨W4, hW4, hA4, hY4, hR4, hT4, hZ4, hB4⟩ := alloc4 w (.cells #[.int .i64 m.rings, .int .i64 m.give, .int .i64 m.plo, .int .i64 m.phi, .int .i64 m.wlo, .int .i64 m.whi, .int .i64 m.set, .int .i64 m.shrink, .int .i64 m.skin, .int .i64 m.fill, .int .i64 m.gap, .int .i64 m.deep] 25) (.cells #[.slice pa xs.length pc, .slice wa ys.length wc] 30) (.cells #[.slice none 0 0, .slice none 0 0] 57) (.cells #[.slice none 0 0, .slice none 0 0] 57)
  have hM4 : MoAt W4 w.heap.size m := ⟨cell_of_row W4 _ 0 _ 25 (0, 0) hA4, cell_of_row W4 _ 1 _ 25 (0, 0) hA4, cell_of_row W4 _ 2 _ 25 (0, 0) hA4, cell_of_row W4 _ 3 _ 25 (0, 0) hA4, cell_of_row W4 _ 4 _ 25 (0, 0) hA4, cell_of_row W4 _ 5 _ 25 (0, 0) hA4, cell_of_row W4 _ 6 _ 25 (0, 0) hA4, cell_of_row W4 _ 7 _ 25 (0, 0) hA4, cell_of_row W4 _ 8 _ 25 (0, 0) hA4, cell_of_row W4 _ 9 _ 25 (0, 0) hA4, cell_of_row W4 _ 10 _ 25 (0, 0) hA4, cell_of_row W4 _ 11 _ 25 (0, 0) hA4⟩
  have HW4 := Lib.hid hW4
  clear hpv hwv hm hx hy hrn hW4 hA4
  unfold Mo.cells
  go_enter Tryz.func14, Tryz.ntmps14
  go_upto_region 2 with fail
  rw [← HW4.out]
  clear HW4
  generalize hTq : w.heap.size + 1 + 1 + 1 = T at *
  generalize hRe : w.heap.size + 1 + 1 = R at *
  generalize hYe : w.heap.size + 1 = Y at *
  have hTe : R + 1 = T := by omega
  have hs4 : W4.heap.size = T + 1 := by omega
  have hwT : w.heap.size < T := by omega
  have hYT : Y < T := by omega
  have HF : Hid (∀ W, Below T W4 W → MoAt W w.heap.size m ∧ W.heap[Y]? = some (.cells #[.slice pa xs.length pc, .slice wa ys.length wc] 30 (0, 0))) := Lib.hid fun W hb =>
    ⟨hM4.same8 (hb.block _ (by omega)), (hb.block _ (by omega)).trans hY4⟩
  have HFB : Hid (∀ W, Below T W4 W → Below w.heap.size w W) := Lib.hid fun W hb => hB4.trans (hb.mono (by omega))
  have HT4 := Lib.hid hT4
  have HR4 := Lib.hid hR4
  clear hM4 hY4 hR4 hB4
  go_wp2_with fail
  go_loopw [8] (fun i wr => ∃ k : Nat, k ≤ rn ∧ i = .int .i64 k ∧ ∃ v, Hid (wr.heap[T]? = some (.cells #[v, .slice none 0 0] 57 (0, 0))) ∧ Hid (wr.ownsRow W4.heap.size 3 1 v k (truRow m.plo m.phi xs k)) ∧ Hid (Below T W4 wr) ∧ Hid (SameAt (fun b => b ≠ T) W4 wr)) (fun i _ => rn - (intOf i).toNat)
  case atStart => exact ⟨0, Nat.zero_le _, rfl, .slice none 0 0, HT4, Lib.hid ⟨rfl, .inl ⟨rfl, rfl⟩⟩, Lib.hid (Below.refl _ _), Lib.hid (SameAt.refl _ _)⟩
  case round =>
    obtain ⟨k, hk, rfl, v, hT, hown, hB, hSA⟩ := hrel
    obtain ⟨cM, cY⟩ := HF.out _ hB.out
    have cT : wr.cell? ⟨T, 0, none⟩ = some v := cell_of_row wr T 0 _ 57 (0, 0) hT.out
    have lT : T < wr.heap.size := lt_of_cell cT
    have c2 := cM.c2
    have c3 := cM.c3
    have c0 := cM.c0
    have cy : wr.cell? ⟨Y, 0, none⟩ = some (.slice pa xs.length pc) := cell_of_row wr Y 0 _ 30 (0, 0) cY
    by_cases hlt : k < rn
    · have hlt' : (k : Int) < m.rings := by have := HRN.out; omega
      have HAM := Lib.hid (AP.out k)
      have HTR : Hid (truF m.plo m.phi xs k = m.plo + turnV xs k % (m.phi - m.plo + 1)) := Lib.hid rfl
      have HRX := Lib.hid (HPV.out.below (HFB.out _ hB.out))
      have HTU := Lib.hid (TP.out k (by omega))
      rw [← HTR.out] at HAM
      clear HTR
      generalize turnV xs k = Z at *
      have HRS : Hid (truRow m.plo m.phi xs (k + 1) = truRow m.plo m.phi xs k ++ [.int .i64 (truF m.plo m.phi xs k)]) := Lib.hid (truRow_succ _ _ _ _)
      generalize truF m.plo m.phi xs k = V at *
      go_upto_region 5 with fail
      have hd := Below.drew (Below.refl wr.heap.size wr)
      have HLB := Lib.hid (show W4.heap.size ≤ wr.heap.size from hSA.out.size)
      have HWS := Lib.hid (show T < W4.heap.size by omega)
      go_region_law (first
          | (go_simp; go_at_call 56; refine (HTU.out _ (HRX.out.below (Below.drew (Below.refl _ _)))).mono ?_; rintro e w2 ⟨rfl, rfl⟩)
          | (go_simp; go_at_call 55; refine (HAM.out _).mono ?_; rintro e w3 ⟨rfl, hb⟩; have hb3 : Below wr.heap.size wr w3 := belT (Below.drew (Below.refl _ _)) hb; have hS3 : w3.cell? ⟨w.heap.size, 2, none⟩ = some (.int .i64 m.plo) ∧ w3.cell? ⟨w.heap.size, 3, none⟩ = some (.int .i64 m.phi) ∧ w3.cell? ⟨Y, 0, none⟩ = some (.slice pa xs.length pc) ∧ w3.ownsRow W4.heap.size 3 1 v k (truRow m.plo m.phi xs k) := ⟨keep hb3 c2, keep hb3 c3, keep hb3 cy, ownsBel hown.out hb3⟩; have ha3 : Below wr.heap.size wr (w3.alloc (.cells #[.int .i64 V] 3)) := hb3.alloc hb3.size _; have hS4 : (w3.alloc (.cells #[.int .i64 V] 3)).cell? ⟨w.heap.size, 2, none⟩ = some (.int .i64 m.plo) ∧ (w3.alloc (.cells #[.int .i64 V] 3)).cell? ⟨w.heap.size, 3, none⟩ = some (.int .i64 m.phi) ∧ (w3.alloc (.cells #[.int .i64 V] 3)).cell? ⟨Y, 0, none⟩ = some (.slice pa xs.length pc) ∧ (w3.alloc (.cells #[.int .i64 V] 3)).ownsRow W4.heap.size 3 1 v k (truRow m.plo m.phi xs k) := ⟨keep ha3 c2, keep ha3 c3, keep ha3 cy, ownsBel hown.out ha3⟩; have cT3 := keep hb3 cT; have cT4 := keep ha3 cT)
          | (refine step_append_int rfl (.tmp 17) (.tmp 25) rfl W4.heap.size i0 hi0 hz0 hz1 hz2 v k _ (by rfl) (ownsBel hown.out ha3) ⟨w3.heap.size, 0, none⟩ 1 V (by rfl) (cell_new_lit w3 [.int .i64 V] 3 0) (by omega) (Nat.le_trans HLB.out ha3.size) ?_; intro V5 W5 own5 gr5 ownk; obtain ⟨g5, cap5, rfl⟩ := owns_lit own5; have hb5 : Below W4.heap.size (w3.alloc (.cells #[.int .i64 V] 3)) W5 := grown_below gr5 (Nat.le_trans HLB.out ha3.size) (fun j e => (hown.out.lt j e).1); have hw5 : Below W4.heap.size wr W5 := (ha3.mono HLB.out).trans hb5; have hrow5 := (hw5.block T HWS.out).trans hT.out; have cT5 : W5.cell? ⟨T, 0, none⟩ = some v := cell_of_row W5 T 0 _ 57 (0, 0) hrow5; have fz5 : ∀ o, W5.frozen? ⟨T, o, none⟩ = false := fun o => frozen_of_row hrow5; have hS5 : W5.cell? ⟨w.heap.size, 2, none⟩ = some (.int .i64 m.plo) ∧ W5.cell? ⟨w.heap.size, 3, none⟩ = some (.int .i64 m.phi) ∧ W5.cell? ⟨Y, 0, none⟩ = some (.slice pa xs.length pc) ∧ W5.ownsRow W4.heap.size 3 1 v k (truRow m.plo m.phi xs k) := ⟨keepB hw5 (Nat.lt_trans hwT HWS.out) c2, keepB hw5 (Nat.lt_trans hwT HWS.out) c3, keepB hw5 (Nat.lt_trans hYT HWS.out) cy, ownk⟩; have hS6 : (W5.setCell ⟨T, 0, none⟩ (.slice (some ⟨g5, 0, none⟩) (k + 1) cap5)).cell? ⟨w.heap.size, 2, none⟩ = some (.int .i64 m.plo) ∧ (W5.setCell ⟨T, 0, none⟩ (.slice (some ⟨g5, 0, none⟩) (k + 1) cap5)).cell? ⟨w.heap.size, 3, none⟩ = some (.int .i64 m.phi) ∧ (W5.setCell ⟨T, 0, none⟩ (.slice (some ⟨g5, 0, none⟩) (k + 1) cap5)).cell? ⟨Y, 0, none⟩ = some (.slice pa xs.length pc) ∧ (W5.setCell ⟨T, 0, none⟩ (.slice (some ⟨g5, 0, none⟩) (k + 1) cap5)).ownsRow W4.heap.size 3 1 v k (truRow m.plo m.phi xs k) := ⟨(World.cell?_of_block (heap_setCell_ne (Nat.ne_of_gt hwT))).trans hS5.1, (World.cell?_of_block (heap_setCell_ne (Nat.ne_of_gt hwT))).trans hS5.2.1, (World.cell?_of_block (heap_setCell_ne (Nat.ne_of_gt hYT))).trans hS5.2.2.1, ownsSet ownk HWS.out⟩))
      all_goals
        have HX := Lib.hid (And.intro own5 (And.intro hrow5 (And.intro hw5 (And.intro hb5 ha3))))
        clear own5 gr5 ownk hb5 hw5 hrow5 cT5 fz5 hS5 hS6 hS3 hS4 ha3 hb3 hb cT3 cT4
        go_wp2_with fail
        go_roundw
        case rel =>
          refine ⟨k + 1, by omega, by go_num, _, Lib.hid (row_setG (l := [v, .slice none 0 0]) HX.out.2.1 0 _), Lib.hid ?_, Lib.hid ?_, Lib.hid ?_⟩
          · rw [HRS.out]
            exact ownsSet HX.out.1 HWS.out
          · exact (hB.out.trans (HX.out.2.2.1.mono (Nat.le_of_lt HWS.out))).setCell (p := ⟨T, 0, none⟩) (Nat.le_refl _) _
          · refine SameAt.setCell ⟨Nat.le_trans hSA.out.size HX.out.2.2.1.size, fun b hb hl => ?_⟩ _ (fun q => q rfl)
            exact (HX.out.2.2.1.block b hl).trans (hSA.out.block b hb hl)
        case measure => simp [intOf]; omega
    · obtain rfl : rn = k := by omega
      have hge : ¬ ((rn : Int) < m.rings) := by have := HRN.out; omega
      go_wp2_with fail
      obtain ⟨W6, hW6⟩ : ∃ W6, wr = W6 := ⟨_, rfl⟩
      rw [hW6]
      rw [hW6] at hT hown hB lT
      obtain ⟨v1, hv1⟩ : ∃ v1, v = v1 := ⟨_, rfl⟩
      rw [hv1] at hT hown
      have hT1 := hT
      have hB1 := hB
      have hO1 := hown
      have L6 := lT
      clear hT hown hB hSA cM cY cT lT c2 c3 c0 cy hW6 hv1
      go_loopw [9] (fun i wr => ∃ k : Nat, k ≤ K ∧ i = .int .i64 k ∧ ∃ v, Hid (wr.heap[T]? = some (.cells #[v1, v] 57 (0, 0))) ∧ Hid (wr.ownsRow W6.heap.size 3 1 v k (truRow m.wlo m.whi ys k)) ∧ Hid (Below T W4 wr) ∧ Hid (SameAt (fun b => b ≠ T) W6 wr)) (fun i _ => K - (intOf i).toNat)
      case atStart => exact ⟨0, Nat.zero_le _, rfl, .slice none 0 0, hT1, Lib.hid ⟨rfl, .inl ⟨rfl, rfl⟩⟩, hB1, Lib.hid (SameAt.refl _ _)⟩
      case round =>
        obtain ⟨k, hk, rfl, v, hT, hown, hB, hSA⟩ := hrel
        obtain ⟨cM, cY⟩ := HF.out _ hB.out
        have cT : wr.cell? ⟨T, 1, none⟩ = some v := cell_of_row wr T 1 _ 57 (0, 0) hT.out
        have lT : T < wr.heap.size := lt_of_cell cT
        have c2 := cM.c4
        have c3 := cM.c5
        have c0 := cM.c0
        have cy : wr.cell? ⟨Y, 1, none⟩ = some (.slice wa ys.length wc) := cell_of_row wr Y 1 _ 30 (0, 0) cY
        by_cases hlt : k < K
        · have hlt' : (k : Int) < (K : Int) := by omega
          have HAM := Lib.hid (AW.out k)
          have HTR : Hid (truF m.wlo m.whi ys k = m.wlo + turnV ys k % (m.whi - m.wlo + 1)) := Lib.hid rfl
          have HRX := Lib.hid (HWV.out.below (HFB.out _ hB.out))
          have HTU := Lib.hid (TW.out k (by omega))
          rw [← HTR.out] at HAM
          clear HTR
          generalize turnV ys k = Z at *
          have HRS : Hid (truRow m.wlo m.whi ys (k + 1) = truRow m.wlo m.whi ys k ++ [.int .i64 (truF m.wlo m.whi ys k)]) := Lib.hid (truRow_succ _ _ _ _)
          generalize truF m.wlo m.whi ys k = V at *
          go_upto_region 9 with fail
          have hd := Below.drew (Below.refl wr.heap.size wr)
          have HLB := Lib.hid (show W6.heap.size ≤ wr.heap.size from hSA.out.size)
          have HWS := Lib.hid (show T < W6.heap.size by exact L6)
          go_region_law (first
              | (go_simp; go_at_call 56; refine (HTU.out _ (HRX.out.below (Below.drew (Below.refl _ _)))).mono ?_; rintro e w2 ⟨rfl, rfl⟩)
              | (go_simp; go_at_call 55; refine (HAM.out _).mono ?_; rintro e w3 ⟨rfl, hb⟩; have hb3 : Below wr.heap.size wr w3 := belT (Below.drew (Below.refl _ _)) hb; have hS3 : w3.cell? ⟨w.heap.size, 4, none⟩ = some (.int .i64 m.wlo) ∧ w3.cell? ⟨w.heap.size, 5, none⟩ = some (.int .i64 m.whi) ∧ w3.cell? ⟨Y, 1, none⟩ = some (.slice wa ys.length wc) ∧ w3.ownsRow W6.heap.size 3 1 v k (truRow m.wlo m.whi ys k) := ⟨keep hb3 c2, keep hb3 c3, keep hb3 cy, ownsBel hown.out hb3⟩; have ha3 : Below wr.heap.size wr (w3.alloc (.cells #[.int .i64 V] 3)) := hb3.alloc hb3.size _; have hS4 : (w3.alloc (.cells #[.int .i64 V] 3)).cell? ⟨w.heap.size, 4, none⟩ = some (.int .i64 m.wlo) ∧ (w3.alloc (.cells #[.int .i64 V] 3)).cell? ⟨w.heap.size, 5, none⟩ = some (.int .i64 m.whi) ∧ (w3.alloc (.cells #[.int .i64 V] 3)).cell? ⟨Y, 1, none⟩ = some (.slice wa ys.length wc) ∧ (w3.alloc (.cells #[.int .i64 V] 3)).ownsRow W6.heap.size 3 1 v k (truRow m.wlo m.whi ys k) := ⟨keep ha3 c2, keep ha3 c3, keep ha3 cy, ownsBel hown.out ha3⟩; have cT3 := keep hb3 cT; have cT4 := keep ha3 cT)
              | (refine step_append_int rfl (.tmp 34) (.tmp 42) rfl W6.heap.size i0 hi0 hz0 hz1 hz2 v k _ (by rfl) (ownsBel hown.out ha3) ⟨w3.heap.size, 0, none⟩ 1 V (by rfl) (cell_new_lit w3 [.int .i64 V] 3 0) (by omega) (Nat.le_trans HLB.out ha3.size) ?_; intro V5 W5 own5 gr5 ownk; obtain ⟨g5, cap5, rfl⟩ := owns_lit own5; have hb5 : Below W6.heap.size (w3.alloc (.cells #[.int .i64 V] 3)) W5 := grown_below gr5 (Nat.le_trans HLB.out ha3.size) (fun j e => (hown.out.lt j e).1); have hw5 : Below W6.heap.size wr W5 := (ha3.mono HLB.out).trans hb5; have hrow5 := (hw5.block T HWS.out).trans hT.out; have cT5 : W5.cell? ⟨T, 1, none⟩ = some v := cell_of_row W5 T 1 _ 57 (0, 0) hrow5; have fz5 : ∀ o, W5.frozen? ⟨T, o, none⟩ = false := fun o => frozen_of_row hrow5; have hS5 : W5.cell? ⟨w.heap.size, 4, none⟩ = some (.int .i64 m.wlo) ∧ W5.cell? ⟨w.heap.size, 5, none⟩ = some (.int .i64 m.whi) ∧ W5.cell? ⟨Y, 1, none⟩ = some (.slice wa ys.length wc) ∧ W5.ownsRow W6.heap.size 3 1 v k (truRow m.wlo m.whi ys k) := ⟨keepB hw5 (Nat.lt_trans hwT HWS.out) c2, keepB hw5 (Nat.lt_trans hwT HWS.out) c3, keepB hw5 (Nat.lt_trans hYT HWS.out) cy, ownk⟩; have hS6 : (W5.setCell ⟨T, 1, none⟩ (.slice (some ⟨g5, 0, none⟩) (k + 1) cap5)).cell? ⟨w.heap.size, 4, none⟩ = some (.int .i64 m.wlo) ∧ (W5.setCell ⟨T, 1, none⟩ (.slice (some ⟨g5, 0, none⟩) (k + 1) cap5)).cell? ⟨w.heap.size, 5, none⟩ = some (.int .i64 m.whi) ∧ (W5.setCell ⟨T, 1, none⟩ (.slice (some ⟨g5, 0, none⟩) (k + 1) cap5)).cell? ⟨Y, 1, none⟩ = some (.slice wa ys.length wc) ∧ (W5.setCell ⟨T, 1, none⟩ (.slice (some ⟨g5, 0, none⟩) (k + 1) cap5)).ownsRow W6.heap.size 3 1 v k (truRow m.wlo m.whi ys k) := ⟨(World.cell?_of_block (heap_setCell_ne (Nat.ne_of_gt hwT))).trans hS5.1, (World.cell?_of_block (heap_setCell_ne (Nat.ne_of_gt hwT))).trans hS5.2.1, (World.cell?_of_block (heap_setCell_ne (Nat.ne_of_gt hYT))).trans hS5.2.2.1, ownsSet ownk HWS.out⟩))
          all_goals
            have HX := Lib.hid (And.intro own5 (And.intro hrow5 (And.intro hw5 (And.intro hb5 ha3))))
            clear own5 gr5 ownk hb5 hw5 hrow5 cT5 fz5 hS5 hS6 hS3 hS4 ha3 hb3 hb cT3 cT4
            go_wp2_with fail
            go_roundw
            case rel =>
              refine ⟨k + 1, by omega, by go_num, _, Lib.hid (row_setG (l := [v1, v]) HX.out.2.1 1 _), Lib.hid ?_, Lib.hid ?_, Lib.hid ?_⟩
              · rw [HRS.out]
                exact ownsSet HX.out.1 HWS.out
              · exact (hB.out.trans (HX.out.2.2.1.mono (Nat.le_of_lt HWS.out))).setCell (p := ⟨T, 1, none⟩) (Nat.le_refl _) _
              · refine SameAt.setCell ⟨Nat.le_trans hSA.out.size HX.out.2.2.1.size, fun b hb hl => ?_⟩ _ (fun q => q rfl)
                exact (HX.out.2.2.1.block b hl).trans (hSA.out.block b hb hl)
            case measure => simp [intOf]; omega
        · obtain rfl : k = K := by omega
          obtain ⟨a1, l1, c1, rfl⟩ : ∃ a l c, v1 = .slice a l c := by
            rcases hO1.out.2 with ⟨rfl, -⟩ | ⟨g, cap, cur, rfl, -⟩ <;> exact ⟨_, _, _, rfl⟩
          obtain ⟨a2, l2, c2', rfl⟩ : ∃ a l c, v = .slice a l c := by
            rcases hown.out.2 with ⟨rfl, -⟩ | ⟨g, cap, cur, rfl, -⟩ <;> exact ⟨_, _, _, rfl⟩
          have hRT : R < T := by omega
          have rowR : wr.heap[R]? = some (.cells #[.slice none 0 0, .slice none 0 0] 57 (0, 0)) := (hB.out.block R hRT).trans HR4.out
          have r0 : wr.cell? ⟨R, 0, none⟩ = some (.slice none 0 0) := cell_of_row wr R 0 _ 57 (0, 0) rowR
          have r1 : wr.cell? ⟨R, 1, none⟩ = some (.slice none 0 0) := cell_of_row wr R 1 _ 57 (0, 0) rowR
          have fz : ∀ o, wr.frozen? ⟨R, o, none⟩ = false := fun o => frozen_of_row rowR
          have t0 : wr.cell? ⟨T, 0, none⟩ = some (.slice a1 l1 c1) := cell_of_row wr T 0 _ 57 (0, 0) hT.out
          have t1 : wr.cell? ⟨T, 1, none⟩ = some (.slice a2 l2 c2') := cell_of_row wr T 1 _ 57 (0, 0) hT.out
          have HR9 := Lib.hid rowR
          have HBW := Lib.hid (HFB.out _ hB.out)
          have HO9 := Lib.hid (ownsSame hO1.out hSA.out (T := T) (by omega))
          have HKK := Lib.hid (show ¬ ((k : Int) < (k : Int)) by omega)
          have HLW := Lib.hid (show R < W6.heap.size by omega)
          have HL4 := Lib.hid (show R < W4.heap.size by omega)
          have HwR := Lib.hid (show w.heap.size ≤ R by omega)
          clear rowR cM cY cT c2 c3 c0 cy
          go_wp2_with fail
          have e1 : (truL m.plo m.phi xs rn).length = rn := by simp [truL]
          have e2 : (truL m.wlo m.whi ys k).length = k := by simp [truL]
          refine bodyPost_ret (results_one57 rfl _ rfl (row2 HR9.out _ _)) rfl ⟨_, _, rfl, rdInts (base := W4.heap.size) (by rw [e1]; exact ownsSet (ownsSet HO9.out HL4.out) HL4.out), rdInts (base := W6.heap.size) (by rw [e2]; exact ownsSet (ownsSet hown.out HLW.out) HLW.out), (HBW.out.setCell (p := ⟨R, 0, none⟩) HwR.out _).setCell (p := ⟨R, 1, none⟩) HwR.out _⟩

end Go.Proofs.YtcncmlpppabbcaaGreat
