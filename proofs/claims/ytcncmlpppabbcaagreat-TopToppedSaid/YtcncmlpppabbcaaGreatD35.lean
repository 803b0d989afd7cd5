/- The walk of mould's Cool: how warm each ring is in a truth. -/
import Derived.Test.YtcncmlpppabbcaaGreatD34
import Derived.Test.YtcncmlpppabbcaaGreatD31
import Derived.Test.YtcncmlpppabbcaaGreatD3
import Derived.Test.YtcncmlpppabbcaaGreatD10
import Derived.Laws.CopyOwn
namespace Go.Proofs.YtcncmlpppabbcaaGreat
set_option linter.unusedVariables false
set_option linter.unusedSimpArgs false
open Go.RowKit
attribute [local go_sem] Oper.semAt_some

theorem anyOut_in {lo hi : Int} {zs : List Int} (h : anyOut lo hi zs = false) (i : Nat) (hi' : i < zs.length) : lo ≤ zs.getD i 0 ∧ zs.getD i 0 ≤ hi := by
  have e : zs.getD i 0 = zs[i] := by simp [List.getD, hi']
  rw [e]
  unfold anyOut at h
  have q := List.any_eq_false.1 h zs[i] (List.getElem_mem _)
  simp only [outB, Bool.or_eq_true, decide_eq_true_eq] at q
  omega

/-- Behind the copy the rings are as they were poured. -/
theorem cool_start {m : Mo} {ps : List Int} {n : Nat} (hn : ps.length = n) (hr : (n : Int) = m.rings) (n8 : n ≤ 8) (W : Nat → Int) :
    (splice [Value.int .i64 0, .int .i64 0, .int .i64 0, .int .i64 0, .int .i64 0, .int .i64 0, .int .i64 0, .int .i64 0] 0 (ps.map (Value.int .i64))).toArray = rgCells (trR m (fun i => ps.getD i 0) W 0) := by
  have e : ∀ i, trR m (fun i => ps.getD i 0) W 0 i = ps.getD i 0 := by
    intro i
    show (if (i : Int) < m.rings then ps.getD i 0 else 0) = _
    split
    · rfl
    · have : ps.length ≤ i := by omega
      simp [List.getD, List.getElem?_eq_none this]
  unfold rgCells
  simp only [e]
  clear e
  have h8 : ps.length ≤ 8 := by omega
  clear hn hr
  match ps, h8 with
  | [], _ => rfl
  | [_], _ => rfl
  | [_, _], _ => rfl
  | [_, _, _], _ => rfl
  | [_, _, _, _], _ => rfl
  | [_, _, _, _, _], _ => rfl
  | [_, _, _, _, _, _], _ => rfl
  | [_, _, _, _, _, _, _], _ => rfl
  | [_, _, _, _, _, _, _, _], _ => rfl
  | _ :: _ :: _ :: _ :: _ :: _ :: _ :: _ :: _ :: _, h => simp at h

theorem RgAt.rd {w : World} {B n : Nat} {l : Nat → Int} (h : RgAt w B l) (n8 : n ≤ 8) (c : Nat) (hc : n ≤ c) : Rd w 1 (.slice (some ⟨B, 0, none⟩) n c) (ints ((List.range n).map l)) := by
  refine ⟨_, _, by rw [ints_length, List.length_map, List.length_range], by simpa [ints] using hc, by simp [ints]; omega, fun r hr => by obtain ⟨z, -, rfl⟩ := List.mem_map.1 hr; rfl, fun _ => ⟨_, _, rfl, h.lt, ?_⟩⟩
  intro j r hj i x hi
  have hjn : j < n := by
    have := (List.getElem?_eq_some_iff.1 hj).1
    simpa [ints] using this
  simp [ints, hjn] at hj
  subst hj
  have hi0 : i = 0 := by
    have := (List.getElem?_eq_some_iff.1 hi).1
    simpa using this
  subst hi0
  simp at hi
  subst hi
  have := h.cell (i := j) (by omega)
  simpa using this

set_option maxRecDepth 100000 in
set_option maxHeartbeats 4000000 in
theorem cool_any (m : Mo) (h : chkM m = 0) (ps ws : List Int) (hn : (ps.length : Int) = m.rings) (hK : ws.length ≤ 600) (hP : anyOut m.plo m.phi ps = false) (hW : anyOut m.wlo m.whi ws = false) (pv wv : Value) (w : World) (hp : Rd w 1 pv (ints ps)) (hw : Rd w 1 wv (ints ws)) :
    Calls Tryz.prog 24 #[.agg m.cells, .agg #[pv, wv]] w fun e w' => ∃ v', e = .returned (.tuple #[v', .int .i64 0]) ∧ Rd w' 1 v' (ints ((List.range ps.length).map (trR m (fun i => ps.getD i 0) (fun i => ws.getD i 0) ws.length))) ∧ Below w.heap.size w w' := by
  have hm := chkM_ok h
  have ck := checkM_any m
  rw [h] at ck
  have op : ∀ (w : World) (v : Value), Rd w 1 v (ints ps) → Calls Tryz.prog 16 #[.int .i64 m.plo, .int .i64 m.phi, v] w fun e w' => e = .returned (.bool false) ∧ Below w.heap.size w w' := fun w v hv => by
    have := outM_any m.plo m.phi v ps w hv
    rw [hP] at this
    exact this
  have ow : ∀ (w : World) (v : Value), Rd w 1 v (ints ws) → Calls Tryz.prog 16 #[.int .i64 m.wlo, .int .i64 m.whi, v] w fun e w' => e = .returned (.bool false) ∧ Below w.heap.size w w' := fun w v hv => by
    have := outM_any m.wlo m.whi v ws w hv
    rw [hW] at this
    exact this
  have OP := Lib.hid op
  have OW := Lib.hid ow
  have HPV := Lib.hid hp
  have HWV := Lib.hid hw
  have n1 : 1 ≤ ps.length := by have := hm.rings; omega
  have n8 : ps.length ≤ 8 := by have := hm.rings; omega
  have HWM := Lib.hid (fun (k : Nat) (hk : k ≤ ws.length) => trR_warm hm (P := fun i => ps.getD i 0) (W := fun i => ws.getD i 0) (fun i hi => by have := anyOut_in hP i (by omega); have := hm.pour; show 0 ≤ ps.getD i 0 ∧ _; omega) k (fun j hj => by have := anyOut_in hW j (by omega); have := hm.wall; show 0 ≤ ws.getD j 0 ∧ _; omega))
  have HWB := Lib.hid (fun (j : Nat) (hj : j < ws.length) => show 0 ≤ ws.getD j 0 ∧ ws.getD j 0 ≤ 2000 by have := anyOut_in hW j hj; have := hm.wall; omega)
  have HCS := Lib.hid (cool_start (m := m) (ps := ps) rfl hn n8 (fun i => ws.getD i 0))
  obtain ⟨n, hnn⟩ : ∃ n, ps.length = n := ⟨_, rfl⟩
  obtain ⟨K, hKK⟩ : ∃ K, ws.length = K := ⟨_, rfl⟩
  obtain ⟨a, c, rfl, hca, hmx, hq⟩ := hp.ints
  obtain ⟨pb, poff, rfl, hpb, hpc⟩ := hq (by omega)
  obtain ⟨a2, c2, rfl, hca2, hmx2, hq2⟩ := hw.ints
  have HPC := Lib.hid (fun (W' : World) (hbW : Below w.heap.size w W') (j : Nat) (v : Value) (hj : (ps.map (Value.int .i64))[j]? = some v) => show W'.cell? ((⟨pb, poff, none⟩ : Addr).add j) = some v by
    obtain ⟨hj1, rfl⟩ := List.getElem?_eq_some_iff.1 hj
    simp at hj1
    rw [Go.WideShapes.add_plain]
    rw [hbW.cell (p := ⟨pb, _, none⟩) hpb, hpc j hj1]
    simp)
  have HC := Lib.hid (fun (h0 : 0 < ws.length) => show ∃ b off, a2 = some ⟨b, off, none⟩ ∧ ∀ (W' : World) (hbW : Below w.heap.size w W') (j : Nat) (hj : j < ws.length), W'.cell? ⟨b, off + j, none⟩ = some (.int .i64 (ws.getD j 0)) by
    obtain ⟨b, off, rfl, hb, hc⟩ := hq2 h0
    refine ⟨b, off, rfl, fun W' hbW j hj => ?_⟩
    rw [hbW.cell (p := ⟨b, _, none⟩) hb, hc j hj]
    simp [List.getD, hj])
  have HB := Lib.hid (below_alloc2 w (.cells m.cells 25) (.cells #[.slice (some ⟨pb, poff, none⟩) ps.length c, .slice a2 ws.length c2] 57))
  have HM := Lib.hid ((MoAt.new w m 25).below (below_alloc1 (w.alloc (.cells m.cells 25)) (.cells #[.slice (some ⟨pb, poff, none⟩) ps.length c, .slice a2 ws.length c2] 57)))
  have HT := Lib.hid (heap_alloc_new (w.alloc (.cells m.cells 25)) (.cells #[.slice (some ⟨pb, poff, none⟩) ps.length c, .slice a2 ws.length c2] 57))
  have HPL := Lib.hid hnn
  rw [hnn] at HB HM HT HPV ⊢
  rw [hKK] at hK hmx2 hca2 HC HB HM HT HWV HWM HWB ⊢
  have tq : ((n : Int) != m.rings) = false := by rw [← hnn, hn]; simp
  have n1' : 1 ≤ n := by omega
  have n8' : n ≤ 8 := by omega
  have tK : (K : Int) ≤ 600 := by omega
  have nx : ∀ (w : World) (k : Nat), k < K → Calls Tryz.prog 64 #[.agg m.cells, .agg (rgCells (trR m (fun i => ps.getD i 0) (fun i => ws.getD i 0) k)), .int .i64 (ws.getD k 0)] w fun e w' => e = .returned (.agg (rgCells (trR m (fun i => ps.getD i 0) (fun i => ws.getD i 0) (k + 1)))) ∧ Below w.heap.size w w' :=
    fun w k hk => next_any m hm (trR m (fun i => ps.getD i 0) (fun i => ws.getD i 0) k) (HWM.out k (Nat.le_of_lt hk)) (ws.getD k 0) (HWB.out k hk) w
  have hcs := HCS.out
  have hcc := HC.out
  obtain ⟨W, hWe⟩ : ∃ W : Nat → Int, (fun i => ws.getD i 0) = W := ⟨_, rfl⟩
  have hWi : ∀ j, ws.getD j 0 = W j := fun j => by rw [← hWe]
  obtain ⟨X, hXe⟩ : ∃ X : Nat → Nat → Int, trR m (fun i => ps.getD i 0) (fun i => ws.getD i 0) = X := ⟨_, rfl⟩
  rw [hXe] at nx hcs ⊢
  simp only [hWi] at nx hcc
  have HN := Lib.hid (show (n : Int) = m.rings by rw [← hnn]; exact hn)
  have HCC := Lib.hid hcc
  have HS := Lib.hid hcs
  have HLP := Lib.hid (show (ps.map (Value.int .i64)).length = n by rw [List.length_map]; exact hnn)
  clear hm h hn hP hW hp hw hq hq2 hpc op ow hnn hKK n1 n8 hmx hca HWM HWB HC HCS hWe hWi hXe hcs hcc HPL
  unfold Mo.cells at HB HM HT ck
  unfold Mo.cells rgCells at nx
  have NX := Lib.hid nx
  have CK := Lib.hid ck
  clear ck nx
  rw [show (w.alloc (.cells #[.int .i64 m.rings, .int .i64 m.give, .int .i64 m.plo, .int .i64 m.phi, .int .i64 m.wlo, .int .i64 m.whi, .int .i64 m.set, .int .i64 m.shrink, .int .i64 m.skin, .int .i64 m.fill, .int .i64 m.gap, .int .i64 m.deep] 25)).heap.size = w.heap.size + 1 by simp] at HT
  unfold Mo.cells
  go_enter Tryz.func24, Tryz.ntmps24
  go_upto_region 2 with (go_at_call 30; refine (CK.out _).mono ?_; rintro e w1 ⟨rfl, hb⟩)
  have t0 : w1.cell? ⟨w.heap.size + 1, 0, none⟩ = some (.slice (some ⟨pb, poff, none⟩) n c) := keep hb (cell_of_row _ _ 0 _ 57 (0, 0) HT.out)
  have t1 : w1.cell? ⟨w.heap.size + 1, 1, none⟩ = some (.slice a2 K c2) := keep hb (cell_of_row _ _ 1 _ 57 (0, 0) HT.out)
  have hM1 := HM.out.below hb
  have HB1 := Lib.hid (belT HB.out hb)
  clear hb HB HM HT CK
  have HM2 := Lib.hid (MoAt.new w1 m 61)
  have HB2 := Lib.hid (belT HB1.out (below_alloc1 w1 (.cells m.cells 61)))
  replace t0' := keep (below_alloc1 w1 (.cells m.cells 61)) t0
  replace t1' := keep (below_alloc1 w1 (.cells m.cells 61)) t1
  obtain ⟨c0, c1, c2', c3, c4, c5, c6, c7, c8, c9, c10, c11⟩ := hM1
  unfold Mo.cells at HM2 HB2 t0' t1'
  go_upto_region 5 with fail
  clear c0 c1 c2' c3 c4 c5 c6 c7 c8 c9 c10 c11 t0 t1 HB1
  generalize (w1.alloc (.cells #[.int .i64 m.rings, .int .i64 m.give, .int .i64 m.plo, .int .i64 m.phi, .int .i64 m.wlo, .int .i64 m.whi, .int .i64 m.set, .int .i64 m.shrink, .int .i64 m.skin, .int .i64 m.fill, .int .i64 m.gap, .int .i64 m.deep] 61)) = W2 at *
  generalize w1.heap.size = B at *
  have c0 := HM2.out.c0
  have c2' := HM2.out.c2
  have c3 := HM2.out.c3
  have c4 := HM2.out.c4
  have c5 := HM2.out.c5
  have tK2 : decide (600 < (K : Int)) = false := by simp; omega
  go_upto_region 7 with fail
  go_upto_region 9 with (first
    | ((with_reducible go_at_call 16); refine (OP.out _ _ (HPV.out.below HB2.out)).mono ?_; rintro e w3 ⟨rfl, hb3⟩; have c4 := keep hb3 c4; have c5 := keep hb3 c5; have t1' := keep hb3 t1')
    | ((with_reducible go_at_call 16); refine (OW.out _ _ (HWV.out.below (belT HB2.out hb3))).mono ?_; rintro e w4 ⟨rfl, hb4⟩))
  have hk := belT hb3 hb4
  have hm4 := HM2.out.below hk
  have hb5 := belT HB2.out hk
  have q0 : w4.cell? ⟨w.heap.size + 1, 0, none⟩ = some (.slice (some ⟨pb, poff, none⟩) n c) := keep hk t0'
  have q1 : w4.cell? ⟨w.heap.size + 1, 1, none⟩ = some (.slice a2 K c2) := keep hk (by first | exact t1' | assumption)
  clear c0 c2' c3 c4 c5 t0' t1' hb3 hb4 hk HM2 HB2 OP OW HPV HWV tq tK2
  have lB := hm4.lt
  have lT := lt_of_cell q0
  go_upto_region 10 with fail
  have hal := below_alloc1 w4 (.cells (rgCells fun _ => 0) 121)
  have hR : RgAt (w4.alloc (.cells (rgCells fun _ => 0) 121)) w4.heap.size (fun _ => 0) := RgAt.new w4 _
  have hR2 : (w4.alloc (.cells (rgCells fun _ => 0) 121)).heap[w4.heap.size]? = some (.cells ([Value.int .i64 0, .int .i64 0, .int .i64 0, .int .i64 0, .int .i64 0, .int .i64 0, .int .i64 0, .int .i64 0]).toArray 121 (0, 0)) := hR
  change Code.wp _ _ _ _ (w4.alloc (.cells (rgCells fun _ => 0) 121))
  replace q0 := keep hal q0
  replace q1 := keep hal q1
  have HM5 := Lib.hid (hm4.below hal)
  have HB5 := Lib.hid (belT hb5 hal)
  have HR2 := Lib.hid hR2
  generalize w4.heap.size = L at *
  generalize (w4.alloc (.cells (rgCells fun _ => 0) 121)) = W5 at *
  clear hm4 hb5 hal hR hR2
  go_still_tail 3, (by kernel_rfl)
  clear c4 c5 t1'
  change wpList _ _ _ _ _ W5.drew
  refine wpList_copy_splice rfl (.tmp 57) (.tmp 59) 26 26 rfl 3 Tryz.underlying26 size3r (some ⟨L, 0, none⟩) (some ⟨pb, poff, none⟩) 8 8 n c ?d1 ?d2 L 0 [Value.int .i64 0, .int .i64 0, .int .i64 0, .int .i64 0, .int .i64 0, .int .i64 0, .int .i64 0, .int .i64 0] 121 HR2.out (ps.map (Value.int .i64)) ?d3 ?d4 ?c2 ?d5 L W5 (Below.drew (Below.refl _ _)) (Nat.le_refl _) ?_
  case d1 => rfl
  case d2 => rfl
  case d3 => rw [HLP.out]; exact (Nat.min_eq_left n8').symm
  case d4 => intro _; exact ⟨rfl, _, rfl, fun j v hj => HPC.out W5 HB5.out j v hj⟩
  case c2 => rw [HLP.out]; simpa using n8'
  case d5 => intro v hv; obtain ⟨z, -, rfl⟩ := List.mem_map.1 hv; rfl
  intro w6 hblk hb6
  rw [HLP.out]
  have hR6 : RgAt w6 L (X 0) := by unfold RgAt; rw [← HS.out]; exact hblk.out
  have HF := Lib.hid (fun (W' : World) (hb : Below L w6 W') => show MoAt W' B m ∧ W'.cell? ⟨w.heap.size + 1, 1, none⟩ = some (.slice a2 K c2) ∧ Below w.heap.size w W' from
    have k := hb6.trans hb
    ⟨HM5.out.same8 (k.block B lB), (World.cell?_of_block (k.block (w.heap.size + 1) lT)).trans q1, HB5.out.trans (k.mono (by omega))⟩)
  have HR6 := Lib.hid hR6
  have q6 := (HF.out w6 (Below.refl _ _)).2.1
  have LL := hR6.lt
  clear hblk hR6 HS HLP HPC HR2 HM5 HB5 hb6 q0 q1
  go_wp2_with fail
  go_loopw [64] (fun i wr => ∃ k : Nat, k ≤ K ∧ i = .int .i64 k ∧ Hid (RgAt wr L (X k)) ∧ Hid (Below L w6 wr)) (fun i _ => K - (intOf i).toNat)
  case atStart => exact ⟨0, Nat.zero_le _, rfl, HR6, Lib.hid (Below.refl _ _)⟩
  case round =>
    clear HR6 q6
    obtain ⟨k, hk, rfl, hR, hB⟩ := hrel
    obtain ⟨hm, q1, hbw⟩ := HF.out wr hB.out
    by_cases hlt : k < K
    · have hlt' : (k : Int) < K := by omega
      obtain ⟨b, off, rfl, hcw⟩ := HCC.out (by omega)
      have cw := hcw wr hbw k hlt
      obtain ⟨c0, c1, c2', c3, c4, c5, c6, c7, c8, c9, c10, c11⟩ := hm
      have l0 := hR.out.cell (i := 0) (by omega)
      have l1 := hR.out.cell (i := 1) (by omega)
      have l2 := hR.out.cell (i := 2) (by omega)
      have l3 := hR.out.cell (i := 3) (by omega)
      have l4 := hR.out.cell (i := 4) (by omega)
      have l5 := hR.out.cell (i := 5) (by omega)
      have l6 := hR.out.cell (i := 6) (by omega)
      have l7 := hR.out.cell (i := 7) (by omega)
      clear hcw hbw
      go_wp2_with (go_at_call 64; refine (NX.out _ k hlt).mono ?_; rintro e w7 ⟨rfl, hb7⟩; have r7 := hR.out.below hb7; have t0 := r7.cell (i := 0) (by omega); have t1 := r7.cell (i := 1) (by omega); have t2 := r7.cell (i := 2) (by omega); have t3 := r7.cell (i := 3) (by omega); have t4 := r7.cell (i := 4) (by omega); have t5 := r7.cell (i := 5) (by omega); have t6 := r7.cell (i := 6) (by omega); have t7 := r7.cell (i := 7) (by omega); have fT := r7.frozen)
      have HR7 := Lib.hid (r7.store8 (X (k + 1)))
      have HB7 := Lib.hid (below_store8 (hB.out.trans (hb7.mono (Nat.le_of_lt hR.out.lt))) (Nat.le_refl L) (.int .i64 (X (k + 1) 0)) (.int .i64 (X (k + 1) 1)) (.int .i64 (X (k + 1) 2)) (.int .i64 (X (k + 1) 3)) (.int .i64 (X (k + 1) 4)) (.int .i64 (X (k + 1) 5)) (.int .i64 (X (k + 1) 6)) (.int .i64 (X (k + 1) 7)))
      clear r7 t0 t1 t2 t3 t4 t5 t6 t7 fT l0 l1 l2 l3 l4 l5 l6 l7 c0 c1 c2' c3 c4 c5 c6 c7 c8 c9 c10 c11
      go_roundw
      case rel => exact ⟨k + 1, by omega, by go_num, HR7, HB7⟩
      case measure => simp [intOf]; omega
    · obtain rfl : k = K := by omega
      have c0 := hm.c0
      have hrd := hR.out.rd n8' 8 n8'
      have HRD := Lib.hid hrd
      have HBW := Lib.hid hbw
      rw [← HN.out] at c0
      have nn : (n : Int) ≤ 8 := by omega
      clear hm q1 hbw hrd
      have hlen : ((List.range n).map (X k)).length ≤ 1000 := by simp; omega
      go_wp2_with (go_at_call 65; refine (clone_any L 0 n 8 _ _ HRD.out hlen).mono ?_; rintro e w8 ⟨v8, rfl, hr8, hb8⟩)
      go_ret2
      exact ⟨v8, rfl, hr8, belT HBW.out hb8⟩

end Go.Proofs.YtcncmlpppabbcaaGreat
