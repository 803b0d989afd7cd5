/- The walk of the laws' 'pinned': a line and readings with which the weights of two points are just so. -/
import Derived.Test.YtnombgiacfeloaaM26
import Derived.Test.YtnombgiacfeloaaA2
import Derived.Test.YtnombgiacfeloaaW24
namespace Go.Proofs.Ytnombgiacfeloaa
set_option linter.unusedVariables false
set_option linter.unusedSimpArgs false
open Go.RowKit

/-- The point, the weight, and what there is behind the first n of two. -/
def pinP (a b : Nat) (n : Nat) : Nat := if n = 0 then a else b
def pinX (x y : Int) (n : Nat) : Int := if n = 0 then x else y
def pinEN (err : Int) (a b : Nat) : Nat → Int
  | 0 => err
  | n + 1 => pinE (pinEN err a b n) (pinP a b n)
def pinSN (ss : List Stp) (a b : Nat) : Nat → List Stp
  | 0 => ss
  | n + 1 => pinS (pinSN ss a b n) (pinP a b n)
def pinRN (rs : List Int) (a b : Nat) (x y : Int) : Nat → List Int
  | 0 => rs
  | n + 1 => (pinRN rs a b x y n).set (pinP a b n) (pinX x y n)
theorem pinSN_len (ss : List Stp) (a b : Nat) : ∀ n, (pinSN ss a b n).length = ss.length
  | 0 => rfl
  | n + 1 => (pinS_len _ _).trans (pinSN_len ss a b n)
theorem pinRN_len (rs : List Int) (a b : Nat) (x y : Int) : ∀ n, (pinRN rs a b x y n).length = rs.length
  | 0 => rfl
  | n + 1 => (List.length_set ..).trans (pinRN_len rs a b x y n)

/-- A line and readings, in new memory. -/
def RetPin (err : Int) (ss : List Stp) (rs : List Int) (w : World) (e : Ending) (w' : World) : Prop := ∃ g2 c2 g c : Nat, e = .returned (.tuple #[.agg #[.int .i64 err, .slice (some ⟨g2, 0, none⟩) ss.length c2], .slice (some ⟨g, 0, none⟩) rs.length c]) ∧ Rd w' 4 (.slice (some ⟨g2, 0, none⟩) ss.length c2) (stpRows ss) ∧ Rd w' 1 (.slice (some ⟨g, 0, none⟩) rs.length c) (ints rs) ∧ w.heap.size ≤ g2 ∧ w.heap.size ≤ g ∧ Below w.heap.size w w'

theorem cellSD {w : World} {B o F p : Nat} {u v : Value} (h : w.cell? ⟨B, o, none⟩ = some v) (hne : B ≠ F) : ((w.setCell ⟨F, p, none⟩ u).drew).cell? ⟨B, o, none⟩ = some v :=
  keep (Below.drew (Below.refl _ _)) ((World.cell?_setCell_other _ _ _ _ (by intro h; simp only [Addr.mk.injEq] at h; omega)).trans h)
theorem cellS {w : World} {B o F p : Nat} {u v : Value} (h : w.cell? ⟨B, o, none⟩ = some v) (hne : B ≠ F) : (w.setCell ⟨F, p, none⟩ u).cell? ⟨B, o, none⟩ = some v :=
  (World.cell?_setCell_other _ _ _ _ (by intro h; simp only [Addr.mk.injEq] at h; omega)).trans h
theorem rdCell {w : World} {g n c : Nat} {zs : List Int} (h : Rd w 1 (.slice (some ⟨g, 0, none⟩) n c) (ints zs)) {p : Nat} (hp : p < zs.length) : w.cell? ⟨g, p, none⟩ = some (.int .i64 zs[p]) := by
  obtain ⟨a5, c5, e5, -, -, h5⟩ := h.ints
  obtain ⟨b5, o5, e6, -, h6⟩ := h5 (by omega)
  simp only [Value.slice.injEq] at e5
  obtain ⟨rfl, -, -⟩ := e5
  simp only [Option.some.injEq, Addr.mk.injEq, and_true] at e6
  obtain ⟨rfl, rfl⟩ := e6
  have := h6 p hp
  rw [Nat.zero_add] at this
  exact this
theorem rdErrCell {w : World} {g n c : Nat} {ss : List Stp} (h : Rd w 4 (.slice (some ⟨g, 0, none⟩) n c) (stpRows ss)) {p : Nat} (hp : p < ss.length) : w.cell? ⟨g, p * 4 + 3, none⟩ = some (.int .i64 ss[p].err) := by
  obtain ⟨a5, c5, e5, -, -, h5⟩ := h.stps
  obtain ⟨b5, o5, e6, -, h6⟩ := h5 (by omega)
  simp only [Value.slice.injEq] at e5
  obtain ⟨rfl, -, -⟩ := e5
  simp only [Option.some.injEq, Addr.mk.injEq, and_true] at e6
  obtain ⟨rfl, rfl⟩ := e6
  obtain ⟨-, -, -, h7⟩ := h6 p hp
  rw [Nat.zero_add] at h7
  exact h7

set_option maxRecDepth 100000 in
set_option maxHeartbeats 8000000 in
theorem pinned_any (err : Int) (ss : List Stp) (rs : List Int) (v rv : Value) (a b : Nat) (x y : Int) (w : World) (h : Rd w 4 v (stpRows ss)) (hr : Rd w 1 rv (ints rs)) (hl : 1 ≤ ss.length ∧ ss.length ≤ 6) (hlr : rs.length = ss.length + 1) (ha : a ≤ ss.length) (hb : b ≤ ss.length) :
    Calls Try.prog 43 #[.agg #[.int .i64 err, v], rv, .int .i64 a, .int .i64 x, .int .i64 b, .int .i64 y] w (RetPin (pinE (pinE err a) b) (pinS (pinS ss a) b) ((rs.set a x).set b y) w) := by
  have HR := Lib.hid h
  have HQ := Lib.hid hr
  obtain ⟨sa, sc, rfl, -, hm, hcell⟩ := h.stps
  obtain ⟨gb, goff, rfl, hgb, -⟩ := hcell (by omega)
  obtain ⟨ra, rc, hrv, -, hm', hrcell⟩ := hr.ints
  obtain ⟨qb, qoff, rfl, hqb, -⟩ := hrcell (by omega)
  rw [hlr] at hrv hm'
  subst hrv
  have hl6s : ss.length ≤ 10 := by omega
  have hl0 : 0 < ss.length := by omega
  have HLR := Lib.hid hlr
  clear h hr hcell hrcell hlr
  obtain ⟨i0, hi0, hz0, hz1, hz2⟩ := info_parts info3
  obtain ⟨i1, hi1, hz01, hz11, hz21⟩ := info_parts info76
  go_enter Try.func43, Try.ntmps43
  go_upto_region 1 with fail
  obtain ⟨wz, hwz⟩ : ∃ wz, (w.alloc (.cells #[.int .i64 err, .slice (some ⟨gb, goff, none⟩) ss.length sc] 24)).alloc (.cells #[.int .i64 0, .slice none 0 0] 24) = wz := ⟨_, rfl⟩
  have c0 : wz.cell? ⟨w.heap.size, 0, none⟩ = some (.int .i64 err) := by rw [← hwz]; simp [go_sem]
  have c1 : wz.cell? ⟨w.heap.size, 1, none⟩ = some (.slice (some ⟨gb, goff, none⟩) ss.length sc) := by rw [← hwz]; simp [go_sem]
  have d0 : wz.cell? ⟨w.heap.size + 1, 0, none⟩ = some (.int .i64 0) := by rw [← hwz]; simp [go_sem]
  have d1 : wz.cell? ⟨w.heap.size + 1, 1, none⟩ = some (.slice none 0 0) := by rw [← hwz]; simp [go_sem]
  have k0 : wz.frozen? ⟨w.heap.size + 1, 0, none⟩ = false := by rw [← hwz]; simp [go_sem]
  have k1 : wz.frozen? ⟨w.heap.size + 1, 1, none⟩ = false := by rw [← hwz]; simp [go_sem]
  have hB : Below w.heap.size w wz := by rw [← hwz]; exact below_alloc2 _ _ _
  have hsz : w.heap.size + 1 < wz.heap.size := by rw [← hwz]; simp
  rw [hwz]
  clear hwz
  have HRz := Lib.hid (HR.out.below hB)
  go_cut [14] (fun s14 wx => ∃ F g2 cap2 : Nat, s14 = .pointer (some ⟨F, 0, none⟩) ∧ wx.cell? ⟨F, 0, none⟩ = some (.int .i64 err) ∧ wx.cell? ⟨F, 1, none⟩ = some (.slice (some ⟨g2, 0, none⟩) ss.length cap2) ∧ Rd wx 4 (.slice (some ⟨g2, 0, none⟩) ss.length cap2) (stpRows ss) ∧ (∀ o, wx.frozen? ⟨g2, o, none⟩ = false) ∧ wx.frozen? ⟨F, 0, none⟩ = false ∧ F ≠ g2 ∧ wz.heap.size ≤ g2 ∧ wz.heap.size ≤ F ∧ Below wz.heap.size wz wx)
  case first =>
    go_region_held3 (fun w' => w'.cell? ⟨w.heap.size, 0, none⟩ = some (.int .i64 err) ∧ w'.cell? ⟨w.heap.size, 1, none⟩ = some (.slice (some ⟨gb, goff, none⟩) ss.length sc) ∧ Below wz.heap.size wz w')
      (first
        | exact ⟨keep hbb c0, keep hbb c1, hbb⟩
        | (refine ⟨keep (W := wz) ?_ c0, keep (W := wz) ?_ c1, ?_⟩ <;> ((repeat' first | exact hbb | refine Below.setCell ?_ (by simp) _ | refine belAlloc ?_ _); done))
        | (go_split_ands; refine ⟨?_, ?_, ?_⟩ <;> with_reducible first | assumption | ((repeat' first | assumption | exact Below.refl _ _ | refine Below.drew ?_ | refine belAlloc ?_ _); done) | go_keep))
      (first
        | (refine step_apS2 i1 hi1 hz01 hz11 hz21 rfl (.tmp 21) (.tmp 23) rfl ss (by rfl) (by rfl) HRz.out hl6s (by omega) ?_; intro g2 cap2 W5 rd5 fz5 hg5 hg6 hbb hne u0 u1 uf0 uf1)
        | (refine step_apS3 i1 hi1 hz01 hz11 hz21 rfl (.tmp 21) (.tmp 23) rfl ss (by rfl) (by rfl) HRz.out hl6s (by omega) ?_; intro g2 cap2 W5 rd5 fz5 hg5 hg6 hbb hne u0 u1 uf0 uf1)
        | (go_split_ands; refine step_apS wz i1 hi1 hz01 hz11 hz21 rfl (.tmp 21) (.tmp 23) rfl _ ss (by rfl) (by rfl) HRz.out hl6s (by exact owns_empty wz 76 4) (by with_reducible assumption) (by omega) ?_; intro g2 cap2 W5 rd5 fz5 hg5 hg6 hbb hgr hc5))
    all_goals go_wp2_with fail
    all_goals go_meet
    all_goals
      first
        | exact ⟨_, g2, cap2, rfl, cell_new_lit W5 [_, _] 24 0, cell_new_lit W5 [_, _] 24 1, rd5.below (below_alloc1 _ _), fun o => keepF (below_alloc1 _ _) hg6 (fz5 o), by simp [go_sem], by omega, hg5, hbb.size, belAlloc hbb _⟩
        | exact ⟨_, g2, cap2, rfl, by rw [World.cell?_setCell_other _ _ _ _ (by simp), World.cell?_setCell_same _ _ _ u0], by rw [World.cell?_setCell_same _ _ _ ((World.cell?_setCell_other _ _ _ _ (by simp)).trans u1)], rdOther (rdOther rd5 hne) hne, fun o => by rw [World.frozen?_setCell, World.frozen?_setCell]; exact fz5 o, by rw [World.frozen?_setCell, World.frozen?_setCell]; exact uf0, hne, hg5, by simp, Below.setCell (Below.setCell hbb (by simp) _) (by simp) _⟩
  case rest =>
    obtain ⟨F, g2, cap2, rfl, f0, f1, rdF, fz, fF, hne, hg2, hF, hWz⟩ := hcut
    obtain ⟨wy, rfl⟩ : ∃ wy, wy = wc := ⟨_, rfl⟩
    have hil : (ints rs).length = ss.length + 1 := by rw [ints_length]; exact HLR.out
    have HQy := Lib.hid (HQ.out.below (belTrans hB hWz))
    go_wp2_with (at_builtin; refine wpList_append_rd rfl (.tmp 26) (.tmp 27) 25 rfl wy.heap.size 3 i0 (.int .i64 0) 1 8 Try.underlying25 hi0 hz0 hz1 hz2 rfl (by decide) _ 0 [] (by rfl) (owns_empty wy 3 1) _ (ints rs) (by rfl) (HQy.out.below (below_alloc1 _ _)) (ints_one _) (by unfold maxLen; omega) (by omega) (by simp) ?_)
    intro V4 w4 own4 hg4
    have rd4 := Rd.of_owns (rows := ints rs) (by rw [hil]; exact own4) (fun r hr => by obtain ⟨z, -, rfl⟩ := List.mem_map.1 hr; rfl)
    have hb4 : Below wy.heap.size wy w4 := (below_alloc1 wy (.cells #[] 3)).trans (grown_below hg4 (by simp) (fun j e => by simp [Value.ownBlock] at e; omega))
    obtain ⟨g, cap, cur, rfl, hgy, hgc, hcap, -⟩ : ∃ g cap cur, V4 = .slice (some ⟨g, 0, none⟩) (ss.length + 1) cap ∧ wy.heap.size ≤ g ∧ w4.heap[g]? = some (.cells cur 3 (0, 0)) ∧ ss.length + 1 ≤ cap ∧ True := by
      rcases own4.2 with ⟨-, h0⟩ | ⟨g, cap, cur, e, h1, h2, h3, -⟩
      · simp at h0
      · exact ⟨g, cap, cur, e, h1, h2, h3, trivial⟩
    have hg4l : g < w4.heap.size := (Array.getElem?_eq_some_iff.1 hgc).1
    have fzg : ∀ o, w4.frozen? ⟨g, o, none⟩ = false := fun o => frozen_of_row hgc
    have lF := lt_of_cell f0
    have hg2l : g2 < wy.heap.size := by
      obtain ⟨a5, c5, e9, -, -, -, hr5⟩ := id rdF
      obtain ⟨b5, off5, e5, hlt5, -⟩ := hr5 (by rw [stpRows_length]; omega)
      simp only [Value.slice.injEq] at e9
      obtain ⟨rfl, -, -⟩ := e9
      simp only [Option.some.injEq, Addr.mk.injEq, and_true] at e5
      obtain ⟨rfl, -⟩ := e5
      exact hlt5
    have fF4 := keepF hb4 lF fF
    have fz4 := fun o => keepF hb4 hg2l (fz o)
    replace f0 := keep hb4 f0
    replace f1 := keep hb4 f1
    replace rdF := rdF.below hb4
    replace hWz := belTrans hWz hb4
    clear own4 hg4 hgc hb4 hil fz fF
    go_wp2_with fail
    obtain ⟨wl, hwl⟩ : ∃ wl, (w4.alloc (.cells #[.int .i64 a, .int .i64 b] 3)).alloc (.cells #[.int .i64 x, .int .i64 y] 3) = wl := ⟨_, rfl⟩
    have hk : Below w4.heap.size w4 wl := by rw [← hwl]; exact below_alloc2 _ _ _
    have pc : ∀ n, n < 2 → wl.cell? ⟨w4.heap.size, n, none⟩ = some (.int .i64 (pinP a b n)) := by
      intro n hn
      have : n = 0 ∨ n = 1 := by omega
      rcases this with rfl | rfl <;> (rw [← hwl]; simp [go_sem, pinP])
    have xc : ∀ n, n < 2 → wl.cell? ⟨w4.heap.size + 1, n, none⟩ = some (.int .i64 (pinX x y n)) := by
      intro n hn
      have : n = 0 ∨ n = 1 := by omega
      rcases this with rfl | rfl <;> (rw [← hwl]; simp [go_sem, pinX])
    rw [hwl]
    clear hwl
    replace f0 := keep hk f0
    replace f1 := keep hk f1
    have lz := hWz.size
    have fF5 := keepF hk (by omega) fF4
    have fz5 := fun o => keepF hk (show g2 < w4.heap.size by have := hgy; omega) (fz4 o)
    have fg5 := fun o => keepF hk hg4l (fzg o)
    have rdG := rd4.below hk
    replace rdF := rdF.below hk
    replace hWz := belTrans hWz hk
    have nFg : F < g := Nat.lt_of_lt_of_le lF hgy
    have n2g : g2 < g := Nat.lt_of_lt_of_le hg2l hgy
    have hgz : wz.heap.size ≤ g := by omega
    have hzP : wz.heap.size ≤ w4.heap.size := by omega
    have ppn : ∀ n, pinP a b n ≤ ss.length := fun n => by unfold pinP; split <;> omega
    have K1 := Lib.hid d0
    have K2 := Lib.hid d1
    have K3 := Lib.hid k0
    have K4 := Lib.hid k1
    have PP := Lib.hid ppn
    generalize w4.heap.size = PB at *
    clear fF4 fz4 fzg rd4 hk d0 d1 k0 k1 hcap HQy HRz c0 c1 ppn lF hg2l
    go_wp2_with fail
    go_loopw [18] (fun i wr => ∃ n : Nat, n ≤ 2 ∧ i = .int .i64 n ∧ wr.cell? ⟨F, 0, none⟩ = some (.int .i64 (pinEN err a b n)) ∧ wr.cell? ⟨F, 1, none⟩ = some (.slice (some ⟨g2, 0, none⟩) ss.length cap2) ∧ Rd wr 4 (.slice (some ⟨g2, 0, none⟩) ss.length cap2) (stpRows (pinSN ss a b n)) ∧ Rd wr 1 (.slice (some ⟨g, 0, none⟩) (ss.length + 1) cap) (ints (pinRN rs a b x y n))
      ∧ (∀ o, wr.frozen? ⟨g2, o, none⟩ = false) ∧ (∀ o, wr.frozen? ⟨g, o, none⟩ = false) ∧ wr.frozen? ⟨F, 0, none⟩ = false ∧ (∀ m, m < 2 → wr.cell? ⟨PB, m, none⟩ = some (.int .i64 (pinP a b m))) ∧ (∀ m, m < 2 → wr.cell? ⟨PB + 1, m, none⟩ = some (.int .i64 (pinX x y m))) ∧ Below wz.heap.size wz wr) (fun i _ => 2 - (intOf i).toNat)
    case atStart => exact ⟨0, Nat.zero_le _, rfl, f0, f1, rdF, rdG, fz5, fg5, fF5, pc, xc, hWz⟩
    case round =>
      clear f0 f1 rdF rdG fz5 fg5 fF5 pc xc hWz
      obtain ⟨n, hn, rfl, f0, f1, rdF, rdG, fz5, fg5, fF5, pc, xc, hWz⟩ := hrel
      by_cases hlt : n < 2
      · have hlt' : (n : Int) < 2 := by omega
        have p0 := pc n hlt
        have q0 := xc n hlt
        have hp := PP.out n
        have hE : pinEN err a b (n + 1) = pinE (pinEN err a b n) (pinP a b n) := rfl
        have hS : pinSN ss a b (n + 1) = pinS (pinSN ss a b n) (pinP a b n) := rfl
        have hRR : pinRN rs a b x y (n + 1) = (pinRN rs a b x y n).set (pinP a b n) (pinX x y n) := rfl
        have lS := pinSN_len ss a b n
        have lR := (pinRN_len rs a b x y n).trans HLR.out
        generalize pinEN err a b n = E at *
        generalize pinSN ss a b n = S1 at *
        generalize pinRN rs a b x y n = R1 at *
        generalize pinP a b n = p at *
        generalize pinX x y n = q at *
        obtain ⟨z0, zc⟩ : ∃ z0, wr.cell? ⟨g, p, none⟩ = some (.int .i64 z0) := ⟨_, rdCell rdG (p := p) (by omega)⟩
        have fgp := fg5 p
        have hpl : (p : Int) < ((ss.length + 1 : Nat) : Int) := by omega
        have hpl2 : (p : Int) < (ss.length : Int) + 1 := by omega
        have rdG2 := rdSetInt (by rw [lR]; exact rdG) (k := p) (by omega) q
        rw [lR, ← hRR] at rdG2
        have HE := Lib.hid hE
        have HS := Lib.hid hS
        have PC := Lib.hid pc
        have XC := Lib.hid xc
        have LS := Lib.hid lS
        have FZ := Lib.hid fz5
        have FG := Lib.hid fg5
        have RDG2 := Lib.hid rdG2
        have HWZ := Lib.hid hWz
        have RDF := Lib.hid rdF
        clear hE hS hRR pc xc lS lR fz5 fg5 rdG rdG2 hWz rdF
        go_upto_region 7 with fail
        go_still_tail 10, (by kernel_rfl)
        change wpList _ _ _ _ _ wr.drew
        go_upto_region 8 with fail
        obtain ⟨w5, hw5⟩ : ∃ w5, (wr.setCell ⟨g, p, none⟩ (.int .i64 q)).drew = w5 := ⟨_, rfl⟩
        have gP : PB ≠ g := by omega
        have gX : PB + 1 ≠ g := by omega
        have p1 : w5.cell? ⟨PB, n, none⟩ = some (.int .i64 p) := by rw [← hw5]; exact cellSD p0 gP
        replace f0 : w5.cell? ⟨F, 0, none⟩ = some (.int .i64 E) := by rw [← hw5]; exact cellSD f0 (by omega)
        replace f1 : w5.cell? ⟨F, 1, none⟩ = some (.slice (some ⟨g2, 0, none⟩) ss.length cap2) := by rw [← hw5]; exact cellSD f1 (by omega)
        have rdF5 : Rd w5 4 (.slice (some ⟨g2, 0, none⟩) ss.length cap2) (stpRows S1) := by rw [← hw5]; exact (rdOther RDF.out (by omega)).below (Below.drew (Below.refl _ _))
        have rdG5 : Rd w5 1 (.slice (some ⟨g, 0, none⟩) (ss.length + 1) cap) (ints (pinRN rs a b x y (n + 1))) := by rw [← hw5]; exact RDG2.out.below (Below.drew (Below.refl _ _))
        have fz6 : ∀ o, w5.frozen? ⟨g2, o, none⟩ = false := fun o => by rw [← hw5, show ∀ W : World, W.drew.frozen? = W.frozen? from fun _ => rfl, World.frozen?_setCell]; exact FZ.out o
        have fg6 : ∀ o, w5.frozen? ⟨g, o, none⟩ = false := fun o => by rw [← hw5, show ∀ W : World, W.drew.frozen? = W.frozen? from fun _ => rfl, World.frozen?_setCell]; exact FG.out o
        have fF6 : w5.frozen? ⟨F, 0, none⟩ = false := by rw [← hw5, show ∀ W : World, W.drew.frozen? = W.frozen? from fun _ => rfl, World.frozen?_setCell]; exact fF5
        have pc5 : ∀ m, m < 2 → w5.cell? ⟨PB, m, none⟩ = some (.int .i64 (pinP a b m)) := fun m hm => by rw [← hw5]; exact cellSD (PC.out m hm) gP
        have xc5 : ∀ m, m < 2 → w5.cell? ⟨PB + 1, m, none⟩ = some (.int .i64 (pinX x y m)) := fun m hm => by rw [← hw5]; exact cellSD (XC.out m hm) gX
        have hW5 : Below wz.heap.size wz w5 := by rw [← hw5]; exact (HWZ.out.setCell hgz _).drew
        rw [hw5]
        have RDF5 := Lib.hid rdF5
        have RDG5 := Lib.hid rdG5
        have FZ6 := Lib.hid fz6
        have FG6 := Lib.hid fg6
        have PC5 := Lib.hid pc5
        have XC5 := Lib.hid xc5
        have HW5 := Lib.hid hW5
        clear hw5 p0 q0 zc fgp rdF5 rdG5 fz6 fg6 pc5 xc5 hW5 RDF RDG2 FZ FG PC XC HWZ fF5
        cases p with
        | zero =>
          have e1 : pinEN err a b (n + 1) = 0 := by rw [HE.out]; rfl
          have e2 : pinSN ss a b (n + 1) = S1 := by rw [HS.out]; rfl
          have E1 := Lib.hid e1
          have E2 := Lib.hid e2
          clear e1 e2
          go_wp2_with fail
          refine ⟨⟨n + 1, by omega, by go_num, by rw [E1.out]; exact World.cell?_setCell_same _ _ _ f0, (World.cell?_setCell_other _ _ _ _ (by simp)).trans f1, by rw [E2.out]; exact rdOther RDF5.out hne, rdOther RDG5.out (by omega), fun o => by rw [World.frozen?_setCell]; exact FZ6.out o, fun o => by rw [World.frozen?_setCell]; exact FG6.out o, by rw [World.frozen?_setCell]; exact fF6, fun m hm => cellS (PC5.out m hm) (by omega), fun m hm => cellS (XC5.out m hm) (by omega), HW5.out.setCell hF _⟩, by simp [intOf]; omega⟩
        | succ p' =>
          have lS := LS.out
          have e1 : pinEN err a b (n + 1) = E := by rw [HE.out]; unfold pinE; rw [if_neg (by omega)]
          have e2 : pinSN ss a b (n + 1) = S1.set p' { S1[p']'(by omega) with err := 0 } := by
            rw [HS.out]
            unfold pinS
            rw [if_neg (by omega), Nat.add_sub_cancel, List.getElem?_eq_getElem (by omega)]
          have g4 := rdErrCell RDF5.out (p := p') (by omega)
          have fz7 := FZ6.out (p' * 4 + 3)
          have rdE := rdSetErr (w := w5) (g := g2) (c := cap2) (ss := S1) (by rw [lS]; exact RDF5.out) (k := p') (by omega) 0
          rw [← e2, lS] at rdE
          have t1 : (((p' + 1 : Nat) : Int) == 0) = false := by rw [beq_eq_false_iff_ne]; omega
          have t2 : ((p' + 1 : Nat) : Int) - 1 = p' := by omega
          have t3 : (p' : Int) < ss.length := by omega
          have t4 : IntKind.i64.wrap (((p' + 1 : Nat) : Int) - 1) = p' := by rw [t2]; exact IntWalk.i64_in _ (by omega)
          have t5 : IntKind.i64.wrap (p' : Int) = p' := IntWalk.i64_in _ (by omega)
          have t6 : (0 : Int) ≤ p' := by omega
          obtain ⟨z1, hz1'⟩ : ∃ z1, (S1[p']'(by omega)).err = z1 := ⟨_, rfl⟩
          rw [hz1'] at g4
          have E1 := Lib.hid e1
          have RDE := Lib.hid rdE
          clear e1 e2 rdE hz1' lS
          go_upto_region 10 with fail
          go_still_tail 9, (by kernel_rfl)
          change wpList _ _ _ _ _ w5.drew
          go_wp2_with fail
          refine ⟨⟨n + 1, by omega, by go_num, by rw [E1.out]; exact cellSD f0 (by omega), cellSD f1 (by omega), RDE.out.below (Below.drew (Below.refl _ _)), (rdOther RDG5.out (by omega)).below (Below.drew (Below.refl _ _)), fun o => by rw [show ∀ W : World, W.drew.frozen? = W.frozen? from fun _ => rfl, World.frozen?_setCell]; exact FZ6.out o, fun o => by rw [show ∀ W : World, W.drew.frozen? = W.frozen? from fun _ => rfl, World.frozen?_setCell]; exact FG6.out o, by rw [show ∀ W : World, W.drew.frozen? = W.frozen? from fun _ => rfl, World.frozen?_setCell]; exact fF6, fun m hm => cellSD (PC5.out m hm) (by omega), fun m hm => cellSD (XC5.out m hm) (by omega), (HW5.out.setCell hg2 _).drew⟩, by simp [intOf]; omega⟩
      · obtain rfl : n = 2 := by omega
        have d0 := keep hWz K1.out
        have d1 := keep hWz K2.out
        have k0 := keepF hWz hsz K3.out
        have k1 := keepF hWz hsz K4.out
        have e1 : pinEN err a b 2 = pinE (pinE err a) b := rfl
        have e2 : pinSN ss a b 2 = pinS (pinS ss a) b := rfl
        have e3 : pinRN rs a b x y 2 = (rs.set a x).set b y := rfl
        rw [e1] at f0
        rw [e2] at rdF
        rw [e3] at rdG
        have RDF := Lib.hid rdF
        have RDG := Lib.hid rdG
        have hfin := belTrans hB hWz
        have nF : w.heap.size + 1 ≠ g2 := by omega
        have nG : w.heap.size + 1 ≠ g := by omega
        clear rdF rdG e1 e2 e3 fz5 fg5 fF5 pc xc hlt
        go_wp2_with fail
        have l1 : (pinS (pinS ss a) b).length = ss.length := (pinS_len _ _).trans (pinS_len _ _)
        have l2 : ((rs.set a x).set b y).length = ss.length + 1 := by rw [List.length_set, List.length_set]; exact HLR.out
        have L1 := Lib.hid l1
        have L2 := Lib.hid l2
        clear l1 l2
        exact bodyPost_ret (v := .tuple #[.agg #[.int .i64 (pinE (pinE err a) b), .slice (some ⟨g2, 0, none⟩) ss.length cap2], .slice (some ⟨g, 0, none⟩) (ss.length + 1) cap]) (by simp [results, Try.results43, go_sem, *]) rfl ⟨g2, cap2, g, cap, by rw [L1.out, L2.out], by rw [L1.out]; exact rdOther (rdOther RDF.out nF) nF, by rw [L2.out]; exact rdOther (rdOther RDG.out nG) nG, by omega, by omega, Below.setCell (Below.setCell hfin (Nat.le_succ _) _) (Nat.le_succ _) _⟩

end Go.Proofs.Ytnombgiacfeloaa
