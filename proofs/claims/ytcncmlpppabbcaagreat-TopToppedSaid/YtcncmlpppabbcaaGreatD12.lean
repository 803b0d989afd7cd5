/- The walk of the closure of mould's end that lets rings set up to a minute. -/
import Derived.Test.YtcncmlpppabbcaaGreatD11
namespace Go.Proofs.YtcncmlpppabbcaaGreat
set_option linter.unusedVariables false
set_option linter.unusedSimpArgs false
open Go.RowKit
attribute [local go_sem] Oper.semAt_some

set_option maxHeartbeats 2000000 in
theorem sink_any (m : Mo) (hm : MoOk m) (t : Int) (n Bw Bd Bh Bt LD : Nat) (v : Value) (zs : List Int) (D : Nat → Bool) (h : Int) (w : World)
    (hn : (n : Int) = m.rings) (hz : zs.length = n) (hh : 0 ≤ h ∧ h ≤ 1000000000)
    (c1 : w.cell? ⟨Bw, 0, none⟩ = some v) (hr : ∀ w', SameAt (fun b => b ≠ LD ∧ b ≠ Bh) w w' → Rd w' 1 v (ints zs))
    (c2 : w.cell? ⟨Bd, 0, none⟩ = some (.slice (some ⟨LD, 0, none⟩) n n)) (c3 : w.cell? ⟨Bh, 0, none⟩ = some (.int .i64 h)) (f3 : w.frozen? ⟨Bh, 0, none⟩ = false)
    (c4 : MoAt w Bt m) (hD : BoAt w LD n D) (ne : LD ≠ Bh) (n1 : Bw ≠ LD ∧ Bw ≠ Bh) (n2 : Bd ≠ LD ∧ Bd ≠ Bh) (n4 : Bt ≠ LD ∧ Bt ≠ Bh) :
    Calls Tryz.prog 63 #[.int .i64 t, .pointer (some ⟨Bw, 0, none⟩), .pointer (some ⟨Bd, 0, none⟩), .pointer (some ⟨Bh, 0, none⟩), .pointer (some ⟨Bt, 0, none⟩)] w fun e w' =>
      (∃ r, e = .returned r) ∧ BoAt w' LD n (snk m zs t D h n).1 ∧ w'.cell? ⟨Bh, 0, none⟩ = some (.int .i64 (snk m zs t D h n).2) ∧ w'.frozen? ⟨Bh, 0, none⟩ = false ∧
        SameAt (fun b => b ≠ LD ∧ b ≠ Bh) w w' ∧ (∀ N, N ≤ LD → N ≤ Bh → Below N w w') := by
  have r8 := hm.rings
  have hb0 := snk_bd hm zs t D h
  have HBD := Lib.hid hb0
  have HTB : Hid (∀ k : Nat, (k : Int) < m.rings → 0 ≤ m.shrink * (2 * (m.rings - k) - 1) ∧ m.shrink * (2 * (m.rings - k) - 1) ≤ 3000) := Lib.hid fun k hk => term_bd hm hk
  have HR := Lib.hid hr
  have HM := Lib.hid c4
  have HN := Lib.hid (And.intro n1 (And.intro n2 n4))
  have HI0 := Lib.hid (And.intro hD (And.intro c3 (And.intro f3 (And.intro (SameAt.refl (fun b => b ≠ LD ∧ b ≠ Bh) w) (fun N (_ : N ≤ LD) (_ : N ≤ Bh) => Below.refl N w)))))
  have HC := Lib.hid (And.intro c1 c2)
  obtain ⟨a, c, rfl, hac, hmx, -⟩ := (hr w (SameAt.refl _ w)).ints
  clear hb0 hr c2 c3 f3 c4 hD n1 n2 n4 hac
  go_enter Tryz.func63, Tryz.ntmps63
  go_wp2_with fail
  go_loopw [10] (fun i wr => ∃ k : Nat, k ≤ n ∧ i = .int .i64 k ∧ Hid (BoAt wr LD n (snk m zs t D h k).1 ∧ wr.cell? ⟨Bh, 0, none⟩ = some (.int .i64 (snk m zs t D h k).2) ∧ wr.frozen? ⟨Bh, 0, none⟩ = false ∧
    SameAt (fun b => b ≠ LD ∧ b ≠ Bh) w wr ∧ (∀ N, N ≤ LD → N ≤ Bh → Below N w wr))) (fun i _ => n - (intOf i).toNat)
  case atStart => exact ⟨0, Nat.zero_le _, rfl, HI0⟩
  case round =>
    clear HI0
    obtain ⟨k, hk, rfl, HI⟩ := hrel
    by_cases hlt : k < n
    · have hkr : (k : Int) < m.rings := by omega
      obtain ⟨a2, c2, e2, -, -, hq⟩ := (HR.out wr HI.out.2.2.2.1).ints
      obtain ⟨b, off, ha, -, hcell⟩ := hq (by omega)
      simp only [Value.slice.injEq] at e2
      obtain ⟨rfl, -, rfl⟩ := e2
      subst ha
      have hk1 : k < zs.length := by omega
      have zc := hcell k hk1
      have hs : snk m zs t D h (k + 1) = if (snk m zs t D h k).1 k = false ∧ zs[k] ≤ t then (putB (snk m zs t D h k).1 k true, (snk m zs t D h k).2 + m.shrink * (2 * (m.rings - k) - 1)) else snk m zs t D h k := by
        show (if _ then _ else _) = _
        have ez : zs.getD k 0 = zs[k] := by simp [List.getD, hk1]
        rw [ez]
      have w2 := HI.out.2.2.2.1.cell (b := Bd) HN.out.2.1 HC.out.2
      have m0 := HI.out.2.2.2.1.cell (b := Bt) HN.out.2.2 HM.out.c0
      have m7 := HI.out.2.2.2.1.cell (b := Bt) HN.out.2.2 HM.out.c7
      have hd := HI.out.1.cell (i := k) hlt
      have fd := HI.out.1.frozen k
      have hh1 := HI.out.2.1
      have fh := HI.out.2.2.1
      have bd := HBD.out k (by omega)
      have tb := HTB.out k hkr
      clear hcell hq
      generalize zs[k] = z at zc hs
      generalize snk m zs t D h k = s at hd hh1 bd hs HI
      have HS := Lib.hid hs
      clear hs
      cases hd' : s.1 k with
      | true =>
        rw [hd'] at hd
        have e : snk m zs t D h (k + 1) = s := by rw [HS.out, if_neg (by rw [hd']; simp)]
        have HE := Lib.hid e
        clear e HS
        go_wp2_with fail
        go_roundw
        case rel => exact ⟨k + 1, by omega, by go_num, by rw [HE.out]; exact HI⟩
        case measure => simp [intOf]; omega
      | false =>
        rw [hd'] at hd
        by_cases hzt : z ≤ t
        · have e : snk m zs t D h (k + 1) = (putB s.1 k true, s.2 + m.shrink * (2 * (m.rings - k) - 1)) := by rw [HS.out, if_pos ⟨hd', hzt⟩]
          have HE := Lib.hid e
          clear e HS
          have q1 : LD ≠ Bt := fun q => HN.out.2.2.1 q.symm
          have q2 : Bt ≠ LD := HN.out.2.2.1
          have q3 : Bh ≠ LD := fun q => ne q.symm
          have bd1 := HBD.out (k + 1) (by omega)
          rw [HE.out] at bd1
          have hh2 : (wr.setCell ⟨LD, k, none⟩ (.bool true)).cell? ⟨Bh, 0, none⟩ = some (.int .i64 s.2) := by
            rw [World.cell?_setCell_other (h := fun q => ne (congrArg Addr.block q))]; exact hh1
          have hf2 : (wr.setCell ⟨LD, k, none⟩ (.bool true)).frozen? ⟨Bh, 0, none⟩ = false := by rw [World.frozen?_setCell]; exact fh
          have HF := Lib.hid (And.intro hh2 hf2)
          clear hh2 hf2
          go_wp2_with fail
          go_roundw
          case rel =>
            refine ⟨k + 1, by omega, by go_num, ?_⟩
            rw [HE.out]
            exact Lib.hid ⟨(HI.out.1.set true hlt).other q3, World.cell?_setCell_same _ _ _ HF.out.1, by rw [World.frozen?_setCell]; exact HF.out.2,
              (HI.out.2.2.2.1.setCell _ (fun q => q.1 rfl)).setCell _ (fun q => q.2 rfl), fun N a b => ((HI.out.2.2.2.2 N a b).setCell (p := ⟨LD, k, none⟩) a _).setCell (p := ⟨Bh, 0, none⟩) b _⟩
          case measure => simp [intOf]; omega
        · have e : snk m zs t D h (k + 1) = s := by rw [HS.out, if_neg (fun q => hzt q.2)]
          have HE := Lib.hid e
          clear e HS
          go_wp2_with fail
          go_roundw
          case rel => exact ⟨k + 1, by omega, by go_num, by rw [HE.out]; exact HI⟩
          case measure => simp [intOf]; omega
    · obtain rfl : k = n := by omega
      go_wp2_with fail
      go_end0
      exact ⟨⟨_, rfl⟩, HI.out⟩

end Go.Proofs.YtcncmlpppabbcaaGreat
