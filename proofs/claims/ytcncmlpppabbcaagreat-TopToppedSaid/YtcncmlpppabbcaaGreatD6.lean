/- A law for a loop over an iterator that writes memory of its own between two elements: the caller's invariant speaks of old memory alone, and the body keeps all that is newer, and what the iterator has captured. No program is in sight. -/
import Derived.Test.YtcncmlpppabbcaaGreatB
import Derived.RangeFuncNested
import Derived.RangeFuncLeaves
import Derived.RangeFuncFrom
namespace Go.Proofs.YtcncmlpppabbcaaGreat
set_option linter.unusedVariables false
set_option linter.unusedSimpArgs false
open Go.RowKit

/-- What abides whatever happens from B on. -/
def LowA (B : Nat) (J : Nat → World → Prop) : Prop := ∀ k W W', J k W → Below B W W' → J k W'

/-- Some blocks lie as they lay. -/
structure SameAt (S : Nat → Prop) (A B : World) : Prop where
  size : A.heap.size ≤ B.heap.size
  block : ∀ b, S b → b < A.heap.size → B.heap[b]? = A.heap[b]?
theorem SameAt.refl (S : Nat → Prop) (A : World) : SameAt S A A := ⟨Nat.le_refl _, fun _ _ _ => rfl⟩
theorem SameAt.trans {S : Nat → Prop} {A B C : World} (h : SameAt S A B) (k : SameAt S B C) : SameAt S A C :=
  ⟨Nat.le_trans h.size k.size, fun b hb hl => (k.block b hb (Nat.lt_of_lt_of_le hl h.size)).trans (h.block b hb hl)⟩
theorem SameAt.mono {S T : Nat → Prop} {A B : World} (h : SameAt S A B) (hT : ∀ b, T b → S b) : SameAt T A B := ⟨h.size, fun b hb => h.block b (hT b hb)⟩
theorem SameAt.of_below {S : Nat → Prop} {A B : World} (h : Below A.heap.size A B) : SameAt S A B := ⟨h.size, fun b _ hl => h.block b hl⟩
theorem SameAt.cell {S : Nat → Prop} {A B : World} (h : SameAt S A B) {b o : Nat} {v : Value} (hb : S b) (hv : A.cell? ⟨b, o, none⟩ = some v) : B.cell? ⟨b, o, none⟩ = some v :=
  (World.cell?_of_block (h.block b hb (World.block_lt_of_cell? A _ hv))).trans hv

/-- The contract of an iterator of N elements, by their number: it may write what it has made since its call began; the body keeps that, and what was captured ('C'). -/
def SeqLow (F : Fence) (n : Nat) (P : Program) (g : Nat) (lb : Array Value) (encs : Nat → Array Value) (C : Nat → Prop) (N : Nat) (w : World) : Prop :=
  ∀ (l : Nat) (J Jx : Nat → World → Prop) (W : World), Below w.heap.size w W → LowA W.heap.size J → LowA W.heap.size Jx →
    (∀ k W1, J k W1 → k < N → YieldAt F (n - 1) P l (encs k) W1 fun e W' =>
      (e = .returned (.bool true) ∧ J (k + 1) W' ∧ SameAt (fun b => W.heap.size ≤ b ∨ C b) W1 W') ∨ (e = .returned (.bool false) ∧ Jx (k + 1) W')) →
    J 0 W →
    CallsIn F n P g (#[.func (.yield l) #[] #[]] ++ lb) W fun e W' => (∃ v, e = .returned v) ∧ (J N W' ∨ ∃ k, 1 ≤ k ∧ k ≤ N ∧ Jx k W')

/-- How a round may be left. -/
def lowPost (N0 : Nat) (C : Nat → Prop) (I : Nat → World → Prop) (Ix : Code → Nat → World → Prop) (k : Nat) (W : World) : Exit → Act → World → Prop
  | .normal, _, W' => SameAt (fun b => N0 ≤ b ∨ C b) W W' ∧ I (k + 1) W'
  | .ret, _, W' => SameAt (fun b => N0 ≤ b) W W' ∧ Ix .ret (k + 1) W'
  | .exit id, _, W' => SameAt (fun b => N0 ≤ b) W W' ∧ Ix (.exit id) (k + 1) W'
  | .goto t, _, W' => SameAt (fun b => N0 ≤ b) W W' ∧ Ix (.goto t) (k + 1) W'
  | .panic _, _, _ => False
  | .outgrown, _, _ => False

theorem below_putObj {N0 : Nat} {W : World} {l : Nat} (o : Obj) (hl : N0 ≤ l) : Below N0 W (W.putObj l o) :=
  ⟨rfl, rfl, rfl, by simp [World.putObj], fun k hk => World.putObj_heap_other (by omega)⟩
theorem same_putObj {S : Nat → Prop} {W : World} {l : Nat} (o : Obj) (hl : ¬ S l) : SameAt S W (W.putObj l o) :=
  ⟨by simp [World.putObj], fun k hk _ => World.putObj_heap_other (fun e => hl (by rw [← e]; exact hk))⟩

theorem wpIn_rangeFunc_low {F : Fence} {n : Nat} {P : Program} {g : Operand} {ps : Array Tmp} {assign body : Code} {Q : Exit → Act → World → Prop} {a : Act} {w : World}
    (hro : F.round = none) (h1 : 1 ≤ n) {gf : Nat} {lb : Array Value} (hg : a.eval g = .func (.func gf) #[] lb) (hFg : F.fn gf) (eg : ∀ args w, (callFunc gf args).run P w = .ok (.enter gf args) w)
    {encs : Nat → Array Value} {C : Nat → Prop} {N : Nat} (hseq : SeqLow F (n - 1) P gf lb encs C N w) (hps : ∀ k, (encs k).size = ps.size) (hC : ∀ b, C b → b < w.heap.size)
    (I : Nat → World → Prop) (Ix : Code → Nat → World → Prop) (hI : LowA w.heap.size I) (hIx : ∀ c, LowA w.heap.size (Ix c)) (h0 : I 0 w)
    (Aft : Nat → Act → World → Prop)
    (hassign : ∀ (k : Nat) (W : World) (K : Act → World → Prop), I k W → k < N → w.heap.size + 2 ≤ W.heap.size →
      (∀ a1 W1, SameAt (fun b => w.heap.size ≤ b ∨ C b) W W1 → I k W1 → (∀ o, Aft k a1 (W1.putObj (w.heap.size + 1) o)) → K a1 W1) →
      assign.wpIn (F.inRound (w.heap.size + 1)) (n - 1 - 1) P (Exit.then K (fun _ _ _ => False)) { tmps := (ps.zip (encs k)).foldl (fun t (p, v) => t.setIfInBounds p v) a.tmps, defers := [] } W)
    (hbody : ∀ (k : Nat) (a1 : Act) (W : World), Aft k a1 W → I k W → k < N → w.heap.size + 2 ≤ W.heap.size → body.wpIn (F.inRound (w.heap.size + 1)) (n - 1 - 1) P (lowPost w.heap.size C I Ix k W) a1 W)
    (hdone : ∀ W : World, I N W → W.heap[w.heap.size]? = some (.deferred (some [])) → Q .normal { a with defers := { target := .collected w.heap.size, args := #[] } :: a.defers } W)
    (hstop : ∀ (c : Code) (k : Nat) (W : World), 1 ≤ k → k ≤ N → Ix c k W → W.heap[w.heap.size]? = some (.deferred (some [])) → c.wpIn F n P Q { a with defers := { target := .collected w.heap.size, args := #[] } :: a.defers } W) :
    (Code.rangeFunc g ps assign body).wpIn F n P Q a w := by
  refine wpIn_rangeFunc fun fn hfn => ?_
  rw [hro]
  let N0 := w.heap.size
  obtain ⟨mk, hmk⟩ : ∃ mk : LoopState → Option Code → Loop, mk = fun s p => { state := s, pending := p, fn, tmps := a.tmps, params := ps, assign, body, defers := w.heap.size } := ⟨_, rfl⟩
  obtain ⟨V, hV⟩ : ∃ V, (w.alloc (.deferred (some []))).alloc (.loop (mk .ready none)) = V := ⟨_, rfl⟩
  have vs : V.heap.size = w.heap.size + 2 := by rw [← hV]; simp
  have vl : V.heap[w.heap.size + 1]? = some (.loop (mk .ready none)) := by
    rw [← hV]
    have := World.alloc_heap_new (w.alloc (.deferred (some []))) (.loop (mk .ready none))
    rwa [World.size_alloc] at this
  have vd : V.heap[w.heap.size]? = some (.deferred (some [])) := by
    rw [← hV]
    exact (Below.heap_alloc _ _ _ (by simp)).trans (World.alloc_heap_new w _)
  have vb : Below w.heap.size w V := by rw [← hV]; exact below_alloc2 _ _ _
  refine ⟨w.heap.size + 1, [{ target := .collected w.heap.size, args := #[] }], V, { target := .fn (.func gf) lb, args := #[.func (.yield (w.heap.size + 1)) #[] #[]] }, V, gf,
    #[.func (.yield (w.heap.size + 1)) #[] #[]] ++ lb, V, ?_, ?_, ?_, ?_, fun _ => h1, ?_⟩
  · rw [← hV, hmk]
    exact run_enterLoop_outer _ _ _ _ _
  · simp only [resolve, hg]
    simp [go_sem]
  · intro f' hf'
    simp [Target.leads] at hf'
    subst hf'
    exact hFg
  · simp [invoke, go_sem, eg]
  · refine (hseq (w.heap.size + 1)
      (fun k W => I k W ∧ w.heap.size + 2 ≤ W.heap.size ∧ W.heap[w.heap.size + 1]? = some (.loop (mk .ready none)) ∧ W.heap[w.heap.size]? = some (.deferred (some [])))
      (fun k W => ∃ c, Ix c k W ∧ W.heap[w.heap.size + 1]? = some (.loop (mk .done (some c))) ∧ W.heap[w.heap.size]? = some (.deferred (some [])))
      V vb ?_ ?_ ?_ ⟨hI 0 w V h0 vb, by omega, vl, vd⟩).mono ?_
    · rintro k A B ⟨i1, i2, i3, i4⟩ hAB
      rw [vs] at hAB
      exact ⟨hI k A B i1 (hAB.mono (by omega)), Nat.le_trans i2 hAB.size, (hAB.block _ (by omega)).trans i3, (hAB.block _ (by omega)).trans i4⟩
    · rintro k A B ⟨c, i1, i3, i4⟩ hAB
      rw [vs] at hAB
      exact ⟨c, hIx c k A B i1 (hAB.mono (by omega)), (hAB.block _ (by omega)).trans i3, (hAB.block _ (by omega)).trans i4⟩
    · rintro k W ⟨i1, i2, i3, i4⟩ hk
      have hy := run_yield (P := P) (args := encs k) i3 (by rw [hmk]; exact hps k)
      rw [hmk] at hy
      refine ⟨fn, _, assign, body, hy, roundIn_of_wpIn hfn (hassign k W _ i1 hk i2 ?_)⟩
      intro a1 W1 s1 j1 aft
      have l1 : W1.heap[w.heap.size + 1]? = some (.loop (mk .ready none)) := (s1.block _ (.inl (by omega)) (by omega)).trans i3
      have d1 : W1.heap[w.heap.size]? = some (.deferred (some [])) := (s1.block _ (.inl (Nat.le_refl _)) (by omega)).trans i4
      have z1 : w.heap.size + 2 ≤ W1.heap.size := Nat.le_trans i2 s1.size
      refine ⟨_, run_beginRound l1 (by rw [hmk]), ?_⟩
      obtain ⟨W2, hW2⟩ : ∃ W2, W1.putObj (w.heap.size + 1) (.loop { mk .ready none with state := .busy }) = W2 := ⟨_, rfl⟩
      have l2 : W2.heap[w.heap.size + 1]? = some (.loop { mk .ready none with state := .busy }) := by rw [← hW2]; exact World.putObj_heap_same (by omega)
      have d2 : W2.heap[w.heap.size]? = some (.deferred (some [])) := by rw [← hW2]; exact (World.putObj_heap_other (by omega)).trans d1
      have z2 : w.heap.size + 2 ≤ W2.heap.size := by rw [← hW2]; simpa [World.putObj] using z1
      have j2 : I k W2 := by rw [← hW2]; exact hI k W1 _ j1 (below_putObj _ (by omega))
      have s2 : SameAt (fun b => V.heap.size ≤ b ∨ C b) W W2 := by
        rw [← hW2]
        refine (s1.mono (fun b hb => ?_)).trans (same_putObj _ ?_)
        · rcases hb with hb | hb
          · exact .inl (by omega)
          · exact .inr hb
        · rintro (hb | hb)
          · omega
          · have := hC _ hb
            omega
      have hbd := hbody k a1 W2 (by rw [← hW2]; exact aft _) j2 hk z2
      have e2 : W1.putObj (w.heap.size + 1) (.loop { mk .ready none with state := .busy }) = W2 := hW2
      rw [e2]
      refine wpIn_mono hbd ?_
      have fin : ∀ (jump : Option Code) (W3 : World), SameAt (fun b => w.heap.size ≤ b) W2 W3 →
          (Instr.endRound (w.heap.size + 1) jump).run P W3 = .ok (.bool jump.isNone) (W3.putObj (w.heap.size + 1) (.loop (mk (if jump.isNone then .ready else .done) jump))) ∧
          (W3.putObj (w.heap.size + 1) (.loop (mk (if jump.isNone then .ready else .done) jump))).heap[w.heap.size + 1]? = some (.loop (mk (if jump.isNone then .ready else .done) jump)) ∧
          (W3.putObj (w.heap.size + 1) (.loop (mk (if jump.isNone then .ready else .done) jump))).heap[w.heap.size]? = some (.deferred (some [])) := by
        intro jump W3 s3
        have l3 := (s3.block (w.heap.size + 1) (by omega) (by omega)).trans l2
        have d3 := (s3.block w.heap.size (Nat.le_refl _) (by omega)).trans d2
        have r3 := run_endRound (P := P) jump l3
        rw [hmk] at r3 ⊢
        exact ⟨r3, World.putObj_heap_same (Array.getElem?_eq_some_iff.1 l3).1, (World.putObj_heap_other (by omega)).trans d3⟩
      rintro e a3 W3 hp
      cases e with
      | normal =>
        obtain ⟨s3, i5⟩ := hp
        obtain ⟨r, q1, q2⟩ := fin none W3 (s3.mono fun b hb => .inl hb)
        refine ⟨_, _, r, .inl ⟨rfl, ⟨hI _ _ _ i5 (below_putObj _ (by omega)), ?_, q1, q2⟩, ?_⟩⟩
        · have := s3.size
          simp [World.putObj]
          omega
        · refine (s2.trans (s3.mono fun b hb => ?_)).trans (same_putObj _ ?_)
          · rcases hb with hb | hb
            · exact .inl (by omega)
            · exact .inr hb
          · rintro (hb | hb)
            · omega
            · have := hC _ hb
              omega
      | ret =>
        obtain ⟨s3, i5⟩ := hp
        obtain ⟨r, q1, q2⟩ := fin (some .ret) W3 s3
        exact ⟨_, _, r, .inr ⟨rfl, .ret, hIx _ _ _ _ i5 (below_putObj _ (by omega)), q1, q2⟩⟩
      | exit id =>
        obtain ⟨s3, i5⟩ := hp
        obtain ⟨r, q1, q2⟩ := fin (some (.exit id)) W3 s3
        exact ⟨_, _, r, .inr ⟨rfl, .exit id, hIx _ _ _ _ i5 (below_putObj _ (by omega)), q1, q2⟩⟩
      | goto t =>
        obtain ⟨s3, i5⟩ := hp
        obtain ⟨r, q1, q2⟩ := fin (some (.goto t)) W3 s3
        exact ⟨_, _, r, .inr ⟨rfl, .goto t, hIx _ _ _ _ i5 (below_putObj _ (by omega)), q1, q2⟩⟩
      | panic ch => exact hp.elim
      | outgrown => exact hp.elim
    · rintro e W2 ⟨⟨v, rfl⟩, (⟨i1, -, i3, i4⟩ | ⟨k, hk1, hk2, c, i1, i3, i4⟩)⟩
      · refine ⟨none, _, by have := run_endLoop (P := P) i3 (by rw [hmk]; simp); rw [hmk] at this; exact this, ?_⟩
        exact hdone _ (hI _ _ _ i1 (below_putObj _ (by omega))) ((World.putObj_heap_other (by omega)).trans i4)
      · refine ⟨some c, _, by have := run_endLoop (P := P) i3 (by rw [hmk]; simp); rw [hmk] at this; exact this, ?_⟩
        exact hstop c k _ hk1 hk2 (hIx c _ _ _ i1 (below_putObj _ (by omega))) ((World.putObj_heap_other (by omega)).trans i4)

end Go.Proofs.YtcncmlpppabbcaaGreat
