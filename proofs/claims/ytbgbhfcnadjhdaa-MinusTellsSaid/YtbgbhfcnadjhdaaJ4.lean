/- A loop over the parts of one zone that are not another one's. No condition but that both zones may be. -/
import Derived.Test.YtbgbhfcnadjhdaaJ3
import Derived.Test.YtbgbhfcnadjhdaaMD
namespace Go.Proofs.Ytbgbhfcnadjhdaa
set_option linter.unusedSimpArgs false
set_option linter.unusedVariables false
open Go Go.RowKit Go.Shelf

/-- What the loop's own book-keeping and the iterator may turn: block A, and what is no cells from block n on. -/
structure Turn (n A : Nat) (W V : World) : Prop where
  os : V.os = W.os
  tape : V.tape = W.tape
  output : V.output = W.output
  size : W.heap.size ≤ V.heap.size
  block : ∀ k, k < W.heap.size → k ≠ A → (n ≤ k → ∀ o, W.heap[k]? = some o → o.isCells = true) → V.heap[k]? = W.heap[k]?
theorem Turn.of_chg {n A : Nat} {W V : World} (h : Chg W A V) : Turn n A W V := ⟨h.os, h.tape, h.output, h.size, fun k hk hA _ => h.block k hk hA⟩
theorem Turn.put {n A l : Nat} {W : World} {o : Obj} (o' : Obj) (hn : n ≤ l) (hl : W.heap[l]? = some o) (ho : o.isCells = false) : Turn n A W (W.putObj l o') :=
  ⟨rfl, rfl, rfl, by simp, fun k hk hA hc => World.putObj_heap_other fun e => by
    subst e
    have := hc hn o hl
    rw [ho] at this; cases this⟩
abbrev PartX := (Nat → Int) × Int

set_option maxRecDepth 10000 in
set_option maxHeartbeats 1000000 in
theorem wpIn_parts {g : Operand} {ps : Array Tmp} {assign body : Code} {Q : Exit → Act → World → Prop} {a : Act} {w : World} {A B : Nat} {za zb : Nat → Int} (oka : okZ za = true) (okb : okZ zb = true) (hps : ps.size = 2) (hAB : A ≠ B)
    (hg : a.eval g = .func (.func 106) #[] #[.pointer (some ⟨B, 0, none⟩), .pointer (some ⟨A, 0, none⟩)]) (hA : HoldsA w A 6 za) (hB : HoldsA w B 6 zb)
    (I Ix : List PartX → World → Prop) (hI : ∀ s W V, I s W → Turn w.heap.size A W V → I s V) (hIx : ∀ s W V, Ix s W → Turn w.heap.size A W V → Ix s V) (h0 : I [] w) (a₁ : PartX → Nat → Act)
    (hassign : ∀ (l : Nat) (x : PartX) (W : World) (Z : Nat) (K : Act → World → Prop), W.heap.size = Z → K (a₁ x Z) (W.alloc (.cells #[.int .i64 (x.1 0), .int .i64 (x.1 1), .int .i64 (x.1 2), .int .i64 (x.1 3), .int .i64 (x.1 4), .int .i64 (x.1 5)] 24)) →
      assign.wpIn (Fence.wide.inRound l) 1 Try.prog (Exit.then K (fun _ _ _ => False)) { tmps := (ps.zip (encP x)).foldl (fun t (p, v) => t.setIfInBounds p v) a.tmps, defers := [] } W)
    (hbody : ∀ (l : Nat) (pre : List PartX) (x : PartX) (Z : Nat) (W : World), I pre W → FitsZ x.1 → pre.length < 12 → A < W.heap.size → HoldsA W Z 6 x.1 → body.wpIn (Fence.wide.inRound l) 1 Try.prog
      (fun e _ W' => (e = .normal ∧ x.2 = 0 ∧ KeepsOthers W W' ∧ KeepA A W W' ∧ I (pre ++ [x]) W') ∨ (e = .ret ∧ KeepsOthers W W' ∧ Ix (pre ++ [x]) W')) (a₁ x Z) W)
    (hdone : ∀ (D : Nat) (W : World), w.heap.size ≤ D → I (partsZ 6 0 za zb) W → W.heap[D]? = some (.deferred (some [])) → Q .normal { a with defers := { target := .collected D, args := #[] } :: a.defers } W)
    (hstop : ∀ (D : Nat) (pre : List PartX) (x : PartX) (rest : List PartX) (W : World), w.heap.size ≤ D → partsZ 6 0 za zb = pre ++ x :: rest → Ix (pre ++ [x]) W → W.heap[D]? = some (.deferred (some [])) → Code.ret.wpIn Fence.wide 3 Try.prog Q { a with defers := { target := .collected D, args := #[] } :: a.defers } W) :
    (Code.rangeFunc g ps assign body).wpIn Fence.wide 3 Try.prog Q a w := by
  refine wpIn_rangeFunc fun fn hfn => ?_
  have hAw : A < w.heap.size := hA.lt
  obtain ⟨L, hL⟩ : ∃ L : LoopState → Option Code → Obj, L = fun st pe => .loop { state := st, pending := pe, fn, tmps := a.tmps, params := ps, assign, body, defers := w.heap.size } := ⟨_, rfl⟩
  have Ln : ∀ st pe, (L st pe).isCells = false := fun st pe => by rw [hL]; rfl
  obtain ⟨V, hV⟩ : ∃ V, (w.alloc (.deferred (some []))).alloc (L .ready none) = V := ⟨_, rfl⟩
  have hsz : V.heap.size = w.heap.size + 2 := by rw [← hV]; simp
  have l1 : V.heap[w.heap.size + 1]? = some (L .ready none) := by
    rw [← hV]; have := World.alloc_heap_new (w.alloc (.deferred (some []))) (L .ready none); rwa [World.size_alloc] at this
  have d1 : V.heap[w.heap.size]? = some (.deferred (some [])) := by
    rw [← hV]; exact (Below.heap_alloc _ _ _ (by simp)).trans (World.alloc_heap_new w _)
  have cV : Chg w A V := by rw [← hV]; exact (Chg.alloc _ _ _).trans (Chg.alloc _ _ _)
  have bV : Below w.heap.size w V := by rw [← hV]; exact ((Below.refl _ w).alloc (Nat.le_refl _) _).alloc (by simp) _
  refine ⟨w.heap.size + 1, [{ target := .collected w.heap.size, args := #[] }], V, { target := .fn (.func 106) #[.pointer (some ⟨B, 0, none⟩), .pointer (some ⟨A, 0, none⟩)], args := #[.func (.yield (w.heap.size + 1)) #[] #[]] }, V, 106,
    #[.func (.yield (w.heap.size + 1)) #[] #[], .pointer (some ⟨B, 0, none⟩), .pointer (some ⟨A, 0, none⟩)], V, ?_, ?_, ?_, ?_, fun h => by simp [Fence.wide] at h, ?_⟩
  · rw [← hV, hL]; exact run_enterLoop_outer _ _ _ _ _
  · simp only [resolve, hg]
    simp [go_sem]
  · intro f' _; trivial
  · have eg := enters_of (P := Try.prog) Try.func106 (by kernel_rfl) rfl
    simp [invoke, go_sem, eg]
  have cl : ∀ {W X : World} {st : LoopState} {pe : Option Code}, Chg W A X → W.heap[w.heap.size + 1]? = some (L st pe) → X.heap[w.heap.size + 1]? = some (L st pe) := fun hc hl =>
    (hc.block _ (Array.getElem?_eq_some_iff.1 hl).1 (by omega)).trans hl
  have cd : ∀ {W X : World}, Chg W A X → W.heap[w.heap.size]? = some (.deferred (some [])) → X.heap[w.heap.size]? = some (.deferred (some [])) := fun hc hl =>
    (hc.block _ (Array.getElem?_eq_some_iff.1 hl).1 (by omega)).trans hl
  refine (parts1_in za zb oka okb (w.heap.size + 1) A B
    (fun s W => I s W ∧ A < W.heap.size ∧ W.heap[w.heap.size + 1]? = some (L .ready none) ∧ W.heap[w.heap.size]? = some (.deferred (some [])))
    (fun s W => Ix s W ∧ W.heap[w.heap.size + 1]? = some (L .done (some .ret)) ∧ W.heap[w.heap.size]? = some (.deferred (some []))) V hAB
    (fun s X Y h hc => ⟨hI s X Y h.1 (.of_chg hc), Nat.lt_of_lt_of_le h.2.1 hc.size, cl hc h.2.2.1, cd hc h.2.2.2⟩)
    (fun s X Y h hc => ⟨hIx s X Y h.1 (.of_chg hc), cl hc h.2.1, cd hc h.2.2⟩) ?_ (hA.below bV) (hB.below bV) ⟨hI [] w V h0 (.of_chg cV), by omega, l1, d1⟩).mono ?_
  · rintro pre x W0 ⟨hi0, hAW0, hl0, hk0⟩ fx hlen
    have hlt0 : w.heap.size + 1 < W0.heap.size := (Array.getElem?_eq_some_iff.1 hl0).1
    have hl0' := hl0
    rw [hL] at hl0'
    have hy := run_yield (P := Try.prog) (args := encP x) hl0' (by rw [hps]; rfl)
    obtain ⟨W, hW⟩ : ∃ W, W0.alloc (.cells #[.int .i64 (x.1 0), .int .i64 (x.1 1), .int .i64 (x.1 2), .int .i64 (x.1 3), .int .i64 (x.1 4), .int .i64 (x.1 5)] 24) = W := ⟨_, rfl⟩
    have cW : Chg W0 A W := by rw [← hW]; exact Chg.alloc _ _ _
    have hi := hI _ _ _ hi0 (.of_chg cW)
    have hAW : A < W.heap.size := Nat.lt_of_lt_of_le hAW0 cW.size
    have hl := cl cW hl0
    have hk := cd cW hk0
    have hlt : w.heap.size + 1 < W.heap.size := (Array.getElem?_eq_some_iff.1 hl).1
    have hl' := hl
    rw [hL] at hl'
    have ws : W.heap.size = W0.heap.size + 1 := by rw [← hW]; simp
    have wz : HoldsA W W0.heap.size 6 x.1 := ⟨by omega, fun i hi => by
      rw [← hW]
      rcases six hi with rfl | rfl | rfl | rfl | rfl | rfl <;> (constructor <;> simp [go_sem])⟩
    have kW : W.heap[A]? = W0.heap[A]? := by rw [← hW]; exact Below.heap_alloc _ _ _ hAW0
    obtain ⟨X, hX⟩ : ∃ X, W.putObj (w.heap.size + 1) (L .busy none) = X := ⟨_, rfl⟩
    have xs : X.heap.size = W.heap.size := by rw [← hX]; simp
    have xl : X.heap[w.heap.size + 1]? = some (L .busy none) := by rw [← hX]; exact World.putObj_heap_same hlt
    have xd : X.heap[w.heap.size]? = some (.deferred (some [])) := by rw [← hX]; exact (World.putObj_heap_other (by omega)).trans hk
    have xt : Turn w.heap.size A W X := by rw [← hX]; exact .put _ (by omega) hl (Ln _ _)
    have xz : X.heap[W0.heap.size]? = W.heap[W0.heap.size]? := by rw [← hX]; exact World.putObj_heap_other (by omega)
    have xa : X.heap[A]? = W.heap[A]? := by rw [← hX]; exact World.putObj_heap_other (by omega)
    refine ⟨fn, _, assign, body, hy, roundIn_of_wpIn hfn (hassign _ x W0 _ _ rfl ?_)⟩
    rw [hW]
    refine ⟨X, ?_, ?_⟩
    · rw [← hX, hL]; exact run_beginRound hl' rfl
    refine wpIn_mono (hbody _ pre x W0.heap.size X (hI _ _ _ hi xt) fx hlen (by omega) (wz.keep ⟨xz, by omega⟩)) ?_
    have fin : ∀ (jump : Option Code) (Y : World), KeepsOthers X Y →
        (Instr.endRound (w.heap.size + 1) jump).run Try.prog Y = .ok (.bool jump.isNone) (Y.putObj (w.heap.size + 1) (L (if jump.isNone then .ready else .done) jump)) ∧ Y.heap[w.heap.size + 1]? = some (L .busy none) ∧ Y.heap[w.heap.size]? = some (.deferred (some [])) := fun jump Y hY => by
      have y1 := hY.same _ _ xl (Ln _ _)
      refine ⟨?_, y1, hY.same _ _ xd rfl⟩
      rw [hL] at y1 ⊢
      exact run_endRound jump y1
    rintro e a3 Y (⟨rfl, hx0, hY, hka, hi'⟩ | ⟨rfl, hY, hi'⟩)
    · obtain ⟨hr, y1, y2⟩ := fin none Y hY
      have ylt := (Array.getElem?_eq_some_iff.1 y1).1
      refine ⟨_, _, hr, .inl ⟨hx0, rfl, ⟨hI _ _ _ hi' (.put _ (by omega) y1 (Ln _ _)), ?_, World.putObj_heap_same ylt, (World.putObj_heap_other (by omega)).trans y2⟩, ⟨?_, ?_⟩⟩⟩
      · have := hka.2; simp; omega
      · exact (((World.putObj_heap_other (by omega)).trans hka.1).trans xa).trans kW
      · have := hka.2; simp; omega
    · obtain ⟨hr, y1, y2⟩ := fin (some .ret) Y hY
      have ylt := (Array.getElem?_eq_some_iff.1 y1).1
      exact ⟨_, _, hr, .inr ⟨rfl, hIx _ _ _ hi' (.put _ (by omega) y1 (Ln _ _)), World.putObj_heap_same ylt, (World.putObj_heap_other (by omega)).trans y2⟩⟩
  · rintro e W2 ⟨⟨v, rfl⟩, (⟨hi, _, hl, hk⟩ | ⟨pre, x, rest, hp, hi, hl, hk⟩)⟩
    · have hl' := hl
      rw [hL] at hl'
      exact ⟨none, _, run_endLoop hl' (by simp), hdone _ _ (Nat.le_refl _) (hI _ _ _ hi (.put _ (by omega) hl (Ln _ _))) ((World.putObj_heap_other (by omega)).trans hk)⟩
    · have hl' := hl
      rw [hL] at hl'
      exact ⟨some .ret, _, run_endLoop hl' (by simp), hstop _ pre x rest _ (Nat.le_refl _) hp (hIx _ _ _ hi (.put _ (by omega) hl (Ln _ _))) ((World.putObj_heap_other (by omega)).trans hk)⟩
#print axioms wpIn_parts
end Go.Proofs.Ytbgbhfcnadjhdaa
