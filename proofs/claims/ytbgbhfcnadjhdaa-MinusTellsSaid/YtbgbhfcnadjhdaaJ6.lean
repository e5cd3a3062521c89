/- Contract of minus.Minus. No condition. -/
import Derived.Test.YtbgbhfcnadjhdaaJ5
import Derived.RangeFuncBox
namespace Go.Proofs.Ytbgbhfcnadjhdaa
set_option linter.unusedSimpArgs false
set_option linter.unusedVariables false
open Go Go.RowKit Go.Shelf
attribute [local go_sem] Oper.semAt_some Nat.add_assoc Nat.add_lt_add_iff_left lit_lt_add

theorem cell_six_new (W : World) (t : TypeId) (a b c d e f : Int) : ∀ j u, [Value.int .i64 a, .int .i64 b, .int .i64 c, .int .i64 d, .int .i64 e, .int .i64 f][j]? = some u → (W.alloc (.cells #[.int .i64 a, .int .i64 b, .int .i64 c, .int .i64 d, .int .i64 e, .int .i64 f] t)).cell? ((⟨W.heap.size, 0, none⟩ : Addr).add j) = some u := by
  intro j u h
  have hj : j < 6 := by
    have := (List.getElem?_eq_some_iff.1 h).1
    simpa using this
  rcases six hj with rfl | rfl | rfl | rfl | rfl | rfl <;> (simp at h; subst h; simp [go_sem, Addr.add])
theorem infoZ : (Try.prog.info? 24).map (fun i => (i.size, i.bytes)) = some (6, 48) := by kernel_rfl
theorem infoZz : (Try.prog.info? 24).map (fun i => i.zero) = some (some (.agg #[.int .i64 0, .int .i64 0, .int .i64 0, .int .i64 0, .int .i64 0, .int .i64 0])) := by kernel_rfl
theorem boxed_below {W V : World} {B : Nat} {t : TypeId} {v : Value} (h : Boxed W B t v) (hb : Below W.heap.size W V) : Boxed V B t v := (hb.block B h.lt).trans h
theorem boxed_turn {n A : Nat} {W V : World} {B : Nat} {t : TypeId} {v : Value} (h : Boxed W B t v) (hb : Turn n A W V) (hB : B < n) (hA : B ≠ A) : Boxed V B t v := (hb.block B h.lt hA (fun h' => by omega)).trans h
theorem row_turn {n A : Nat} {W V : World} {e : TypeId} {v : Value} {k : Nat} {xs : List Value} (h : W.ownsRow n e 6 v k xs) (hb : Turn n A W V) (hA : A < n) : V.ownsRow n e 6 v k xs := by
  refine ⟨h.1, ?_⟩
  rcases h.2 with h0 | ⟨g, cap, cur, h1, h2, h3, h4⟩
  · exact .inl h0
  · exact .inr ⟨g, cap, cur, h1, h2, (hb.block g (Array.getElem?_eq_some_iff.1 h3).1 (by omega) (fun _ o ho => by rw [h3] at ho; cases ho; rfl)).trans h3, h4⟩
theorem below_turn {m n A : Nat} {w W V : World} (h : Below m w W) (hb : Turn n A W V) (hm : m ≤ w.heap.size) (hA : m ≤ A) (hn : m ≤ n) : Below m w V :=
  ⟨hb.os.trans h.os, hb.tape.trans h.tape, hb.output.trans h.output, Nat.le_trans h.size hb.size, fun k hk => (hb.block k (Nat.lt_of_lt_of_le hk (Nat.le_trans hm h.size)) (by omega) (fun h' => by omega)).trans (h.block k hk)⟩

theorem row_base {W : World} {m n : Nat} {e : TypeId} {v : Value} {k : Nat} {xs : List Value} (h : W.ownsRow n e 6 v k xs) (hm : m ≤ n) : W.ownsRow m e 6 v k xs := by
  refine ⟨h.1, ?_⟩
  rcases h.2 with h0 | ⟨g, cap, cur, h1, h2, h3⟩
  · exact .inl h0
  · exact .inr ⟨g, cap, cur, h1, Nat.le_trans hm h2, h3⟩
/-- What holds between two rounds. -/
structure MinI (w : World) (n : Nat) (pre : List PartX) (W : World) : Prop where
  zero : ∀ x, x ∈ pre → x.2 = 0
  below : Below w.heap.size w W
  row : ∃ v, Boxed W (w.heap.size + 2) 25 v ∧ W.ownsRow n 24 6 v pre.length (cellsZ (pre.map Prod.fst))
  err : Boxed W (w.heap.size + 3) 26 (.int .i64 0)
  big : n ≤ W.heap.size
/-- What holds where a round has ended the call. -/
structure MinX (w : World) (pre : List PartX) (W : World) : Prop where
  last : ∃ p x, pre = p ++ [x] ∧ (∀ y, y ∈ p → y.2 = 0) ∧ x.2 ≠ 0 ∧ Boxed W (w.heap.size + 3) 26 (.int .i64 x.2)
  below : Below w.heap.size w W
  row : Boxed W (w.heap.size + 2) 25 (.slice none 0 0)

set_option maxRecDepth 100000 in
set_option maxHeartbeats 4000000 in
theorem minus_in (a b : Nat → Int) (oka : okZ a = true) (okb : okZ b = true) (w : World) :
    CallsIn Fence.wide 3 Try.prog 13 #[zoneV a, zoneV b] w (zlC w (lessZ 6 0 a b [])) := by
  obtain ⟨⟨RL, RE⟩, hR⟩ : ∃ R, Hid (R = lessZ 6 0 a b []) := ⟨_, rfl⟩
  rw [← hR.out]
  unfold zlC
  dsimp only
  refine callsIn_of_wp_marks Try.func13 rfl trivial ?_ rfl
  simp only [Try.ntmps13, List.size_toArray, List.length_cons, List.length_nil, Nat.reduceAdd, Nat.reduceSub, Array.replicate_succ, Array.replicate_zero, List.push_toArray, List.append_toArray, List.nil_append, List.cons_append]
  have fa := okZ_fits oka
  have fb := okZ_fits okb
  have CA : Hid (∀ w, Calls Try.prog 45 #[zoneV a] w (Gives w (.int .i64 0))) := fun w => by
    have := zcheck_any a w fa
    rw [oka] at this; exact this
  have CB : Hid (∀ w, Calls Try.prog 45 #[zoneV b] w (Gives w (.int .i64 0))) := fun w => by
    have := zcheck_any b w fb
    rw [okb] at this; exact this
  have PT := Lib.hid (parts_any a b)
  obtain ⟨i0, hi, hz1, hz2⟩ : ∃ i0, Try.prog.info? 24 = some i0 ∧ i0.size = 6 ∧ i0.bytes = 48 := by
    have := infoZ
    cases h : Try.prog.info? 24 with
    | none => rw [h] at this; cases this
    | some i => rw [h] at this; simp at this; exact ⟨i, rfl, this.1, this.2⟩
  have hz0 : i0.zero = some (.agg #[.int .i64 0, .int .i64 0, .int .i64 0, .int .i64 0, .int .i64 0, .int .i64 0]) := by
    have := infoZz
    rw [hi] at this; simpa using this
  have HI := Lib.hid hi
  have HZ := Lib.hid hz0
  have H1 := Lib.hid hz1
  have H2 := Lib.hid hz2
  clear hi hz0 hz1 hz2 fa fb
  unfold zoneV at CA CB PT ⊢
  gi_wp2_with (fail)
  refine ⟨trivial, ?_⟩
  refine (callsIn_wide.2 (CA.out _)).mono ?_; rintro e w' ⟨rfl, q1, rfl⟩
  gi_wp2_with (fail)
  refine ⟨trivial, ?_⟩
  refine (callsIn_wide.2 (CB.out _)).mono ?_; rintro e w' ⟨rfl, q2, rfl⟩
  gi_wp2_with (fail)
  refine ⟨trivial, ?_⟩
  refine (callsIn_wide.2 (PT.out _)).mono ?_; rintro e w' ⟨A, B, rfl, hA0, hB0, hAB, hA, hB, q3, rfl⟩
  gi_wp2_with (fail)
  (try simp only [drew_Wov, Wov_Wov, Array.append_assoc] at hA hB)
  refine wpIn_world (fun V => Below w.heap.size w V ∧ HoldsA V A 6 a ∧ HoldsA V B 6 b ∧ Boxed V (w.heap.size + 2) 25 (.slice none 0 0) ∧ Boxed V (w.heap.size + 3) 26 (.int .i64 0) ∧ w.heap.size + 4 ≤ A) ⟨by (repeat' (first | (with_reducible assumption) | (with_reducible exact Below.refl _ _) | (with_reducible refine below_wov ?_ ?_ _) | (with_reducible refine below_drewN ?_ _) | (with_reducible refine Below.drew ?_) | (with_reducible refine Below.alloc ?_ ?_ _) | (with_reducible refine Below.setCell ?_ ?_ _) | (with_reducible exact Nat.le_refl _) | omega | (simp only [World.size_alloc, World.size_setCell, World.size_drew, Wov_size, World.heap_drewN]; omega))), hA, hB, ?_, ?_, ?_⟩ ?_
  · have := Boxed.new ((w.alloc (.cells #[.int .i64 (a 0), .int .i64 (a 1), .int .i64 (a 2), .int .i64 (a 3), .int .i64 (a 4), .int .i64 (a 5)] 24)).alloc (.cells #[.int .i64 (b 0), .int .i64 (b 1), .int .i64 (b 2), .int .i64 (b 3), .int .i64 (b 4), .int .i64 (b 5)] 24)) 25 (.slice none 0 0)
    refine boxed_below (by simpa using this) (by (repeat' (first | (with_reducible assumption) | (with_reducible exact Below.refl _ _) | (with_reducible refine below_wov ?_ ?_ _) | (with_reducible refine below_drewN ?_ _) | (with_reducible refine Below.drew ?_) | (with_reducible refine Below.alloc ?_ ?_ _) | (with_reducible refine Below.setCell ?_ ?_ _) | (with_reducible exact Nat.le_refl _) | omega | (simp only [World.size_alloc, World.size_setCell, World.size_drew, Wov_size, World.heap_drewN]; omega))))
  · have := Boxed.new (((w.alloc (.cells #[.int .i64 (a 0), .int .i64 (a 1), .int .i64 (a 2), .int .i64 (a 3), .int .i64 (a 4), .int .i64 (a 5)] 24)).alloc (.cells #[.int .i64 (b 0), .int .i64 (b 1), .int .i64 (b 2), .int .i64 (b 3), .int .i64 (b 4), .int .i64 (b 5)] 24)).alloc (.cells #[.slice none 0 0] 25)) 26 (.int .i64 0)
    refine boxed_below (by simpa using this) (by (repeat' (first | (with_reducible assumption) | (with_reducible exact Below.refl _ _) | (with_reducible refine below_wov ?_ ?_ _) | (with_reducible refine below_drewN ?_ _) | (with_reducible refine Below.drew ?_) | (with_reducible refine Below.alloc ?_ ?_ _) | (with_reducible refine Below.setCell ?_ ?_ _) | (with_reducible exact Nat.le_refl _) | omega | (simp only [World.size_alloc, World.size_setCell, World.size_drew, Wov_size, World.heap_drewN]; omega))))
  · simp only [World.size_alloc, Wov_size] at hA0; omega
  clear hA hB hA0 hB0 CA CB PT
  rintro W3 ⟨hb3, hA3, hB3, x4, x5, hA0⟩
  obtain ⟨N3, hN3⟩ : ∃ N, N = W3.heap.size := ⟨_, rfl⟩
  have la3 := hA3.lt
  have s3 := hb3.size
  have s4 := x5.lt
  have HI3 : ∀ s X Y, MinI w W3.heap.size s X → Turn W3.heap.size A X Y → MinI w W3.heap.size s Y := fun s X Y h ht => by
    obtain ⟨v, hv, hr⟩ := h.row
    exact ⟨h.zero, below_turn h.below ht (Nat.le_refl _) (by omega) (by omega), ⟨v, boxed_turn hv ht (by omega) (by omega), row_turn hr ht (by omega)⟩, boxed_turn h.err ht (by omega) (by omega), Nat.le_trans h.big ht.size⟩
  have HX3 : ∀ s X Y, MinX w s X → Turn W3.heap.size A X Y → MinX w s Y := fun s X Y h ht => by
    obtain ⟨p, x, h1, h2, h3, h4⟩ := h.last
    exact ⟨⟨p, x, h1, h2, h3, boxed_turn h4 ht (by omega) (by omega)⟩, below_turn h.below ht (Nat.le_refl _) (by omega) (by omega), boxed_turn h.row ht (by omega) (by omega)⟩
  apply wpIn_parts oka okb (A := A) (B := B) rfl hAB rfl hA3 hB3 (MinI w W3.heap.size) (MinX w) HI3 HX3 ⟨fun x hx => (by cases hx), hb3, ⟨_, x4, World.ownsRow_nil _ _ _ _⟩, x5, Nat.le_refl _⟩
  case hassign =>
    intro l x W Z K hZ hK
    simp only [encP, zoneV]
    gi_wp2
    (try rw [hZ])
    exact hK
  case hbody =>
    rintro l pre ⟨z, e⟩ Z W hI fx hlen hAW hz
    obtain ⟨v, hv, hr⟩ := hI.row
    have v0 := hv.cell
    have vf := hv.frozen
    have e0 := hI.err.cell
    have ef := hI.err.frozen
    have z0 := (hz.holds 0 (by omega)).1
    have z1 := (hz.holds 1 (by omega)).1
    have z2 := (hz.holds 2 (by omega)).1
    have z3 := (hz.holds 3 (by omega)).1
    have z4 := (hz.holds 4 (by omega)).1
    have z5 := (hz.holds 5 (by omega)).1
    have lz := hz.lt
    have lv := hv.lt
    have le := hI.err.lt
    have lb := hI.big
    have HMI := Lib.hid hI
    have HR := Lib.hid hr
    have HV := Lib.hid hv
    clear hI hr hv hz x4 x5 hA3 hB3 hb3 HI3 HX3
    by_cases he : e = 0
    · subst he
      have step : Hid (∀ v' w1, w1.ownsRow W3.heap.size 24 6 v' (pre.length + 1) (cellsZ (List.map Prod.fst pre) ++ [.int .i64 (z 0), .int .i64 (z 1), .int .i64 (z 2), .int .i64 (z 3), .int .i64 (z 4), .int .i64 (z 5)]) → (W.alloc (.cells #[.int .i64 (z 0), .int .i64 (z 1), .int .i64 (z 2), .int .i64 (z 3), .int .i64 (z 4), .int .i64 (z 5)] 24)).grownBy w1 v.ownBlock →
          (w1.cell? ⟨w.heap.size + 2, 0, none⟩ = some v ∧ w1.frozen? ⟨w.heap.size + 2, 0, none⟩ = false) ∧ KeepsOthers W (w1.setCell ⟨w.heap.size + 2, 0, none⟩ v') ∧ KeepA A W (w1.setCell ⟨w.heap.size + 2, 0, none⟩ v') ∧ MinI w W3.heap.size (pre ++ [(z, 0)]) (w1.setCell ⟨w.heap.size + 2, 0, none⟩ v')) := by
        intro v' w1 ho hg
        obtain ⟨b1, b2, b3, b4, b5⟩ := Boxed.appended (n₀ := w.heap.size) HV.out (by decide) (row_base HR.out s3) (by omega) (by omega) (row_base ho s3) hg
        have c3 := ho.kept (grownBy_setCell' w1 (w.heap.size + 2) v') (.inr (b1.not_row (by decide) ho).symm)
        have er := (HMI.out.err.alloc (.cells #[.int .i64 (z 0), .int .i64 (z 1), .int .i64 (z 2), .int .i64 (z 3), .int .i64 (z 4), .int .i64 (z 5)] 24)).kept hg (HMI.out.err.not_row (by decide) HR.out)
        have er2 := er.kept (grownBy_setCell' w1 (w.heap.size + 2) v') (fun h => by injection h with h; omega)
        have nA : some A ≠ v.ownBlock := by
          rcases HR.out.2 with ⟨rfl, _⟩ | ⟨g, cap, cur, rfl, hg1, _⟩
          · simp [Value.ownBlock]
          · intro h
            have : A = g := by simpa [Value.ownBlock] using h
            omega
        refine ⟨⟨b1.cell, b1.frozen⟩, b4, ⟨?_, b4.size⟩, ?_, HMI.out.below.trans b5, ⟨v', b2, ?_⟩, er2, by have := b4.size; omega⟩
        · exact (Below.heap_setCell _ _ _ A (by show A ≠ w.heap.size + 2; omega)).trans ((hg.block A (by simp; omega) nA).trans (Below.heap_alloc _ _ _ hAW))
        · intro x hx
          rcases List.mem_append.1 hx with hx | hx
          · exact HMI.out.zero x hx
          · rw [List.mem_singleton] at hx; rw [hx]
        · rw [List.length_append, List.map_append, cellsZ_app]
          exact c3
      gi_wp2_with (gi_at_builtin; refine wpListIn_append_own _ rfl _ _ 25 rfl W3.heap.size 24 i0 (.agg #[.int .i64 0, .int .i64 0, .int .i64 0, .int .i64 0, .int .i64 0, .int .i64 0]) 6 48 Try.underlying25 HI.out HZ.out H1.out H2.out rfl (by decide) _ _ _ rfl (HR.out.alloc _) ⟨W.heap.size, 0, none⟩ 1 1 [.int .i64 (z 0), .int .i64 (z 1), .int .i64 (z 2), .int .i64 (z 3), .int .i64 (z 4), .int .i64 (z 5)] rfl rfl (cell_six_new _ _ _ _ _ _ _ _) (by simp [Value.oneCell']) (by unfold maxLen; omega) (by omega) (by simp; omega) ?_; (intro v' w1 hown' hgrow _; obtain ⟨g', cap', rfl⟩ := ownsRow_succ hown'; obtain ⟨⟨k1, kf⟩, k2, k3, k4⟩ := step.out _ w1 hown' hgrow; clear hown' hgrow))
    · have hb : (e != 0) = true := by rw [bne_iff_ne]; exact he
      clear z0 z1 z2 z3 z4 z5 lz
      gi_wp2
      refine ⟨(KeepsOthers.setCell _ _ _).trans (KeepsOthers.setCell _ _ _), ⟨pre, (z, e), rfl, HMI.out.zero, he, ?_⟩, (HMI.out.below.trans (((Below.refl _ _).setCell (p := ⟨w.heap.size + 2, 0, none⟩) (by simp) _).setCell (p := ⟨w.heap.size + 3, 0, none⟩) (by simp) _)), ?_⟩
      · exact (HMI.out.err.kept (grownBy_setCell' W (w.heap.size + 2) _) (fun h => by injection h with h; omega)).set _
      · exact (HV.out.set _).kept (grownBy_setCell' _ (w.heap.size + 3) _) (fun h => by injection h with h; omega)
  case hdone =>
    intro D W hD hI hK
    obtain ⟨P, hP⟩ : ∃ P, Hid (P = partsZ 6 0 a b) := ⟨_, rfl⟩
    rw [← hP.out] at hI
    have hRR : RL = P.map Prod.fst ∧ RE = 0 := by
      have h1 := parts_all okb 6 0 a [] rfl oka (by rw [← hP.out]; exact hI.zero)
      rw [← hP.out, List.nil_append, ← hR.out] at h1
      simpa using h1
    obtain ⟨rfl, rfl⟩ := hRR
    obtain ⟨v, hv, hr0⟩ := hI.row
    obtain ⟨p, c, hvv, _, _⟩ := ownZ_of_row (w := w) (l := P.map Prod.fst) (by rw [List.length_map]; exact hr0) s3
    rw [List.length_map] at hvv
    subst hvv
    have v0 := hv.cell
    have vf := hv.frozen
    have e0 := hI.err.cell
    have ef := hI.err.frozen
    have lv := hv.lt
    have le := hI.err.lt
    obtain ⟨V, hV⟩ : ∃ V, (W.setCell ⟨w.heap.size + 2, 0, none⟩ (.slice p P.length c)).setCell ⟨w.heap.size + 3, 0, none⟩ (.int .i64 0) = V := ⟨_, rfl⟩
    have q4 : Boxed V (w.heap.size + 2) 25 (.slice p P.length c) := by
      rw [← hV]; exact (hv.set _).kept (grownBy_setCell' _ (w.heap.size + 3) _) (fun h => by injection h with h; omega)
    have q5 : Boxed V (w.heap.size + 3) 26 (.int .i64 0) := by
      rw [← hV]; exact (hI.err.kept (grownBy_setCell' W (w.heap.size + 2) _) (fun h => by injection h with h; omega)).set _
    have qD : V.heap[D]? = some (.deferred (some [])) := by
      rw [← hV]; exact (Below.heap_setCell _ _ _ D (by show D ≠ w.heap.size + 3; omega)).trans ((Below.heap_setCell _ _ _ D (by show D ≠ w.heap.size + 2; omega)).trans hK)
    have qr : V.ownsRow W3.heap.size 24 6 (.slice p P.length c) P.length (cellsZ (P.map Prod.fst)) := by
      rw [← hV]
      have n4 := hv.not_row (by decide) hr0
      have n5 := hI.err.not_row (by decide) hr0
      exact (hr0.kept (grownBy_setCell' W (w.heap.size + 2) _) (.inr n4.symm)).kept (grownBy_setCell' _ (w.heap.size + 3) _) (.inr n5.symm)
    have qb : Below w.heap.size w V := by
      rw [← hV]; exact (hI.below.setCell (p := ⟨w.heap.size + 2, 0, none⟩) (by simp) _).setCell (p := ⟨w.heap.size + 3, 0, none⟩) (by simp) _
    have k4 := fun o' => (q4.kept (grownBy_putObj' V D o') (fun h => by injection h with h; omega)).cell
    have k5 := fun o' => (q5.kept (grownBy_putObj' V D o') (fun h => by injection h with h; omega)).cell
    have hQ : Hid (∀ o', ∃ p' c', Value.slice p P.length c = .slice p' (P.map Prod.fst).length c' ∧ (p' = none → c' = 0) ∧ OwnZ w (V.putObj D o') p' (P.map Prod.fst)) := fun o' => by
      have := ownsRow_putObj qr o' qD rfl
      exact ownZ_of_row (by rw [List.length_map]; exact this) s3
    have hB2 : Hid (∀ o', Below w.heap.size w (V.putObj D o')) := fun o' => qb.grown (grownBy_putObj' V D o') (Nat.le_trans (Nat.le_refl _) qb.size) (fun k e => by cases e; omega)
    clear hr0 hI hP HI HZ H1 H2 x4 x5 hA3 hB3 HI3 HX3 hv q4 q5 qr qb
    gi_wp2
    (try rw [hV])
    refine ⟨by simp, .inl ⟨_, _, rfl, run_takeDeferred qD, ?_⟩⟩
    refine ⟨_, (by simp [results, Try.results13, go_sem, k4, k5]; try rfl), ?_, Wov_of_below (hB2.out _)⟩
    obtain ⟨p', c', e, hpc, ho⟩ := hQ.out (.deferred none)
    simp only [Value.slice.injEq] at e
    obtain ⟨rfl, _, rfl⟩ := e
    exact ⟨p, c, by rw [List.length_map], hpc, ho⟩
  case hstop =>
    intro D pre x rest W hD hp hI hK
    obtain ⟨q, y, hq, hz, hy, herr⟩ := hI.last
    have hxy : pre = q ∧ x = y := by
      have := List.append_inj' hq rfl
      simpa using this
    obtain ⟨rfl, rfl⟩ := hxy
    have hRR : RL = [] ∧ RE = x.2 := by
      have h1 := parts_err okb 6 0 a [] pre x rest rfl oka hp hz hy
      rw [← hR.out] at h1
      simpa using h1
    obtain ⟨rfl, rfl⟩ := hRR
    have q4 := hI.row
    have k4 := fun o' => (q4.kept (grownBy_putObj' W D o') (fun h => by injection h with h; omega)).cell
    have k5 := fun o' => (herr.kept (grownBy_putObj' W D o') (fun h => by injection h with h; omega)).cell
    have qb := hI.below
    have hB2 : Hid (∀ o', Below w.heap.size w (W.putObj D o')) := fun o' => qb.grown (grownBy_putObj' W D o') (Nat.le_trans (Nat.le_refl _) qb.size) (fun k e => by cases e; omega)
    clear hI HI HZ H1 H2 x4 x5 hA3 hB3 HI3 HX3 q4 herr hp hq hz hy hR qb
    gi_wp2
    refine ⟨by simp, .inl ⟨_, _, rfl, run_takeDeferred hK, ?_⟩⟩
    refine ⟨_, (by simp [results, Try.results13, go_sem, k4, k5]; try rfl), ⟨none, 0, rfl, fun _ => rfl, .inl rfl⟩, Wov_of_below (hB2.out _)⟩

set_option maxRecDepth 10000 in
set_option maxHeartbeats 2000000 in
theorem minus_bad1 (a b : Nat → Int) (fa : FitsZ a) (h : okZ a = false) (w : World) : Calls Try.prog 13 #[zoneV a, zoneV b] w (zlC w ([], 8)) := by
  have CA : Hid (∀ w, Calls Try.prog 45 #[zoneV a] w (Gives w (.int .i64 8))) := fun w => by
    have := zcheck_any a w fa
    rw [h] at this; exact this
  unfold zoneV at CA ⊢
  go_enter Try.func13, Try.ntmps13
  go_wp2_with (fail)
  refine (CA.out _).mono ?_; rintro e w' ⟨rfl, q1, rfl⟩
  go_wp2
  go_returns
  exact ⟨⟨none, 0, rfl, fun _ => rfl, .inl rfl⟩, Wov_of_below (by (repeat' (first | (with_reducible assumption) | (with_reducible exact Below.refl _ _) | (with_reducible refine below_wov ?_ ?_ _) | (with_reducible refine below_drewN ?_ _) | (with_reducible refine Below.drew ?_) | (with_reducible refine Below.alloc ?_ ?_ _) | (with_reducible refine Below.setCell ?_ ?_ _) | (with_reducible exact Nat.le_refl _) | omega | (simp only [World.size_alloc, World.size_setCell, World.size_drew, Wov_size, World.heap_drewN]; omega))))⟩
set_option maxRecDepth 10000 in
set_option maxHeartbeats 2000000 in
theorem minus_bad2 (a b : Nat → Int) (fa : FitsZ a) (fb : FitsZ b) (ha : okZ a = true) (h : okZ b = false) (w : World) : Calls Try.prog 13 #[zoneV a, zoneV b] w (zlC w ([], 8)) := by
  have CA : Hid (∀ w, Calls Try.prog 45 #[zoneV a] w (Gives w (.int .i64 0))) := fun w => by
    have := zcheck_any a w fa
    rw [ha] at this; exact this
  have CB : Hid (∀ w, Calls Try.prog 45 #[zoneV b] w (Gives w (.int .i64 8))) := fun w => by
    have := zcheck_any b w fb
    rw [h] at this; exact this
  unfold zoneV at CA CB ⊢
  go_enter Try.func13, Try.ntmps13
  go_wp2_with (fail)
  refine (CA.out _).mono ?_; rintro e w' ⟨rfl, q1, rfl⟩
  go_wp2_with (fail)
  refine (CB.out _).mono ?_; rintro e w' ⟨rfl, q2, rfl⟩
  go_wp2
  go_returns
  exact ⟨⟨none, 0, rfl, fun _ => rfl, .inl rfl⟩, Wov_of_below (by (repeat' (first | (with_reducible assumption) | (with_reducible exact Below.refl _ _) | (with_reducible refine below_wov ?_ ?_ _) | (with_reducible refine below_drewN ?_ _) | (with_reducible refine Below.drew ?_) | (with_reducible refine Below.alloc ?_ ?_ _) | (with_reducible refine Below.setCell ?_ ?_ _) | (with_reducible exact Nat.le_refl _) | omega | (simp only [World.size_alloc, World.size_setCell, World.size_drew, Wov_size, World.heap_drewN]; omega))))⟩
/-- Minus, of every two zones. -/
theorem minus_any (a b : Nat → Int) (fa : FitsZ a) (fb : FitsZ b) (w : World) : Calls Try.prog 13 #[zoneV a, zoneV b] w (zlC w (minusZ a b)) := by
  cases ha : okZ a
  · rw [minus_bad (by rw [ha]; rfl)]; exact minus_bad1 a b fa ha w
  · cases hb : okZ b
    · rw [minus_bad (by rw [ha, hb]; rfl)]; exact minus_bad2 a b fa fb ha hb w
    · unfold minusZ
      rw [ha, hb]
      exact callsIn_wide.1 (minus_in a b ha hb w)
#print axioms minus_any
end Go.Proofs.Ytbgbhfcnadjhdaa
