/- seg's reader: contract of all. No condition but on sizes, and what some package variables hold. -/
import Derived.Test.YtccbhblklhmcpaaGreatDoorQ26
namespace Go.Proofs.YtccbhblklhmcpaaGreatDoor
set_option linter.unusedSimpArgs false
set_option linter.unusedVariables false
open Go Go.RowKit Go.Shelf
attribute [local go_sem] Nat.add_assoc Nat.add_lt_add_iff_left lit_lt_add

theorem RowK.turn {α : Type} {D : EK α} {W V : World} {n B : Nat} {v : Value} {xs : List α} (h : RowK D n W v xs) (hT : Turn W.heap.size B W V) (hB : B < n) : RowK D n V v xs := by
  obtain ⟨h0, h1 | ⟨g, cap, cur, h1, h2, h3, h4⟩⟩ := h
  · exact ⟨h0, .inl h1⟩
  · exact ⟨h0, .inr ⟨g, cap, cur, h1, h2, (hT.block g (Array.getElem?_eq_some_iff.1 h3).1 (by omega)).trans h3, h4⟩⟩
theorem on_ge (N : List (List UInt8)) : ∀ (f : Nat) (r : List UInt8) (p : Nat) (last : Int) (on : Nat), p ≤ (onL N f r p last on).2.2.1
  | 0, r, p, last, on => Nat.le_refl _
  | f + 1, r, p, last, on => by
    unfold onL
    split
    · exact Nat.le_refl _
    · split
      · exact Nat.le_refl _
      · split
        · exact Nat.le_refl _
        · split
          · exact Nat.le_trans (by omega) (on_ge N f _ _ _ _)
          · simp only; omega
theorem seg_ge (N : List (List UInt8)) (r : List UInt8) (p : Nat) : p ≤ (segL N r p).2.2.1 := by
  unfold segL
  split
  · exact Nat.le_refl _
  · split
    · simp only; omega
    · split
      · simp only; omega
      · exact Nat.le_trans (by omega) (on_ge N _ _ _ _ _)
/-- What reading all segments hands back. -/
def allC (W : World) (B : Nat) (o : List Sg × Nat × Nat) (e : Ending) (W' : World) : Prop :=
  Turn W.heap.size B W W' ∧ ∃ (lv ev : Value), e = .returned (.tuple #[lv, ev]) ∧ ErrIs W.heap.size W' ev o.2.2 o.2.1 ∧ (o.2.2 = 0 → RowK sgD W.heap.size W' lv o.1)
theorem turn_grown {W X V : World} {B : Nat} {r : Option Nat} (h : Turn W.heap.size B W X) (hg : X.grownBy V r) (hr : ∀ g, r = some g → W.heap.size ≤ g) : Turn W.heap.size B W V :=
  ⟨hg.os.trans h.os, hg.tape.trans h.tape, hg.output.trans h.output, Nat.le_trans h.size hg.size, fun j hj hB => (hg.block j (Nat.lt_of_lt_of_le hj h.size) (fun e => by have := hr j e.symm; omega)).trans (h.block j hj hB)⟩
theorem RdI.grown {X V : World} {B p : Nat} {v : Value} {S : ByteArray} {r : Option Nat} (h : RdI X B v S p) (hg : X.grownBy V r) (hr : r ≠ some B) : RdI V B v S p := by
  have h0 := fun o => grown_at hg h.lt hr o
  exact ⟨Nat.lt_of_lt_of_le h.lt hg.size, (h0 0).1.trans h.c0, (h0 1).1.trans h.c1, (h0 2).1.trans h.c2, (h0 2).2.trans h.z2⟩
set_option maxRecDepth 10000 in
set_option maxHeartbeats 4000000 in
theorem all_any (W : World) (B : Nat) (q : Option Addr) (c : Nat) (N : List (List UInt8)) (S : List UInt8) (h : RdI W B (.slice q N.length c) (bs S) 0) (hS : S.length ≤ 100000) (hN : N.length ≤ 8) (hQ : SlS W q N) (hB : ∀ A o, q = some ⟨A, o, none⟩ → A ≠ B) (w : World) (hw : Below w.heap.size w W) (hwB : w.heap.size ≤ B) (hL : Laid w) (hne : S ≠ []) :
    Calls Tryz.prog 11 #[.pointer (some ⟨B, 0, none⟩)] W (allC W B (allL N (S.length + 1) S 0 [])) := by
  obtain ⟨o, ho⟩ : ∃ o, o = allL N (S.length + 1) S 0 [] := ⟨_, rfl⟩
  rw [← ho]
  have HO := Lib.hid ho
  have HI := Lib.hid h
  have HQ := Lib.hid hQ
  have HQB := Lib.hid hB
  have HSl := Lib.hid hS
  have HNE := Lib.hid hne
  have hlt := h.lt
  have c1 := h.c1
  have he : (bs S).toList.isEmpty = false := by
    rw [Lib.toList_data, bs_list]
    cases hh : S with
    | nil => exact absurd hh hne
    | cons => rfl
  have SG : Hid (∀ X p, Turn W.heap.size B W X → RdI X B (.slice q N.length c) (bs S) p → p ≤ S.length → Calls Tryz.prog 22 #[.pointer (some ⟨B, 0, none⟩)] X (segC X B (.slice q N.length c) S (segL N (S.drop p) p))) := fun X p hT hR hp =>
    segment_any X B q c N S p hR hp (by omega) hN (SlS.turn hQ hT hB) hB (hL.below ⟨hT.os.trans hw.os, hT.tape.trans hw.tape, hT.output.trans hw.output, Nat.le_trans hw.size hT.size, fun j hj => (hT.block j (Nat.lt_of_lt_of_le hj hw.size) (by omega)).trans (hw.block j hj)⟩)
  obtain ⟨T, hT⟩ : ∃ T, T = bs S := ⟨_, rfl⟩
  rw [← hT] at c1 he
  have HT := Lib.hid hT
  obtain ⟨F, hF⟩ : ∃ F, F = S.length + 1 := ⟨_, rfl⟩
  have HF := Lib.hid hF
  clear h hQ hB hS ho hL hw hwB hT hne hF
  go_enter Tryz.func11, Tryz.ntmps11
  go_wp2_with (fail)
  go_loopg [2] F (fun g s2 wr => ∃ (p : Nat) (acc : List Sg), Hid (RdI wr B (.slice q N.length c) (bs S) p ∧ Turn W.heap.size B W wr ∧ p ≤ S.length ∧ acc.length ≤ p ∧ o = allL N g (S.drop p) p acc ∧ (S.drop p).length < g ∧ RowK sgD W.heap.size wr s2 acc))
  case atStart => exact ⟨0, [], HI.out, Turn.of (Below.refl _ _), Nat.zero_le _, Nat.le_refl _, by rw [List.drop_zero, HF.out]; exact HO.out, by rw [List.drop_zero, HF.out]; omega, RowK.nil _ _⟩
  case round =>
    obtain ⟨p, acc, hI⟩ := hrel
    obtain ⟨hR, hT, hp, hal, ho, hl, hrow⟩ := hI.out
    clear hI
    cases gk with
    | zero => exact absurd hl (Nat.not_lt_zero _)
    | succ g =>
      have S1 := Lib.hid (SG.out wr p hT hR hp)
      unfold segC at S1
      obtain ⟨so, hso⟩ : ∃ so, so = segL N (S.drop p) p := ⟨_, rfl⟩
      rw [← hso] at S1
      have HSO := Lib.hid hso
      have HR := Lib.hid hR
      have HTT := Lib.hid hT
      have HROW := Lib.hid hrow
      have HPP := Lib.hid hp
      have HAL := Lib.hid hal
      have HO2 := Lib.hid ho
      have HL2 := Lib.hid hl
      have szr := hT.size
      have hltr := hR.lt
      clear hR hT hp hal ho hl hrow hso
      go_wp2_with (fail)
      refine S1.out.mono ?_
      rintro e W1 ⟨ht1, a, b, ev, rfl, hev, hok⟩
      clear S1
      have hsz1 := ht1.size
      rcases hev with ⟨he0, rfl⟩ | ⟨he0, Nf, rfl, hNf⟩
      · obtain ⟨ha, hb, hR1, hrest, hp1⟩ := hok he0
        have HT1 := Lib.hid (HTT.out.trans (ht1.mono szr))
        have HROW1 := Lib.hid (HROW.out.turn ht1 hlt)
        have HR1 := Lib.hid hR1
        have HRE := Lib.hid hrest
        have HP1 := Lib.hid hp1
        have HE0 := Lib.hid he0
        have HA := Lib.hid ha
        have HBB := Lib.hid hb
        have hlt1 := hR1.lt
        have hsW : W.heap.size ≤ W1.heap.size := Nat.le_trans szr hsz1
        have hacc : acc.length ≤ 100000 := by have := HAL.out; have := HPP.out; have := HSl.out; omega
        have RS : Hid (∀ X, RdI X B (.slice q N.length c) (bs S) so.2.2.1 → Calls Tryz.prog 23 #[.pointer (some ⟨B, 0, none⟩)] X (Gives X (.string (bs (S.drop so.2.2.1))))) := fun X h => rest_any X B _ S _ h hp1 (by have := HSl.out; omega)
        have MY : Hid (∀ X, RdI X B (.slice q N.length c) (bs S) so.2.2.1 → Calls Tryz.prog 24 #[.pointer (some ⟨B, 0, none⟩), .string ⟨#[59]⟩] X (fun e W' => e = .returned (.bool (decide ((S.drop so.2.2.1).head? = some 59))) ∧ stepC X B (.slice q N.length c) (bs S) (if (S.drop so.2.2.1).head? = some 59 then so.2.2.1 + 1 else so.2.2.1) W')) := fun X h => may_any X B _ S _ 59 h hp1 (by have := HSl.out; omega)
        obtain ⟨pp, hpp⟩ : ∃ pp, pp = so.2.2.1 := ⟨_, rfl⟩
        obtain ⟨rr, hrr⟩ : ∃ rr, rr = S.drop so.2.2.1 := ⟨_, rfl⟩
        rw [← hrr] at RS MY
        have HRR := Lib.hid hrr
        rw [← hpp] at RS MY HR1 HP1
        have HPQ := Lib.hid hpp
        have hpl : p ≤ pp := by rw [hpp, HSO.out]; exact seg_ge N _ _
        have HPL := Lib.hid hpl
        clear ht1 hok he0 ha hb hR1 hrest hp1 hpp hrr hpl
        by_cases hr0 : rr = []
        · have hoo : o = (acc ++ [so.1], 0, 0) := by
            rw [HO2.out]; unfold allL
            rw [← HSO.out, if_neg (by rw [HE0.out]; simp), if_pos (by rw [HRE.out, ← HRR.out]; exact hr0)]
          have HOO := Lib.hid hoo
          have he2 : (bs rr).toList.isEmpty = true := by rw [Lib.toList_data, bs_list, hr0]; rfl
          obtain ⟨R, hRR⟩ : ∃ R, R = bs rr := ⟨_, rfl⟩
          rw [← hRR] at RS he2
          clear hoo hr0 hRR MY
          go_wp2_with (at_builtin; refine wpList_appK sgD_ok _ W.heap.size rfl (.tmp 19) (.tmp 21) rfl rfl _ acc [so.1] rfl (HROW1.out.below (by (repeat' (first | (with_reducible assumption) | (with_reducible exact Below.refl _ _) | (with_reducible refine below_wov ?_ ?_ _) | (with_reducible refine below_drewN ?_ _) | (with_reducible refine Below.drew ?_) | (with_reducible refine Below.alloc ?_ ?_ _) | (with_reducible refine Below.setCell ?_ ?_ _) | (with_reducible exact Nat.le_refl _) | omega | (simp only [World.size_alloc, World.size_setCell, World.size_drew, Wov_size, World.heap_drewN]; omega))))) (some ⟨_, 0, none⟩) 1 rfl (by intro h; cases h) ?hR (by simp; omega) (by (first | omega | ((simp only [World.size_alloc, World.size_setCell, World.size_drew, Wov_size, World.heap_drewN, Array.size_append]) <;> omega))) ?_; (case hR => (refine SlK.one (by (first | omega | ((simp only [World.size_alloc, World.size_setCell, World.size_drew, Wov_size, World.heap_drewN, Array.size_append]) <;> omega))) (fun j u hu => ?_); have hj : j < 2 := (by have := (List.getElem?_eq_some_iff.1 hu).1; exact this); rcases (show j = 0 ∨ j = 1 by omega) with rfl | rfl <;> (injection hu with hu; subst hu; simp [go_sem, HA.out, HBB.out]))); intro v1 w1 ho1 hg1; obtain ⟨p1, cp1, rfl, _, _, _⟩ := RowK.sl sgD_ok ho1; have hown := HROW1.out.own_lt; have hR2 := Lib.hid (RdI.grown (HR1.out.below (by (repeat' (first | (with_reducible assumption) | (with_reducible exact Below.refl _ _) | (with_reducible refine below_wov ?_ ?_ _) | (with_reducible refine below_drewN ?_ _) | (with_reducible refine Below.drew ?_) | (with_reducible refine Below.alloc ?_ ?_ _) | (with_reducible refine Below.setCell ?_ ?_ _) | (with_reducible exact Nat.le_refl _) | omega | (simp only [World.size_alloc, World.size_setCell, World.size_drew, Wov_size, World.heap_drewN]; omega))))) hg1 (fun e => by have := (hown B e).1; omega)); have hT2 := Lib.hid (turn_grown (HT1.out.trans (Turn.of (Below.mono (show Below W1.heap.size W1 _ by (repeat' (first | (with_reducible assumption) | (with_reducible exact Below.refl _ _) | (with_reducible refine below_wov ?_ ?_ _) | (with_reducible refine below_drewN ?_ _) | (with_reducible refine Below.drew ?_) | (with_reducible refine Below.alloc ?_ ?_ _) | (with_reducible refine Below.setCell ?_ ?_ _) | (with_reducible exact Nat.le_refl _) | omega | (simp only [World.size_alloc, World.size_setCell, World.size_drew, Wov_size, World.heap_drewN]; omega)))) hsW))) hg1 (fun g e => (hown g e).1)); have hs1 := hT2.out.size; have hlt2 := hR2.out.lt; have HO1 := Lib.hid ho1; clear ho1 hg1 hown)
          refine (RS.out _ hR2.out).mono ?_; rintro e w' ⟨rfl, q1, rfl⟩
          go_wp2_with (fail)
          go_ret2
          refine ⟨hT2.out.trans ((Turn.of (below_Wov w1 q1)).mono hT2.out.size), _, .nilIface, rfl, by rw [HOO.out]; exact .inl ⟨rfl, rfl⟩, fun _ => ?_⟩
          rw [HOO.out]
          have ho2 := HO1.out.below (below_Wov w1 q1)
          simp only [List.length_append, List.length_cons, List.length_nil, Nat.zero_add] at ho2 ⊢
          exact ho2
        · have he2 : (bs rr).toList.isEmpty = false := by
            rw [Lib.toList_data, bs_list]
            cases hh : rr with
            | nil => exact absurd hh hr0
            | cons => rfl
          have HR0 := Lib.hid hr0
          by_cases h59 : rr.head? = some 59
          · have hoo : o = allL N g rr.tail (pp + 1) (acc ++ [so.1]) := by
              rw [HO2.out]; conv => lhs; unfold allL
              rw [← HSO.out, if_neg (by rw [HE0.out]; simp), if_neg (by rw [HRE.out, ← HRR.out]; exact hr0), if_pos (by rw [HRE.out, ← HRR.out]; exact h59), HRE.out, ← HRR.out, ← HPQ.out]
            have HOO := Lib.hid hoo
            rw [decide_eq_true h59, if_pos h59] at MY
            have htl : rr.tail = S.drop (pp + 1) := by rw [HRR.out, List.tail_drop, ← HPQ.out]
            have HTL := Lib.hid htl
            have hnl : 1 ≤ rr.length := List.length_pos_iff.2 hr0
            have hrl : rr.length = S.length - pp := by rw [HRR.out, List.length_drop, ← HPQ.out]
            have hpp1 : pp + 1 ≤ S.length := by have := HP1.out; omega
            have hmv := HPL.out
            have hlg : rr.tail.length < g := by
              have h1 := HL2.out
              rw [List.length_drop] at h1
              rw [List.length_tail]
              omega
            have HLG := Lib.hid hlg
            obtain ⟨R, hRR⟩ : ∃ R, R = bs rr := ⟨_, rfl⟩
            rw [← hRR] at RS he2
            clear hoo hr0 hRR h59 htl hnl hrl hlg hmv
            go_wp2_with (at_builtin; refine wpList_appK sgD_ok _ W.heap.size rfl (.tmp 19) (.tmp 21) rfl rfl _ acc [so.1] rfl (HROW1.out.below (by (repeat' (first | (with_reducible assumption) | (with_reducible exact Below.refl _ _) | (with_reducible refine below_wov ?_ ?_ _) | (with_reducible refine below_drewN ?_ _) | (with_reducible refine Below.drew ?_) | (with_reducible refine Below.alloc ?_ ?_ _) | (with_reducible refine Below.setCell ?_ ?_ _) | (with_reducible exact Nat.le_refl _) | omega | (simp only [World.size_alloc, World.size_setCell, World.size_drew, Wov_size, World.heap_drewN]; omega))))) (some ⟨_, 0, none⟩) 1 rfl (by intro h; cases h) ?hR (by simp; omega) (by (first | omega | ((simp only [World.size_alloc, World.size_setCell, World.size_drew, Wov_size, World.heap_drewN, Array.size_append]) <;> omega))) ?_; (case hR => (refine SlK.one (by (first | omega | ((simp only [World.size_alloc, World.size_setCell, World.size_drew, Wov_size, World.heap_drewN, Array.size_append]) <;> omega))) (fun j u hu => ?_); have hj : j < 2 := (by have := (List.getElem?_eq_some_iff.1 hu).1; exact this); rcases (show j = 0 ∨ j = 1 by omega) with rfl | rfl <;> (injection hu with hu; subst hu; simp [go_sem, HA.out, HBB.out]))); intro v1 w1 ho1 hg1; obtain ⟨p1, cp1, rfl, _, _, _⟩ := RowK.sl sgD_ok ho1; have hown := HROW1.out.own_lt; have hR2 := Lib.hid (RdI.grown (HR1.out.below (by (repeat' (first | (with_reducible assumption) | (with_reducible exact Below.refl _ _) | (with_reducible refine below_wov ?_ ?_ _) | (with_reducible refine below_drewN ?_ _) | (with_reducible refine Below.drew ?_) | (with_reducible refine Below.alloc ?_ ?_ _) | (with_reducible refine Below.setCell ?_ ?_ _) | (with_reducible exact Nat.le_refl _) | omega | (simp only [World.size_alloc, World.size_setCell, World.size_drew, Wov_size, World.heap_drewN]; omega))))) hg1 (fun e => by have := (hown B e).1; omega)); have hT2 := Lib.hid (turn_grown (HT1.out.trans (Turn.of (Below.mono (show Below W1.heap.size W1 _ by (repeat' (first | (with_reducible assumption) | (with_reducible exact Below.refl _ _) | (with_reducible refine below_wov ?_ ?_ _) | (with_reducible refine below_drewN ?_ _) | (with_reducible refine Below.drew ?_) | (with_reducible refine Below.alloc ?_ ?_ _) | (with_reducible refine Below.setCell ?_ ?_ _) | (with_reducible exact Nat.le_refl _) | omega | (simp only [World.size_alloc, World.size_setCell, World.size_drew, Wov_size, World.heap_drewN]; omega)))) hsW))) hg1 (fun g e => (hown g e).1)); have hs1 := hT2.out.size; have hlt2 := hR2.out.lt; have HO1 := Lib.hid ho1; clear ho1 hg1 hown)
            refine (RS.out _ hR2.out).mono ?_; rintro e w' ⟨rfl, q1, rfl⟩
            go_wp2_with (fail)
            refine (MY.out _ (hR2.out.below (below_Wov w1 q1))).mono ?_
            rintro e W2 ⟨rfl, hs3, hs4⟩
            have HR3 := Lib.hid hs3
            have hT3 := hT2.out.trans ((Turn.of (below_Wov w1 q1)).mono hT2.out.size)
            have HT3 := Lib.hid (hT3.trans (hs4.mono hT3.size))
            have HO3 := Lib.hid ((HO1.out.below (below_Wov w1 q1)).turn hs4 hlt)
            clear hs3 hs4 hT3
            go_wp2_with (fail)
            go_roundg g
            case measure => omega
            case rel =>
              have ho2 := HO3.out
              simp only [List.length_append, List.length_cons, List.length_nil, Nat.zero_add] at ho2
              exact ⟨pp + 1, acc ++ [so.1], HR3.out, HT3.out, hpp1, by (have := HAL.out; have := HPL.out; simp; omega), by rw [← HTL.out]; exact HOO.out, by rw [← HTL.out]; exact HLG.out, ho2⟩
          · have hoo : o = ([], pp, 170) := by
              rw [HO2.out]; unfold allL
              rw [← HSO.out, if_neg (by rw [HE0.out]; simp), if_neg (by rw [HRE.out, ← HRR.out]; exact hr0), if_neg (by rw [HRE.out, ← HRR.out]; exact h59), ← HPQ.out]
            have HOO := Lib.hid hoo
            rw [decide_eq_false h59, if_neg h59] at MY
            obtain ⟨R, hRR⟩ : ∃ R, R = bs rr := ⟨_, rfl⟩
            rw [← hRR] at RS he2
            clear hoo hr0 hRR h59
            go_wp2_with (at_builtin; refine wpList_appK sgD_ok _ W.heap.size rfl (.tmp 19) (.tmp 21) rfl rfl _ acc [so.1] rfl (HROW1.out.below (by (repeat' (first | (with_reducible assumption) | (with_reducible exact Below.refl _ _) | (with_reducible refine below_wov ?_ ?_ _) | (with_reducible refine below_drewN ?_ _) | (with_reducible refine Below.drew ?_) | (with_reducible refine Below.alloc ?_ ?_ _) | (with_reducible refine Below.setCell ?_ ?_ _) | (with_reducible exact Nat.le_refl _) | omega | (simp only [World.size_alloc, World.size_setCell, World.size_drew, Wov_size, World.heap_drewN]; omega))))) (some ⟨_, 0, none⟩) 1 rfl (by intro h; cases h) ?hR (by simp; omega) (by (first | omega | ((simp only [World.size_alloc, World.size_setCell, World.size_drew, Wov_size, World.heap_drewN, Array.size_append]) <;> omega))) ?_; (case hR => (refine SlK.one (by (first | omega | ((simp only [World.size_alloc, World.size_setCell, World.size_drew, Wov_size, World.heap_drewN, Array.size_append]) <;> omega))) (fun j u hu => ?_); have hj : j < 2 := (by have := (List.getElem?_eq_some_iff.1 hu).1; exact this); rcases (show j = 0 ∨ j = 1 by omega) with rfl | rfl <;> (injection hu with hu; subst hu; simp [go_sem, HA.out, HBB.out]))); intro v1 w1 ho1 hg1; obtain ⟨p1, cp1, rfl, _, _, _⟩ := RowK.sl sgD_ok ho1; have hown := HROW1.out.own_lt; have hR2 := Lib.hid (RdI.grown (HR1.out.below (by (repeat' (first | (with_reducible assumption) | (with_reducible exact Below.refl _ _) | (with_reducible refine below_wov ?_ ?_ _) | (with_reducible refine below_drewN ?_ _) | (with_reducible refine Below.drew ?_) | (with_reducible refine Below.alloc ?_ ?_ _) | (with_reducible refine Below.setCell ?_ ?_ _) | (with_reducible exact Nat.le_refl _) | omega | (simp only [World.size_alloc, World.size_setCell, World.size_drew, Wov_size, World.heap_drewN]; omega))))) hg1 (fun e => by have := (hown B e).1; omega)); have hT2 := Lib.hid (turn_grown (HT1.out.trans (Turn.of (Below.mono (show Below W1.heap.size W1 _ by (repeat' (first | (with_reducible assumption) | (with_reducible exact Below.refl _ _) | (with_reducible refine below_wov ?_ ?_ _) | (with_reducible refine below_drewN ?_ _) | (with_reducible refine Below.drew ?_) | (with_reducible refine Below.alloc ?_ ?_ _) | (with_reducible refine Below.setCell ?_ ?_ _) | (with_reducible exact Nat.le_refl _) | omega | (simp only [World.size_alloc, World.size_setCell, World.size_drew, Wov_size, World.heap_drewN]; omega)))) hsW))) hg1 (fun g e => (hown g e).1)); have hs1 := hT2.out.size; have hlt2 := hR2.out.lt; have HO1 := Lib.hid ho1; clear ho1 hg1 hown)
            refine (RS.out _ hR2.out).mono ?_; rintro e w' ⟨rfl, q1, rfl⟩
            go_wp2_with (fail)
            refine (MY.out _ (hR2.out.below (below_Wov w1 q1))).mono ?_
            rintro e W2 ⟨rfl, hs3, hs4⟩
            have b2 := hs3.c2
            have bl := hs3.lt
            have hT3 := hT2.out.trans ((Turn.of (below_Wov w1 q1)).mono hT2.out.size)
            have HT3 := Lib.hid (hT3.trans (hs4.mono hT3.size))
            clear hs3 hs4 hT3
            go_wp2_with (fail)
            refine (syntax_any _ pp).mono ?_; rintro e w' ⟨hb, ev, rfl, hev⟩
            go_wp2_with (fail)
            go_ret2
            refine ⟨HT3.out.trans ((Turn.of hb).mono HT3.out.size), .slice none 0 0, ev, rfl, ?_, fun h => by rw [HOO.out] at h; simp at h⟩
            rw [HOO.out]
            exact hev.mono HT3.out.size
      · have hoo : o = ([], so.2.2.1, so.2.2.2) := by
          rw [HO2.out]; unfold allL
          rw [← HSO.out, if_pos he0]
        have HOO := Lib.hid hoo
        have HEV : Hid (ErrIs wr.heap.size W1 (.iface 44 (.pointer (some ⟨Nf, 0, none⟩))) so.2.2.2 so.2.2.1) := .inr ⟨he0, Nf, rfl, hNf⟩
        have HT1 := Lib.hid (HTT.out.trans (ht1.mono szr))
        have HE0 := Lib.hid he0
        clear hNf hok hoo he0 ht1
        go_wp2_with (fail)
        go_ret2
        refine ⟨HT1.out.trans (Turn.of ?_), .slice none 0 0, _, rfl, ?_, fun h => ?_⟩
        · (repeat' (first | (with_reducible assumption) | (with_reducible exact Below.refl _ _) | (with_reducible refine below_wov ?_ ?_ _) | (with_reducible refine below_drewN ?_ _) | (with_reducible refine Below.drew ?_) | (with_reducible refine Below.alloc ?_ ?_ _) | (with_reducible refine Below.setCell ?_ ?_ _) | (with_reducible exact Nat.le_refl _) | omega | (simp only [World.size_alloc, World.size_setCell, World.size_drew, Wov_size, World.heap_drewN]; omega)))
        · rw [HOO.out]
          exact (HEV.out.mono szr).below (by (repeat' (first | (with_reducible assumption) | (with_reducible exact Below.refl _ _) | (with_reducible refine below_wov ?_ ?_ _) | (with_reducible refine below_drewN ?_ _) | (with_reducible refine Below.drew ?_) | (with_reducible refine Below.alloc ?_ ?_ _) | (with_reducible refine Below.setCell ?_ ?_ _) | (with_reducible exact Nat.le_refl _) | omega | (simp only [World.size_alloc, World.size_setCell, World.size_drew, Wov_size, World.heap_drewN]; omega))))
        · rw [HOO.out] at h; exact absurd h HE0.out
#print axioms all_any
end Go.Proofs.YtccbhblklhmcpaaGreatDoor
