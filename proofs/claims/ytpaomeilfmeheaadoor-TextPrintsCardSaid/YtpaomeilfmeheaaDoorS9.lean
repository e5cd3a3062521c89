/- The document's zones' texts: contract of Print. No condition but that bounds fit 64 bits and on the count of zones. -/
import Derived.Test.YtpaomeilfmeheaaDoorS8
import Derived.Test.YtpaomeilfmeheaaDoorK5
namespace Go.Proofs.YtpaomeilfmeheaaDoor
set_option linter.unusedSimpArgs false
set_option linter.unusedVariables false
open Go Go.RowKit Go.Shelf Go.ChangeShapes Go.WideShapes
attribute [local go_sem] Nat.add_assoc Nat.add_lt_add_iff_left lit_lt_add

theorem join_snoc (sep x : List UInt8) : ∀ xs : List (List UInt8), xs ≠ [] → Lib.join (xs ++ [x]) sep = Lib.join xs sep ++ (sep ++ x)
  | [], h => absurd rfl h
  | [y], _ => by
    show Lib.join (y :: [x]) sep = _
    rw [join_cons _ _ (by simp), join_single, join_single]
  | y :: z :: r, _ => by
    rw [List.cons_append, join_cons _ _ (by simp), join_cons _ _ (by simp), join_snoc sep x (z :: r) (by simp)]
    simp
/-- The text of some zones of a list. -/
def upT (L : List (Nat → Int)) (t : Nat) : List UInt8 := Lib.join ((L.take t).map oneT) [32]
theorem upT_zero (L : List (Nat → Int)) : upT L 0 = [] := by simp [upT, Lib.join]
theorem upT_one {L : List (Nat → Int)} (h : 0 < L.length) : upT L 1 = oneT (nthZ L 0) := by
  unfold upT
  rw [take_succ h]
  simp [join_single]
theorem upT_succ {L : List (Nat → Int)} {t : Nat} (h : t < L.length) (h0 : 0 < t) : upT L (t + 1) = upT L t ++ ([32] ++ oneT (nthZ L t)) := by
  unfold upT
  rw [take_succ h, List.map_append]
  exact join_snoc _ _ _ (by intro e; have := congrArg List.length e; rw [List.length_map, List.length_take] at this; simp only [List.length_nil] at this; omega)
theorem upT_len {L : List (Nat → Int)} {t : Nat} (hl : L.length ≤ 4096) (ht : t ≤ L.length) (h : ∀ k, k < t → okZ (nthZ L k) = true) : (upT L t).length ≤ 3000000 := by
  unfold upT
  have := join_len [32] 700 ((L.take t).map oneT) (fun x hx => by
    obtain ⟨z, hz, rfl⟩ := List.mem_map.1 hx
    obtain ⟨k, hk, rfl⟩ := List.getElem_of_mem hz
    rw [List.length_take] at hk
    rw [List.getElem_take]
    have := h k (by omega)
    rw [nthZ_eq (by omega)] at this
    exact oneT_len this)
  rw [List.length_map, List.length_take] at this
  simp only [List.length_cons, List.length_nil] at this
  have h2 : min t L.length * (700 + (0 + 1)) ≤ 4096 * (700 + (0 + 1)) := Nat.mul_le_mul_right _ (by omega)
  omega

set_option maxRecDepth 10000 in
set_option maxHeartbeats 4000000 in
theorem print31_any (q : Option Addr) (c : Nat) (L : List (Nat → Int)) (w : World) (hS : SlZ w q L) (hF : ∀ z, z ∈ L → FitsZ z) (hN : L.length ≤ 140737488355328) :
    Calls Tryd.prog 8 #[.slice q L.length c] w (Gives w (textV (printT L))) := by
  by_cases hbig : 4096 < L.length
  · have e : printT L = ([], 4) := by unfold printT; rw [if_pos hbig]
    rw [e]
    have hd : decide ((4096 : Int) < (L.length : Int)) = true := by simp; omega
    obtain ⟨n, hn⟩ : ∃ n, n = L.length := ⟨_, rfl⟩
    rw [← hn] at hd hbig hN ⊢
    clear hS hF e hn
    unfold textV
    go_enter Tryd.func8, Tryd.ntmps8
    go_wp2
    all_goals
      go_ret2
      exact gives_end rfl (by (repeat' (first | (with_reducible assumption) | (with_reducible exact Below.refl _ _) | (with_reducible refine below_wov ?_ ?_ _) | (with_reducible refine below_drewN ?_ _) | (with_reducible refine Below.drew ?_) | (with_reducible refine Below.alloc ?_ ?_ _) | (with_reducible refine Below.setCell ?_ ?_ _) | (with_reducible exact Nat.le_refl _) | omega | (simp only [World.size_alloc, World.size_setCell, World.size_drew, Wov_size, World.heap_drewN]; omega))))
  · have hL : L.length ≤ 4096 := by omega
    have CK0 : ∀ t, t < L.length → ∀ w, Calls Tryd.prog 18 #[zoneV (nthZ L t)] w (Gives w (.bool (okZ (nthZ L t)))) := fun t h w => may8_any _ w (hF _ (nthZ_mem h))
    have CK := Lib.hid CK0
    have HS := Lib.hid hS
    obtain ⟨R, hR⟩ : ∃ R, R = printT L := ⟨_, rfl⟩
    rw [← hR]
    have HR := Lib.hid hR
    obtain ⟨n, hn⟩ : ∃ n, n = L.length := ⟨_, rfl⟩
    have Hn := Lib.hid hn
    rw [← hn] at hL ⊢
    obtain ⟨i0, hi, hz1, hz2⟩ : ∃ i0, Tryd.prog.info? 5 = some i0 ∧ i0.size = 1 ∧ i0.bytes = 1 := by
      have := infoY
      cases h : Tryd.prog.info? 5 with
      | none => rw [h] at this; cases this
      | some i => rw [h] at this; simp at this; exact ⟨i, rfl, this.1, this.2⟩
    have hz0 : i0.zero = some (.int .u8 0) := by
      have := infoYz
      rw [hi] at this; simpa using this
    have I1 := Lib.hid hi
    have I2 := Lib.hid hz0
    have I3 := Lib.hid hz1
    have I4 := Lib.hid hz2
    clear hS hF CK0 hR hn hbig hN hi hz0 hz1 hz2
    unfold textV
    go_enter Tryd.func8, Tryd.ntmps8
    go_wp2
    go_loopw [4, 5] (fun x i wr => ∃ (t : Nat) (v : Value), t ≤ n ∧ i = .int .i64 t ∧ v = x ∧ Below w.heap.size w wr ∧ Hid ((∀ k, k < t → okZ (nthZ L k) = true) ∧ wr.ownsRow w.heap.size 5 1 v (upT L t).length (cellsB (upT L t))))
      (fun _ i _ => n - (intOf i).toNat)
    case atStart => exact ⟨0, _, Nat.zero_le _, rfl, rfl, Below.refl _ _, ⟨fun k hk => by omega, by rw [upT_zero]; exact World.ownsRow_nil _ _ _ _⟩⟩
    case round =>
      obtain ⟨t, v, ht, rfl, rfl, hB, hI⟩ := hrel
      have szr := hB.size
      by_cases hlt : t < n
      · have hlt' : t < L.length := by rw [← Hn.out]; exact hlt
        obtain ⟨A, o, rfl, hA, hv⟩ := HS.out.resolve_left (fun h => by rw [h] at hlt'; simp at hlt')
        obtain ⟨z, hz⟩ : ∃ z, z = nthZ L t := ⟨_, rfl⟩
        obtain ⟨c0, c1, c2, c3, c4, c5⟩ := slz_cells (W := wr) (fun i j hi hj => (hB.cell (p := ⟨A, o + (i * 6 + j), none⟩) hA).trans (hv i j hi hj)) hlt'
        rw [← hz] at c0 c1 c2 c3 c4 c5
        have CZ : Hid (∀ w, Calls Tryd.prog 18 #[.agg #[.int .i64 (z 0), .int .i64 (z 1), .int .i64 (z 2), .int .i64 (z 3), .int .i64 (z 4), .int .i64 (z 5)]] w (Gives w (.bool (okZ z)))) := fun w => by rw [hz]; exact CK.out t hlt' w
        have hA' : A < wr.heap.size := Nat.lt_of_lt_of_le hA szr
        have t0 : (0 : Int) ≤ (t : Int) := by omega
        have t1 : (t : Int) < (n : Int) := by omega
        have HZ := Lib.hid hz
        have HV : Hid (∀ W, Below w.heap.size w W → W.cell? ⟨A, o + t * 6, none⟩ = some (.int .i64 (z 0)) ∧ W.cell? ⟨A, o + (t * 6 + 1), none⟩ = some (.int .i64 (z 1)) ∧ W.cell? ⟨A, o + (t * 6 + 2), none⟩ = some (.int .i64 (z 2)) ∧ W.cell? ⟨A, o + (t * 6 + 3), none⟩ = some (.int .i64 (z 3)) ∧ W.cell? ⟨A, o + (t * 6 + 4), none⟩ = some (.int .i64 (z 4)) ∧ W.cell? ⟨A, o + (t * 6 + 5), none⟩ = some (.int .i64 (z 5))) := fun W hb => by
          rw [hz]
          exact slz_cells (W := W) (fun i j hi hj => (hb.cell (p := ⟨A, o + (i * 6 + j), none⟩) hA).trans (hv i j hi hj)) hlt'
        clear hv hz
        cases kz : okZ z
        · have hbad : R = ([], 8) := by
            rw [HR.out]
            refine print_bad ?_ (by rw [← Hn.out]; exact hL)
            rw [← Bool.not_eq_true, List.all_eq_true]
            intro h
            have := h _ (nthZ_mem hlt')
            rw [← HZ.out, kz] at this
            cases this
          rw [hbad]
          rw [kz] at CZ
          clear hbad kz hI HS HR
          go_wp2_with (fail)
          refine (CZ.out _).mono ?_; rintro e w' ⟨rfl, q1, rfl⟩
          go_wp2
          all_goals
            go_ret2
            exact gives_end rfl (by (repeat' (first | (with_reducible assumption) | (with_reducible exact Below.refl _ _) | (with_reducible refine below_wov ?_ ?_ _) | (with_reducible refine below_drewN ?_ _) | (with_reducible refine Below.drew ?_) | (with_reducible refine Below.alloc ?_ ?_ _) | (with_reducible refine Below.setCell ?_ ?_ _) | (with_reducible exact Nat.le_refl _) | omega | (simp only [World.size_alloc, World.size_setCell, World.size_drew, Wov_size, World.heap_drewN]; omega))))
        · rw [kz] at CZ
          have HK := Lib.hid kz
          have ON : Hid (∀ w, Calls Tryd.prog 19 #[.agg #[.int .i64 (z 0), .int .i64 (z 1), .int .i64 (z 2), .int .i64 (z 3), .int .i64 (z 4), .int .i64 (z 5)]] w (Gives w (.string (bs (oneT z))))) := fun w => one31_any z kz w
          have hlen := upT_len (L := L) (t := t) (by rw [← Hn.out]; exact hL) (by omega) hI.out.1
          have ho := oneT_len kz
          have hone : (bs (oneT z)).size ≤ 700 := by rw [bs_size]; exact ho
          clear kz ho
          go_wp2_with (fail)
          refine (CZ.out _).mono ?_; rintro e w' ⟨rfl, q1, rfl⟩
          by_cases h0 : t = 0
          · have d0 : decide ((0 : Int) < (t : Int)) = false := decide_eq_false (by omega)
            have d1 : decide (0 < t) = false := decide_eq_false (by omega)
            have d2 : ¬ 0 < t := by omega
            have H0 := Lib.hid h0
            clear h0
            go_wp2_with (fail)
            refine (ON.out _).mono ?_; rintro e w' ⟨rfl, q2, rfl⟩
            have HI := Lib.hid hI.out.1
            have HO := Lib.hid hI.out.2
            clear hI c0 c1 c2 c3 c4 c5
            go_wp2_with (at_builtin; refine Lib.wpList_append_own_string _ rfl (.tmp 26) (.tmp 31) 48 9 rfl w.heap.size 5 i0 Tryd.underlying48 Tryd.underlying9 I1.out I2.out I3.out I4.out v _ (cellsB (upT L t)) rfl (rowS_below HO.out (by (repeat' (first | (with_reducible assumption) | (with_reducible exact Below.refl _ _) | (with_reducible refine below_wov ?_ ?_ _) | (with_reducible refine below_drewN ?_ _) | (with_reducible refine Below.drew ?_) | (with_reducible refine Below.alloc ?_ ?_ _) | (with_reducible refine Below.setCell ?_ ?_ _) | (with_reducible exact Nat.le_refl _) | omega | (simp only [World.size_alloc, World.size_setCell, World.size_drew, Wov_size, World.heap_drewN]; omega))))) (bs (oneT z)) rfl (by unfold maxLen; omega) (by omega) (by (first | omega | ((simp only [World.size_alloc, World.size_setCell, World.size_drew, Wov_size, World.heap_drewN, Array.size_append]) <;> omega))) ?_; intro v' w1 ho1 hg1 _; have hx1 := rowS_grown (rowS_below HO.out (by (repeat' (first | (with_reducible assumption) | (with_reducible exact Below.refl _ _) | (with_reducible refine below_wov ?_ ?_ _) | (with_reducible refine below_drewN ?_ _) | (with_reducible refine Below.drew ?_) | (with_reducible refine Below.alloc ?_ ?_ _) | (with_reducible refine Below.setCell ?_ ?_ _) | (with_reducible exact Nat.le_refl _) | omega | (simp only [World.size_alloc, World.size_setCell, World.size_drew, Wov_size, World.heap_drewN]; omega))))) (Below.refl _ _) hg1 (by (first | omega | ((simp only [World.size_alloc, World.size_setCell, World.size_drew, Wov_size, World.heap_drewN, Array.size_append]) <;> omega))); have hw1 : Below w.heap.size w w1 := (by refine Below.trans ?_ hx1; (repeat' (first | (with_reducible assumption) | (with_reducible exact Below.refl _ _) | (with_reducible refine below_wov ?_ ?_ _) | (with_reducible refine below_drewN ?_ _) | (with_reducible refine Below.drew ?_) | (with_reducible refine Below.alloc ?_ ?_ _) | (with_reducible refine Below.setCell ?_ ?_ _) | (with_reducible exact Nat.le_refl _) | omega | (simp only [World.size_alloc, World.size_setCell, World.size_drew, Wov_size, World.heap_drewN]; omega)))); rw [bs_size, show cellsB (upT L t) ++ Lib.strCells (bs (oneT z)) = cellsB ((upT L t) ++ oneT z) from cellsB_app _ _, ← List.length_append] at ho1; have HO1 := Lib.hid ho1; clear ho1 hg1 hx1)
            go_roundw
            case rel =>
              refine ⟨t + 1, _, hlt, by go_num, rfl, hw1, ⟨fun k hk => ?_, ?_⟩⟩
              · by_cases e : k = t
                · rw [e, ← HZ.out]; exact HK.out
                · exact HI.out k (by omega)
              · have e : upT L (t + 1) = upT L t ++ oneT z := by rw [HZ.out, H0.out, upT_zero]; exact upT_one (by omega)
                rw [e]; exact HO1.out
            case measure => simp [intOf]; omega
          · have d0 : decide ((0 : Int) < (t : Int)) = true := decide_eq_true (by omega)
            have d1 : decide (0 < t) = true := decide_eq_true (by omega)
            have d2 : 0 < t := by omega
            have HI := Lib.hid hI.out.1
            have HO := Lib.hid hI.out.2
            have HB := Lib.hid hB
            clear h0 hI c0 c1 c2 c3 c4 c5
            go_wp2_with (at_builtin; refine wpList_append_own _ rfl (.tmp 23) (.tmp 24) 48 rfl w.heap.size 5 i0 (.int .u8 0) 1 1 Tryd.underlying48 I1.out I2.out I3.out I4.out rfl (by decide) v _ (cellsB (upT L t)) rfl (rowS_below HO.out (by (repeat' (first | (with_reducible assumption) | (with_reducible exact Below.refl _ _) | (with_reducible refine below_wov ?_ ?_ _) | (with_reducible refine below_drewN ?_ _) | (with_reducible refine Below.drew ?_) | (with_reducible refine Below.alloc ?_ ?_ _) | (with_reducible refine Below.setCell ?_ ?_ _) | (with_reducible exact Nat.le_refl _) | omega | (simp only [World.size_alloc, World.size_setCell, World.size_drew, Wov_size, World.heap_drewN]; omega))))) ⟨_, 0, none⟩ 1 1 (cellsB [32]) rfl rfl ?hn (by intro u hu; simp [cellsB, Lib.strCells, bs] at hu; subst hu; rfl) (by unfold maxLen; omega) (by omega) (by (first | omega | ((simp only [World.size_alloc, World.size_setCell, World.size_drew, Wov_size, World.heap_drewN, Array.size_append]) <;> omega))) ?_; (case hn => (intro j u hj; have hj0 : j = 0 := (by have := (List.getElem?_eq_some_iff.1 hj).1; simp [cellsB_len] at this; exact this); subst hj0; simp [cellsB, Lib.strCells, bs] at hj; subst hj; simp [go_sem])); intro v' w1 ho1 hg1 _; have hx1 := rowS_grown (rowS_below HO.out (by (repeat' (first | (with_reducible assumption) | (with_reducible exact Below.refl _ _) | (with_reducible refine below_wov ?_ ?_ _) | (with_reducible refine below_drewN ?_ _) | (with_reducible refine Below.drew ?_) | (with_reducible refine Below.alloc ?_ ?_ _) | (with_reducible refine Below.setCell ?_ ?_ _) | (with_reducible exact Nat.le_refl _) | omega | (simp only [World.size_alloc, World.size_setCell, World.size_drew, Wov_size, World.heap_drewN]; omega))))) (Below.refl _ _) hg1 (by (first | omega | ((simp only [World.size_alloc, World.size_setCell, World.size_drew, Wov_size, World.heap_drewN, Array.size_append]) <;> omega))); have hw1 : Below w.heap.size w w1 := (by refine Below.trans ?_ hx1; (repeat' (first | (with_reducible assumption) | (with_reducible exact Below.refl _ _) | (with_reducible refine below_wov ?_ ?_ _) | (with_reducible refine below_drewN ?_ _) | (with_reducible refine Below.drew ?_) | (with_reducible refine Below.alloc ?_ ?_ _) | (with_reducible refine Below.setCell ?_ ?_ _) | (with_reducible exact Nat.le_refl _) | omega | (simp only [World.size_alloc, World.size_setCell, World.size_drew, Wov_size, World.heap_drewN]; omega)))); rw [cellsB_app, show (upT L t).length + 1 = (upT L t ++ [32]).length by simp] at ho1; have HO1 := Lib.hid ho1; obtain ⟨c0, c1, c2, c3, c4, c5⟩ := HV.out w1 hw1; have hA1 : A < w1.heap.size := Nat.lt_of_lt_of_le hA hw1.size; clear ho1 hg1 hx1)
            refine (ON.out _).mono ?_; rintro e w' ⟨rfl, q2, rfl⟩
            clear c0 c1 c2 c3 c4 c5
            have hsz1 := hw1.size
            have hlen2 : (upT L t ++ [32]).length ≤ 3000001 := by rw [List.length_append]; simp only [List.length_cons, List.length_nil]; omega
            go_wp2_with (at_builtin; refine Lib.wpList_append_own_string _ rfl (.tmp 26) (.tmp 31) 48 9 rfl w.heap.size 5 i0 Tryd.underlying48 Tryd.underlying9 I1.out I2.out I3.out I4.out v' _ (cellsB (upT L t ++ [32])) rfl (rowS_below HO1.out (by (repeat' (first | (with_reducible assumption) | (with_reducible exact Below.refl _ _) | (with_reducible refine below_wov ?_ ?_ _) | (with_reducible refine below_drewN ?_ _) | (with_reducible refine Below.drew ?_) | (with_reducible refine Below.alloc ?_ ?_ _) | (with_reducible refine Below.setCell ?_ ?_ _) | (with_reducible exact Nat.le_refl _) | omega | (simp only [World.size_alloc, World.size_setCell, World.size_drew, Wov_size, World.heap_drewN]; omega))))) (bs (oneT z)) rfl (by unfold maxLen; omega) (by omega) (by (first | omega | ((simp only [World.size_alloc, World.size_setCell, World.size_drew, Wov_size, World.heap_drewN, Array.size_append]) <;> omega))) ?_; intro v2 w2 ho2 hg2 _; have hx2 := rowS_grown (rowS_below HO1.out (by (repeat' (first | (with_reducible assumption) | (with_reducible exact Below.refl _ _) | (with_reducible refine below_wov ?_ ?_ _) | (with_reducible refine below_drewN ?_ _) | (with_reducible refine Below.drew ?_) | (with_reducible refine Below.alloc ?_ ?_ _) | (with_reducible refine Below.setCell ?_ ?_ _) | (with_reducible exact Nat.le_refl _) | omega | (simp only [World.size_alloc, World.size_setCell, World.size_drew, Wov_size, World.heap_drewN]; omega))))) (Below.refl _ _) hg2 (by (first | omega | ((simp only [World.size_alloc, World.size_setCell, World.size_drew, Wov_size, World.heap_drewN, Array.size_append]) <;> omega))); have hw2 : Below w.heap.size w w2 := (by refine Below.trans ?_ hx2; (repeat' (first | (with_reducible assumption) | (with_reducible exact Below.refl _ _) | (with_reducible refine below_wov ?_ ?_ _) | (with_reducible refine below_drewN ?_ _) | (with_reducible refine Below.drew ?_) | (with_reducible refine Below.alloc ?_ ?_ _) | (with_reducible refine Below.setCell ?_ ?_ _) | (with_reducible exact Nat.le_refl _) | omega | (simp only [World.size_alloc, World.size_setCell, World.size_drew, Wov_size, World.heap_drewN]; omega)))); rw [bs_size, show cellsB (upT L t ++ [32]) ++ Lib.strCells (bs (oneT z)) = cellsB ((upT L t ++ [32]) ++ oneT z) from cellsB_app _ _, ← List.length_append] at ho2; have HO2 := Lib.hid ho2; clear ho2 hg2 hx2)
            go_roundw
            case rel =>
              refine ⟨t + 1, _, hlt, by go_num, rfl, hw2, ⟨fun k hk => ?_, ?_⟩⟩
              · by_cases e : k = t
                · rw [e, ← HZ.out]; exact HK.out
                · exact HI.out k (by omega)
              · have e : upT L (t + 1) = (upT L t ++ [32]) ++ oneT z := by rw [upT_succ hlt' d2, HZ.out, List.append_assoc]
                rw [e]; exact HO2.out
            case measure => simp [intOf]; omega
      · obtain rfl : t = n := by omega
        have hall : L.all okZ = true := by
          rw [List.all_eq_true]
          intro x hx
          obtain ⟨k, hk, rfl⟩ := List.getElem_of_mem hx
          have := hI.out.1 k (by rw [Hn.out]; exact hk)
          rwa [nthZ_eq hk] at this
        have hRR : R = (Lib.join (L.map oneT) [32], 0) := by rw [HR.out]; exact print_ok hall (by rw [← Hn.out]; exact hL)
        have hro := hI.out.2
        have eU : upT L t = Lib.join (L.map oneT) [32] := by unfold upT; rw [List.take_of_length_le (by rw [Hn.out]; exact Nat.le_refl _)]
        have hcv := conv_row hro
        rw [eU] at hcv
        obtain ⟨B, hB9⟩ : ∃ b, b = bs (Lib.join (L.map oneT) [32]) := ⟨_, rfl⟩
        rw [← hB9] at hcv
        have HB9 := Lib.hid hB9
        have HRR := Lib.hid hRR
        clear hRR hro hall eU hI HR CK HS hB9
        go_wp2
        go_ret2
        exact gives_end (by rw [HRR.out, HB9.out]; rfl) (by (repeat' (first | (with_reducible assumption) | (with_reducible exact Below.refl _ _) | (with_reducible refine below_wov ?_ ?_ _) | (with_reducible refine below_drewN ?_ _) | (with_reducible refine Below.drew ?_) | (with_reducible refine Below.alloc ?_ ?_ _) | (with_reducible refine Below.setCell ?_ ?_ _) | (with_reducible exact Nat.le_refl _) | omega | (simp only [World.size_alloc, World.size_setCell, World.size_drew, Wov_size, World.heap_drewN]; omega))))
#print axioms print31_any
end Go.Proofs.YtpaomeilfmeheaaDoor
