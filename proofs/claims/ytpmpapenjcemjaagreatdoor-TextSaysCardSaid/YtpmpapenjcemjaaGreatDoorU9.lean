/- Zones' texts: contract of text.one. No condition but on size, and that strconv.ErrRange lies. -/
import Derived.Test.YtpmpapenjcemjaaGreatDoorU8
import Derived.Test.YtpmpapenjcemjaaGreatDoorU2b
import Derived.Test.YtpmpapenjcemjaaGreatDoorS4
import Derived.Test.YtpmpapenjcemjaaGreatDoorH40
import Derived.Deep.RegionHeld3
import Derived.Deep.Cut
namespace Go.Proofs.YtpmpapenjcemjaaGreatDoor
set_option linter.unusedSimpArgs false
set_option linter.unusedVariables false
open Go Go.RowKit Go.Shelf
attribute [local go_sem] Nat.add_assoc Nat.add_lt_add_iff_left lit_lt_add

theorem pieces_count (l : List UInt8) : (piecesT l).length ≤ l.length := by
  induction l with
  | nil => exact Nat.le_refl _
  | cons x r ih =>
    unfold piecesT
    split
    · simp; exact ih
    · cases h : piecesT r with
      | nil => simp
      | cons p ps => rw [h] at ih; simp at ih ⊢; omega
theorem pieces_mem_len (l p : List UInt8) (h : p ∈ piecesT l) : p.length ≤ l.length := by
  have h1 := pieces_flat l
  have h2 := (List.sublist_flatten_of_mem h).length_le
  rw [h1] at h2
  exact h2
/-- An end's box. -/
structure BoxE (W : World) (A : Nat) (n : Int) (i o : Bool) : Prop where
  lt : A < W.heap.size
  c0 : W.cell? ⟨A, 0, none⟩ = some (.int .i64 n)
  c1 : W.cell? ⟨A, 1, none⟩ = some (.bool i)
  c2 : W.cell? ⟨A, 2, none⟩ = some (.bool o)
  f0 : W.frozen? ⟨A, 0, none⟩ = false
theorem BoxE.below {W V : World} {A : Nat} {n : Int} {i o : Bool} (h : BoxE W A n i o) (hb : Below W.heap.size W V) : BoxE V A n i o :=
  ⟨Nat.lt_of_lt_of_le h.lt hb.size, (hb.cell (p := ⟨A, 0, none⟩) h.lt).trans h.c0, (hb.cell (p := ⟨A, 1, none⟩) h.lt).trans h.c1, (hb.cell (p := ⟨A, 2, none⟩) h.lt).trans h.c2, (World.frozen?_of_block (hb.block A h.lt)).trans h.f0⟩
theorem BoxE.new {W : World} {A : Nat} {n : Int} {i o : Bool} {t : TypeId} (hA : A = W.heap.size) : BoxE (W.alloc (.cells #[.int .i64 n, .bool i, .bool o] t)) A n i o := by
  subst hA
  exact ⟨by simp, by simp [go_sem], by simp [go_sem], by simp [go_sem], by simp [go_sem]⟩
theorem BoxE.other {W : World} {A B x : Nat} {n : Int} {i o : Bool} {v : Value} (h : BoxE W A n i o) (hn : A ≠ B) : BoxE (W.setCell ⟨B, x, none⟩ v) A n i o := by
  have hb : (W.setCell ⟨B, x, none⟩ v).heap[A]? = W.heap[A]? := Below.heap_setCell _ _ _ A hn
  exact ⟨by simp [h.lt], (World.cell?_of_block hb).trans h.c0, (World.cell?_of_block hb).trans h.c1, (World.cell?_of_block hb).trans h.c2, (World.frozen?_of_block hb).trans h.f0⟩
theorem BoxE.set0 {W : World} {A : Nat} {n : Int} {i o : Bool} (h : BoxE W A n i o) (v : Int) : BoxE (W.setCell ⟨A, 0, none⟩ (.int .i64 v)) A v i o := by
  obtain ⟨h0, h1, h2, h3, h4⟩ := h
  exact ⟨by simp [h0], by simp [go_sem, h1], by simp [go_sem, h2], by simp [go_sem, h3], by simp [go_sem, h4]⟩
theorem bndX_fits {x : EndX} (h : fitsX x) : fits64 (bndX x) := by
  unfold fitsX at h
  unfold bndX fits64
  have := noneB_val
  split
  · omega
  · split <;> omega
theorem negX_fits {x : EndX} (h : fitsX x) : fitsX (negX x) := by
  unfold fitsX at h ⊢
  unfold negX
  simp only
  omega
theorem fits_upd {f : Nat → Int} {a : Nat} {v : Int} (h : FitsZ f) (hv : fits64 v) : FitsZ (upd f a v) := by
  intro i hi
  unfold upd
  split
  · exact hv
  · exact h i hi
theorem one_rel {K : List (List UInt8)} {P : List UInt8} {j : Nat} {e g bh bl : Int} {f : Nat → Int} (hP : P = K.getD j [])
    (hI : (e = 0 ∨ e = 151) ∧ (∀ k, k < j → (ivR (K.getD k [])).1 ≠ 170) ∧ (e = 0 ↔ ∀ k, k < j → (ivR (K.getD k [])).1 = 0) ∧ (∀ k, k < j → (ivR (K.getD k [])).1 = 0 → f (2 * k) = (ivR (K.getD k [])).2.2 ∧ f (2 * k + 1) = (ivR (K.getD k [])).2.1))
    (hg : (ivR P).1 = g) (h2 : g = 0 ∨ g = 151) (hv : (ivR P).1 = 0 → bl = (ivR P).2.1 ∧ bh = (ivR P).2.2) :
    (max e g = 0 ∨ max e g = 151) ∧ (∀ k, k < j + 1 → (ivR (K.getD k [])).1 ≠ 170) ∧ (max e g = 0 ↔ ∀ k, k < j + 1 → (ivR (K.getD k [])).1 = 0) ∧ (∀ k, k < j + 1 → (ivR (K.getD k [])).1 = 0 → upd (upd f (2 * j) bh) (2 * j + 1) bl (2 * k) = (ivR (K.getD k [])).2.2 ∧ upd (upd f (2 * j) bh) (2 * j + 1) bl (2 * k + 1) = (ivR (K.getD k [])).2.1) := by
  obtain ⟨i1, i2, i3, i4⟩ := hI
  subst hP
  refine ⟨by omega, fun k hk => ?_, ⟨fun h k hk => ?_, fun h => ?_⟩, fun k hk h0 => ?_⟩
  · by_cases h : k = j
    · subst h; omega
    · exact i2 k (by omega)
  · by_cases h' : k = j
    · subst h'; omega
    · exact i3.1 (by omega) k (by omega)
  · have h1 := i3.2 fun k hk => h k (by omega)
    have h3 := h j (by omega)
    omega
  · unfold upd
    by_cases h : k = j
    · subst h
      obtain ⟨h1, h2⟩ := hv h0
      refine ⟨?_, ?_⟩
      · rw [if_neg (by omega), if_pos rfl]; exact h2
      · rw [if_pos rfl]; exact h1
    · rw [if_neg (by omega), if_neg (by omega), if_neg (by omega), if_neg (by omega)]
      exact i4 k (by omega) h0
theorem one_end {l : List UInt8} {K : List (List UInt8)} {e : Int} {f : Nat → Int} (hK : K = piecesT l) (h3 : K.length = 3)
    (hI : (e = 0 ∨ e = 151) ∧ (∀ k, k < 3 → (ivR (K.getD k [])).1 ≠ 170) ∧ (e = 0 ↔ ∀ k, k < 3 → (ivR (K.getD k [])).1 = 0) ∧ (∀ k, k < 3 → (ivR (K.getD k [])).1 = 0 → f (2 * k) = (ivR (K.getD k [])).2.2 ∧ f (2 * k + 1) = (ivR (K.getD k [])).2.1)) :
    (e = 151 ∧ zoneE l = 151) ∨ (e = 0 ∧ zoneE l = rcode (okZ f) ∧ ∀ i, i < 6 → f i = zoneZ l i) := by
  obtain ⟨i1, i2, i3, i4⟩ := hI
  match K, h3 with
  | [a, b, c], _ =>
    have p0 := i2 0 (by omega)
    have p1 := i2 1 (by omega)
    have p2 := i2 2 (by omega)
    have q0 := i4 0 (by omega)
    have q1 := i4 1 (by omega)
    have q2 := i4 2 (by omega)
    simp only [List.getD_cons_zero, List.getD_cons_succ] at p0 p1 p2 q0 q1 q2
    have hE : zoneE l = if (ivR a).1 = 170 ∨ (ivR b).1 = 170 ∨ (ivR c).1 = 170 then 170
      else if (ivR a).1 = 0 ∧ (ivR b).1 = 0 ∧ (ivR c).1 = 0 then (if okZ (zoneZ l) then 0 else 8) else 151 := by
      unfold zoneE; rw [← hK]
    rw [if_neg (by omega)] at hE
    rcases i1 with he | he
    · right
      have h := i3.1 he
      have h0 := h 0 (by omega)
      have h1 := h 1 (by omega)
      have h2 := h 2 (by omega)
      simp only [List.getD_cons_zero, List.getD_cons_succ] at h0 h1 h2
      obtain ⟨x0, y0⟩ := q0 h0
      obtain ⟨x1, y1⟩ := q1 h1
      obtain ⟨x2, y2⟩ := q2 h2
      have hz : ∀ i, i < 6 → f i = zoneZ l i := by
        intro i hi
        unfold zoneZ
        rw [← hK]
        rcases six hi with rfl | rfl | rfl | rfl | rfl | rfl
        · exact x0
        · exact y0
        · exact x1
        · exact y1
        · exact x2
        · exact y2
      refine ⟨he, ?_, hz⟩
      rw [hE, if_pos ⟨h0, h1, h2⟩, okZ_congr6 hz]
      rfl
    · left
      refine ⟨he, ?_⟩
      rw [hE, if_neg]
      rintro ⟨h0, h1, h2⟩
      have : e = 0 := i3.2 fun k hk => by
        have : k = 0 ∨ k = 1 ∨ k = 2 := by omega
        rcases this with rfl | rfl | rfl
        · exact h0
        · exact h1
        · exact h2
      omega
theorem succ_ne (k : Nat) : ((k : Int) + 1 == 0) = false := by rw [beq_eq_false_iff_ne]; omega
theorem succ_pos0 (k : Nat) : (0 : Int) ≤ (k : Int) + 1 := by omega
theorem succ_cast (k : Nat) : ((k : Int) + 1).toNat = k + 1 := by omega
set_option maxRecDepth 10000 in
set_option maxHeartbeats 4000000 in
theorem tone_any (l : List UInt8) (hl : l.length ≤ 900000) (w : World) (hv : ErrR w) :
    Calls Tryz.prog 34 #[.string (bs l)] w (fun e w' => ∃ z : Nat → Int, Gives w (.tuple #[zoneV z, .int .i64 (zoneE l)]) e w' ∧ FitsZ z ∧ (zoneE l = 0 → ∀ i, i < 6 → z i = zoneZ l i)) := by
  have IA := Lib.hid (fun (r : List UInt8) (h : r.length ≤ 900000) => indexAny_any r (by omega))
  have HV := Lib.hid hv
  have hl0 := hl
  clear hv
  go_enter Tryz.func34, Tryz.ntmps34
  go_wp2_with (fail)
  go_loopw [0, 4, 5] (fun s x _ wr => ∃ (r : List UInt8) (v : Value) (K : List (List UInt8)), s = .string (bs r) ∧ v = x ∧ r.length ≤ 900000 ∧ K.length ≤ 900000 ∧ Below (w.heap.size + 1) (w.alloc (.cells #[.int .i64 0, .int .i64 0, .int .i64 0, .int .i64 0, .int .i64 0, .int .i64 0] 49)) wr ∧ Hid (K ++ piecesT r = piecesT l ∧ wr.ownsRow (w.heap.size + 1) 9 1 v K.length (cellsS K)))
    (fun s _ _ _ => match s with | .string b => b.size | _ => 0)
  case atStart => exact ⟨l, _, [], rfl, rfl, hl, by simp, by simpa using Below.refl _ _, ⟨rfl, World.ownsRow_nil _ _ _ _⟩⟩
  case round =>
    obtain ⟨r, v, K, rfl, rfl, hr, hK, hB, hI⟩ := hrel
    have szr : w.heap.size + 1 ≤ wr.heap.size := by have := hB.size; simpa using this
    by_cases hnil : r = []
    · subst hnil
      have hK2 : K = piecesT l := by
        have h := hI.out.1
        rw [show piecesT [] = [] from rfl, List.append_nil] at h
        exact h
      obtain ⟨pp, cc, hv', hcc, hS⟩ := slS_of_row hI.out.2
      subst hv'
      have hZA : HoldsA wr w.heap.size 6 (fun _ => 0) := ⟨by omega, HoldsI.below (k := w.heap.size + 1) (W := w.alloc (.cells #[.int .i64 0, .int .i64 0, .int .i64 0, .int .i64 0, .int .i64 0, .int .i64 0] 49)) (fun x hx => by
        rcases six hx with rfl | rfl | rfl | rfl | rfl | rfl <;> (constructor <;> simp [go_sem])) hB (by omega)⟩
      have hem : (bs []).toList.isEmpty = true := by rw [Lib.toList_data, bs_list]; rfl
      have hNs : w.heap.size < wr.heap.size := by omega
      have hB0 : Below w.heap.size w wr := Below.trans ((Below.refl _ w).alloc (Nat.le_refl _) _) (hB.mono (Nat.le_succ _))
      obtain ⟨N, hN⟩ : ∃ N, N = w.heap.size := ⟨_, rfl⟩
      have hNw : w.heap.size ≤ N := by omega
      rw [← hN] at hZA hNs ⊢
      have z0 : wr.cell? ⟨N, 0, none⟩ = some (.int .i64 0) := (hZA.holds 0 (by omega)).1
      have z1 : wr.cell? ⟨N, 1, none⟩ = some (.int .i64 0) := (hZA.holds 1 (by omega)).1
      have z2 : wr.cell? ⟨N, 2, none⟩ = some (.int .i64 0) := (hZA.holds 2 (by omega)).1
      have z3 : wr.cell? ⟨N, 3, none⟩ = some (.int .i64 0) := (hZA.holds 3 (by omega)).1
      have z4 : wr.cell? ⟨N, 4, none⟩ = some (.int .i64 0) := (hZA.holds 4 (by omega)).1
      have z5 : wr.cell? ⟨N, 5, none⟩ = some (.int .i64 0) := (hZA.holds 5 (by omega)).1
      have f0 := (hZA.holds 0 (by omega)).2
      have f1 := (hZA.holds 1 (by omega)).2
      have f2 := (hZA.holds 2 (by omega)).2
      have f3 := (hZA.holds 3 (by omega)).2
      have f4 := (hZA.holds 4 (by omega)).2
      have f5 := (hZA.holds 5 (by omega)).2
      by_cases h3 : K.length = 3
      · obtain ⟨A, o, rfl, hA, hcell⟩ := hS.resolve_left (fun h => by rw [h] at h3; cases h3)
        have HC := Lib.hid hcell
        have HB := Lib.hid hB0
        have HN := Lib.hid hN
        have HK := Lib.hid hK2
        have H3 := Lib.hid h3
        have hAN : w.heap.size + 1 ≤ A := by
          rcases hI.out.2.2 with ⟨h, _⟩ | ⟨g, cap, cur, h, hg, _⟩
          · cases h
          · simp only [Value.slice.injEq, Option.some.injEq, Addr.mk.injEq] at h
            omega
        have hNA : ¬ N = A := by omega
        rw [h3]
        have hPL : Hid (∀ j, j < 3 → wr.cell? ⟨A, o + j, none⟩ = some (.string (bs (K.getD j []))) ∧ (K.getD j []).length ≤ 900000) := fun j hj => by
          have hj' : j < K.length := by rw [H3.out]; exact hj
          have hx : K[j]? = some (K.getD j []) := by rw [List.getD_eq_getElem?_getD, List.getElem?_eq_getElem hj']; rfl
          refine ⟨hcell j _ hx, ?_⟩
          have hm := pieces_mem_len l (K.getD j []) (by rw [← hK2]; exact List.mem_of_getElem? hx)
          omega
        clear hI hK2 hS hcell hB hB0 hN h3 z0 z1 z2 z3 z4 z5 f0 f1 f2 f3 f4 f5
        obtain ⟨W1, rfl⟩ : ∃ W, W = wr := ⟨_, rfl⟩
        go_wp2_with (fail)
        go_loopw [3, 6, 7, 8, 9, 10, 35] (fun s3 _ _ _ _ _ s35 V => ∃ (j : Nat) (e : Int) (f : Nat → Int), j ≤ 3 ∧ s3 = .int .i64 e ∧ s35 = .int .i64 j ∧ Below w.heap.size w V ∧ Chg W1 N V ∧ HoldsA V N 6 f ∧ FitsZ f ∧ Hid ((e = 0 ∨ e = 151) ∧ (∀ k, k < j → (ivR (K.getD k [])).1 ≠ 170) ∧ (e = 0 ↔ ∀ k, k < j → (ivR (K.getD k [])).1 = 0) ∧ (∀ k, k < j → (ivR (K.getD k [])).1 = 0 → f (2 * k) = (ivR (K.getD k [])).2.2 ∧ f (2 * k + 1) = (ivR (K.getD k [])).2.1)))
          (fun _ _ _ _ _ _ s35 _ => 3 - (intOf s35).toNat)
        case atStart =>
          exact ⟨0, 0, fun _ => 0, by omega, rfl, rfl, HB.out, Chg.refl _ _, hZA, fun i _ => (by decide : fits64 0), ⟨.inl rfl, fun k hk => by omega, ⟨fun _ k hk => by omega, fun _ => rfl⟩, fun k hk => by omega⟩⟩
        case round =>
          obtain ⟨j, e, f, hj, rfl, rfl, hBV, hCh, hZ, hF, hI⟩ := hrel
          by_cases hlt : j < 3
          · obtain ⟨hpc, hpl⟩ := hPL.out j hlt
            obtain ⟨P, hP⟩ : ∃ P, P = K.getD j [] := ⟨_, rfl⟩
            rw [← hP] at hpc hpl
            have cP : wr.cell? ⟨A, o + j, none⟩ = some (.string (bs P)) := (World.cell?_of_block (hCh.block A hA (fun h => hNA h.symm))).trans hpc
            have hAV : A < wr.heap.size := Nat.lt_of_lt_of_le hA hCh.size
            have IV := Lib.hid (tinterval_any P (by omega) wr (HV.out.below hBV))
            have IR := Lib.hid (ivE_ivR P)
            obtain ⟨⟨⟨x1, x2, x3⟩, ⟨y1, y2, y3⟩, g⟩, hR⟩ : ∃ R, R = ivE P := ⟨_, rfl⟩
            rw [← hR] at IV IR
            have jn : (0 : Int) ≤ (j : Int) := by omega
            have j3 : (j : Int) < 3 := by omega
            have HP := Lib.hid hP
            have HI := Lib.hid hI
            clear hpc hP hR hI hPL
            unfold ivV xEndV end3 at IV
            go_wp2_with (fail)
            refine IV.out.mono ?_; rintro e' w' ⟨rfl, q1, rfl⟩
            go_upto_region 13 with (fail)
            obtain ⟨Lo, hLo⟩ : ∃ L, L = wr.heap.size + q1.bl.size := ⟨_, rfl⟩
            obtain ⟨Hi, hHi⟩ : ∃ L, L = wr.heap.size + (q1.bl.size + 1) := ⟨_, rfl⟩
            rw [← hLo, ← hHi]
            have hNr := hZ.lt
            have szr2 := hBV.size
            refine wp_world (fun W => Below w.heap.size w W ∧ Chg W1 N W ∧ HoldsA W N 6 f ∧ BoxE W Lo x1 x2 x3 ∧ BoxE W Hi y1 y2 y3) ⟨by (repeat' (first | (with_reducible assumption) | (with_reducible exact Below.refl _ _) | (with_reducible refine below_wov ?_ ?_ _) | (with_reducible refine below_drewN ?_ _) | (with_reducible refine Below.drew ?_) | (with_reducible refine Below.alloc ?_ ?_ _) | (with_reducible refine Below.setCell ?_ ?_ _) | (with_reducible exact Nat.le_refl _) | omega | (simp only [World.size_alloc, World.size_setCell, World.size_drew, Wov_size, World.heap_drewN]; omega))), hCh.trans (Chg.of_below (by (repeat' (first | (with_reducible assumption) | (with_reducible exact Below.refl _ _) | (with_reducible refine below_wov ?_ ?_ _) | (with_reducible refine below_drewN ?_ _) | (with_reducible refine Below.drew ?_) | (with_reducible refine Below.alloc ?_ ?_ _) | (with_reducible refine Below.setCell ?_ ?_ _) | (with_reducible exact Nat.le_refl _) | omega | (simp only [World.size_alloc, World.size_setCell, World.size_drew, Wov_size, World.heap_drewN]; omega))))), hZ.below (by (repeat' (first | (with_reducible assumption) | (with_reducible exact Below.refl _ _) | (with_reducible refine below_wov ?_ ?_ _) | (with_reducible refine below_drewN ?_ _) | (with_reducible refine Below.drew ?_) | (with_reducible refine Below.alloc ?_ ?_ _) | (with_reducible refine Below.setCell ?_ ?_ _) | (with_reducible exact Nat.le_refl _) | omega | (simp only [World.size_alloc, World.size_setCell, World.size_drew, Wov_size, World.heap_drewN]; omega)))), ?b1, ?b2⟩ ?_
            case b1 => exact (BoxE.new (W := Wov wr q1) (A := Lo) (n := x1) (i := x2) (o := x3) (t := 125) (by rw [hLo, Wov_size])).below ((Below.refl _ _).alloc (Nat.le_refl _) _)
            case b2 => exact BoxE.new (W := (Wov wr q1).alloc (.cells #[.int .i64 x1, .bool x2, .bool x3] 125)) (A := Hi) (n := y1) (i := y2) (o := y3) (t := 125) (by rw [hHi]; simp [Nat.add_assoc, Wov_size])
            rintro V2 ⟨hB2, hCh2, hZ2, hLB, hHB⟩
            have nL : ¬ N = Lo := by omega
            have nL' : ¬ Lo = N := by omega
            have nH : ¬ N = Hi := by omega
            have nH' : ¬ Hi = N := by omega
            have nM : ¬ Lo = Hi := by omega
            have nM' : ¬ Hi = Lo := by omega
            have wL : w.heap.size ≤ Lo := by omega
            have wH : w.heap.size ≤ Hi := by omega
            have wL1 : W1.heap.size ≤ Lo := by have := hCh.size; omega
            have HZ2 := Lib.hid hZ2
            have HLB := Lib.hid hLB
            have HHB := Lib.hid hHB
            have HB2 := Lib.hid hB2
            have HC2 := Lib.hid hCh2
            have sN := hZ2.lt
            have sV := hB2.size
            have a0 := (hZ2.holds 0 (by omega)).1
            have a1 := (hZ2.holds 1 (by omega)).1
            have a2 := (hZ2.holds 2 (by omega)).1
            have a3 := (hZ2.holds 3 (by omega)).1
            have a4 := (hZ2.holds 4 (by omega)).1
            have a5 := (hZ2.holds 5 (by omega)).1
            have f0 := (hZ2.holds 0 (by omega)).2
            have f1 := (hZ2.holds 1 (by omega)).2
            have f2 := (hZ2.holds 2 (by omega)).2
            have f3 := (hZ2.holds 3 (by omega)).2
            have f4 := (hZ2.holds 4 (by omega)).2
            have f5 := (hZ2.holds 5 (by omega)).2
            clear hLo hHi hZ hBV hCh hAV hB2 hCh2 hZ2 hLB hHB IV cP hA HV szr szr2 hNr hpl
            by_cases hg : g = 170
            · have hz : zoneE l = 170 := by
                have h1 := IR.out.1
                rw [hg] at h1
                unfold zoneE
                rw [← HK.out]
                have h3 := H3.out
                have hP := HP.out
                match K, h3 with
                | [a, b, c], _ =>
                  refine (if_pos (c := (ivR a).1 = 170 ∨ (ivR b).1 = 170 ∨ (ivR c).1 = 170) ?_)
                  rcases (show j = 0 ∨ j = 1 ∨ j = 2 by omega) with rfl | rfl | rfl
                  · exact .inl (by rw [show a = P from hP.symm]; exact h1.symm)
                  · exact .inr (.inl (by rw [show b = P from hP.symm]; exact h1.symm))
                  · exact .inr (.inr (by rw [show c = P from hP.symm]; exact h1.symm))
              have HZ := Lib.hid hz
              subst hg
              clear hz IR HI HP HK H3 HLB HHB HC2 nL nL' nH nH' nM nM' IA
              go_wp2_with (fail)
              refine bodyPost_ret (by simp [results, Tryz.results34, go_sem, a0, a1, a2, a3, a4, a5]; try rfl) rfl ?_
              exact ⟨f, gives_end (by rw [HZ.out]; rfl) (by have := HB2.out; (repeat' (first | (with_reducible assumption) | (with_reducible exact Below.refl _ _) | (with_reducible refine below_wov ?_ ?_ _) | (with_reducible refine below_drewN ?_ _) | (with_reducible refine Below.drew ?_) | (with_reducible refine Below.alloc ?_ ?_ _) | (with_reducible refine Below.setCell ?_ ?_ _) | (with_reducible exact Nat.le_refl _) | omega | (simp only [World.size_alloc, World.size_setCell, World.size_drew, Wov_size, World.heap_drewN]; omega)))), hF, fun h => by rw [HZ.out] at h; exact absurd h (by decide)⟩
            · have dg : (g == 170) = false := by rw [beq_eq_false_iff_ne]; exact hg
              have l0 := HLB.out.c0
              have l1 := HLB.out.c1
              have l2 := HLB.out.c2
              have lf := HLB.out.f0
              have h0 := HHB.out.c0
              have h1 := HHB.out.c1
              have h2 := HHB.out.c2
              have fx1 : -2305843009213693952 ≤ x1 ∧ x1 ≤ 2305843009213693952 := IR.out.2.2.1
              have fy1 : -2305843009213693952 ≤ y1 ∧ y1 ≤ 2305843009213693952 := IR.out.2.2.2.1
              have hneg : wrap64 (-x1) = -x1 := wrap64_id (by omega) (by omega)
              have BH := Lib.hid (bound_any y1 y2 y3 fy1.1 fy1.2)
              have BL := Lib.hid (bound_any (-x1) x2 x3 (by omega) (by omega))
              unfold end3 at BH BL
              obtain ⟨bh, hbh⟩ : ∃ b, b = bndX (y1, y2, y3) := ⟨_, rfl⟩
              obtain ⟨bl, hbl⟩ : ∃ b, b = bndX (-x1, x2, x3) := ⟨_, rfl⟩
              rw [← hbh] at BH
              rw [← hbl] at BL
              have HBH := Lib.hid hbh
              have HBL := Lib.hid hbl
              obtain ⟨nx, hnx⟩ : ∃ n, n = -x1 := ⟨_, rfl⟩
              rw [← hnx] at BL
              replace hneg : wrap64 (-x1) = nx := hneg.trans hnx.symm
              have HNX := Lib.hid hnx
              have HG := Lib.hid hg
              obtain ⟨mg, hmg⟩ : ∃ m, m = max e g := ⟨_, rfl⟩
              have HMG := Lib.hid hmg
              clear hbh hbl fx1 fy1 hg hmg hnx
              go_upto_region 16 with (fail)
              rw [← HMG.out]
              go_upto_region 17 with (fail)
              clear a0 a1 a2 a3 a4 a5 f0 f1 f2 f3 f4 f5 l0 l1 l2 lf h0 h1 h2
              refine wp_world (fun W => Below w.heap.size w W ∧ Chg W1 N W ∧ HoldsA W N 6 f ∧ BoxE W Lo nx x2 x3 ∧ BoxE W Hi y1 y2 y3) ⟨by have := HB2.out; (repeat' (first | (with_reducible assumption) | (with_reducible exact Below.refl _ _) | (with_reducible refine below_wov ?_ ?_ _) | (with_reducible refine below_drewN ?_ _) | (with_reducible refine Below.drew ?_) | (with_reducible refine Below.alloc ?_ ?_ _) | (with_reducible refine Below.setCell ?_ ?_ _) | (with_reducible exact Nat.le_refl _) | omega | (simp only [World.size_alloc, World.size_setCell, World.size_drew, Wov_size, World.heap_drewN]; omega))), ?c1, ?c2, ?c3, ?c4⟩ ?_
              case c1 => exact ⟨HC2.out.os, HC2.out.tape, HC2.out.output, by have := HC2.out.size; simp; omega, fun k hk hN => (Below.heap_setCell _ _ _ k (by show k ≠ Lo; omega)).trans (HC2.out.block k hk hN)⟩
              case c2 => exact holdsA_chg HZ2.out (Chg.set V2 Lo 0 _) nL
              case c3 => exact HLB.out.set0 nx
              case c4 => exact HHB.out.other nM'
              rintro V3 ⟨hB3, hCh3, hZ3, hLB3, hHB3⟩
              have l0 := hLB3.c0
              have l1 := hLB3.c1
              have l2 := hLB3.c2
              have h0 := hHB3.c0
              have h1 := hHB3.c1
              have h2 := hHB3.c2
              have HB3 := Lib.hid hB3
              have HC3 := Lib.hid hCh3
              have HZ3 := Lib.hid hZ3
              have sN3 := hZ3.lt
              have sL3 := hLB3.lt
              have sH3 := hHB3.lt
              clear hB3 hCh3 hLB3 hHB3
              obtain ⟨m, hm⟩ : ∃ m : Nat, m = 2 * j := ⟨_, rfl⟩
              have a0 := (hZ3.holds m (by omega)).1
              have a1 := (hZ3.holds (m + 1) (by omega)).1
              have f0 := (hZ3.holds m (by omega)).2
              have f1 := (hZ3.holds (m + 1) (by omega)).2
              have m0 : (0 : Int) ≤ (m : Int) := by omega
              have m6 : (m : Int) < 6 := by omega
              have n6 : m < 6 := by omega
              have m7 : (m : Int) + 1 < 6 := by omega
              have n7 : m + 1 < 6 := by omega
              have m8 : (0 : Int) ≤ (m : Int) + 1 := by omega
              have wm : IntKind.i64.wrap (2 * (j : Int)) = (m : Int) := by rw [IntKind.wrap_i64]; omega
              have wm1 : IntKind.i64.wrap ((m : Int) + 1) = (m : Int) + 1 := by rw [IntKind.wrap_i64]; omega
              have tm1 : ((m : Int) + 1).toNat = m + 1 := by omega
              have HM := Lib.hid hm
              clear hZ3 hm
              go_region_held3 (fun w' => w'.cell? ⟨Lo, 0, none⟩ = some (.int .i64 nx) ∧ w'.cell? ⟨Lo, 1, none⟩ = some (.bool x2) ∧ w'.cell? ⟨Lo, 2, none⟩ = some (.bool x3) ∧ w'.cell? ⟨Hi, 0, none⟩ = some (.int .i64 y1) ∧ w'.cell? ⟨Hi, 1, none⟩ = some (.bool y2) ∧ w'.cell? ⟨Hi, 2, none⟩ = some (.bool y3))
                  ((simp [go_sem, *]))
                  (first
                  | (go_at_call_of 69 (Value.agg #[Value.int IntKind.i64 y1, Value.bool y2, Value.bool y3]); (refine (BH.out _).mono ?_); rintro e w' ⟨rfl, qa, rfl⟩)
                  | (go_at_call_of 69 (Value.agg #[Value.int IntKind.i64 nx, Value.bool x2, Value.bool x3]); (refine (BL.out _).mono ?_); rintro e w' ⟨rfl, qb, rfl⟩))
              all_goals
                go_wp2_with (fail)
                go_roundw
                case rel =>
                  refine ⟨j + 1, mg, upd (upd f m bh) (m + 1) bl, by omega, rfl, by go_num, by have := HB3.out; (repeat' (first | (with_reducible assumption) | (with_reducible exact Below.refl _ _) | (with_reducible refine below_wov ?_ ?_ _) | (with_reducible refine below_drewN ?_ _) | (with_reducible refine Below.drew ?_) | (with_reducible refine Below.alloc ?_ ?_ _) | (with_reducible refine Below.setCell ?_ ?_ _) | (with_reducible exact Nat.le_refl _) | omega | (simp only [World.size_alloc, World.size_setCell, World.size_drew, Wov_size, World.heap_drewN]; omega))), ((HC3.out.trans (Chg.wov _ _ _)).trans (Chg.set _ _ _ _)).trans (Chg.set _ _ _ _), ⟨by simp only [World.size_setCell, Wov_size]; omega, ?_⟩, ?_, ?_⟩
                  · exact HoldsI.set (W := (Wov V3 { bl := qa.bl ++ qb.bl, dr := qb.dr }).setCell ⟨N, m, none⟩ (.int .i64 bh)) (HoldsI.set (W := Wov V3 { bl := qa.bl ++ qb.bl, dr := qb.dr }) (HZ3.out.below (below_Wov _ _)).holds (by omega) bh) (by omega) bl
                  · exact fits_upd (fits_upd hF (by rw [HBH.out]; exact bndX_fits IR.out.2.2.2.1)) (by rw [HBL.out]; exact bndX_fits (negX_fits IR.out.2.2.1))
                  · show _ ∧ _
                    rw [HMG.out, HM.out]
                    refine one_rel HP.out HI.out IR.out.1.symm ?_ fun h0 => ?_
                    · rcases IR.out.2.2.2.2 with h | h | h
                      · exact .inl h
                      · exact .inr h
                      · exact absurd h HG.out
                    · obtain ⟨e1, e2⟩ := IR.out.2.1 h0
                      exact ⟨by rw [HBL.out]; exact e1, by rw [HBH.out]; exact e2⟩
                case measure => simp [intOf]; omega
          · obtain rfl : j = 3 := by omega
            have hE := one_end HK.out H3.out hI.out
            have a0 := (hZ.holds 0 (by omega)).1
            have a1 := (hZ.holds 1 (by omega)).1
            have a2 := (hZ.holds 2 (by omega)).1
            have a3 := (hZ.holds 3 (by omega)).1
            have a4 := (hZ.holds 4 (by omega)).1
            have a5 := (hZ.holds 5 (by omega)).1
            have f0 := (hZ.holds 0 (by omega)).2
            have f1 := (hZ.holds 1 (by omega)).2
            have f2 := (hZ.holds 2 (by omega)).2
            have f3 := (hZ.holds 3 (by omega)).2
            have f4 := (hZ.holds 4 (by omega)).2
            have f5 := (hZ.holds 5 (by omega)).2
            have sN := hZ.lt
            have HBV := Lib.hid hBV
            have CK : Hid (∀ w, Calls Tryz.prog 37 #[.agg #[.int .i64 (f 0), .int .i64 (f 1), .int .i64 (f 2), .int .i64 (f 3), .int .i64 (f 4), .int .i64 (f 5)]] w (Gives w (.int .i64 (rcode (okZ f))))) := fun w => zcheck_any f w hF
            clear hZ hBV hCh hI hPL hA IA
            rcases hE with ⟨rfl, hz⟩ | ⟨rfl, hz, hzz⟩
            · have HZ := Lib.hid hz
              clear hz CK HK H3
              go_wp2_with (fail)
              refine bodyPost_ret (by simp [results, Tryz.results34, go_sem, a0, a1, a2, a3, a4, a5]; try rfl) rfl ?_
              exact ⟨f, gives_end (by rw [HZ.out]; rfl) (by have := HBV.out; (repeat' (first | (with_reducible assumption) | (with_reducible exact Below.refl _ _) | (with_reducible refine below_wov ?_ ?_ _) | (with_reducible refine below_drewN ?_ _) | (with_reducible refine Below.drew ?_) | (with_reducible refine Below.alloc ?_ ?_ _) | (with_reducible refine Below.setCell ?_ ?_ _) | (with_reducible exact Nat.le_refl _) | omega | (simp only [World.size_alloc, World.size_setCell, World.size_drew, Wov_size, World.heap_drewN]; omega)))), hF, fun h => by rw [HZ.out] at h; exact absurd h (by decide)⟩
            · have HZ := Lib.hid hz
              have HZZ := Lib.hid hzz
              clear hz hzz HK H3
              go_wp2_with (fail)
              refine (CK.out _).mono ?_; rintro e' w' ⟨rfl, q1, rfl⟩
              go_wp2_with (fail)
              refine bodyPost_ret (by simp [results, Tryz.results34, go_sem, a0, a1, a2, a3, a4, a5]; try rfl) rfl ?_
              exact ⟨f, gives_end (by rw [HZ.out]; rfl) (by have := HBV.out; (repeat' (first | (with_reducible assumption) | (with_reducible exact Below.refl _ _) | (with_reducible refine below_wov ?_ ?_ _) | (with_reducible refine below_drewN ?_ _) | (with_reducible refine Below.drew ?_) | (with_reducible refine Below.alloc ?_ ?_ _) | (with_reducible refine Below.setCell ?_ ?_ _) | (with_reducible exact Nat.le_refl _) | omega | (simp only [World.size_alloc, World.size_setCell, World.size_drew, Wov_size, World.heap_drewN]; omega)))), hF, fun _ => HZZ.out⟩
      · have hz : zoneE l = 170 := by
          unfold zoneE
          rw [← hK2]
          match K, h3 with
          | [], _ => rfl
          | [_], _ => rfl
          | [_, _], _ => rfl
          | [_, _, _], h => exact absurd rfl h
          | _ :: _ :: _ :: _ :: _, _ => rfl
        obtain ⟨n, hn⟩ : ∃ n, n = K.length := ⟨_, rfl⟩
        rw [← hn] at h3 ⊢
        have hd : ((n : Int) != 3) = true := by rw [bne_iff_ne]; omega
        have HZ := Lib.hid hz
        have HB := Lib.hid hB
        have HN := Lib.hid hN
        clear hI hK2 hS hn h3 hz hZA hB hN
        go_wp2_with (fail)
        refine bodyPost_ret (by simp [results, Tryz.results34, go_sem, z0, z1, z2, z3, z4, z5]; try rfl) rfl ?_
        exact ⟨fun _ => 0, gives_end (by rw [HZ.out]; rfl) (by (repeat' (first | (with_reducible assumption) | (with_reducible exact Below.refl _ _) | (with_reducible refine below_wov ?_ ?_ _) | (with_reducible refine below_drewN ?_ _) | (with_reducible refine Below.drew ?_) | (with_reducible refine Below.alloc ?_ ?_ _) | (with_reducible refine Below.setCell ?_ ?_ _) | (with_reducible exact Nat.le_refl _) | omega | (simp only [World.size_alloc, World.size_setCell, World.size_drew, Wov_size, World.heap_drewN]; omega)))), fun i _ => (by decide : fits64 0), fun h => by rw [HZ.out] at h; exact absurd h (by decide)⟩
    · have HO : Hid (wr.ownsRow (w.heap.size + 1) 9 1 v K.length (cellsS K)) := hI.out.2
      have hps := pieces_step r hnil
      have hpn := pieceN_le r hnil
      have IAr := IA.out r hr
      have hq : r.isEmpty = false := by cases r with
        | nil => exact absurd rfl hnil
        | cons => rfl
      have e1 : (bs r).extract 0 (pieceN r) = bs (r.take (pieceN r)) := by rw [Lib.extract_eq, bs_list]; simp
      have e2 : (bs r).extract (pieceN r) (bs r).size = bs (r.drop (pieceN r)) := by
        rw [Lib.extract_eq, bs_list, bs_size]
        congr 2
        rw [List.take_of_length_le (by rw [List.length_drop]; omega)]
      have hD : (r.drop (pieceN r)).length < r.length := by rw [List.length_drop]; omega
      have hKl : K.length + 1 ≤ 900000 := by
        have h1 := congrArg List.length hI.out.1
        rw [hps] at h1
        have h2 := pieces_count l
        simp at h1
        omega
      obtain ⟨T, hT⟩ : ∃ T, T = r.take (pieceN r) := ⟨_, rfl⟩
      obtain ⟨D, hDD⟩ : ∃ D, D = r.drop (pieceN r) := ⟨_, rfl⟩
      have HP : Hid (K ++ ([T] ++ piecesT D) = piecesT l) := by
        show _ = _
        rw [← hI.out.1, hps, hT, hDD]; rfl
      rw [← hT] at e1
      rw [← hDD] at e2 hD
      rcases indexAny_cases [41, 93] r with ⟨hm, _⟩ | ⟨p, x, r', hrp, _, _, hm⟩
      · rw [hm] at IAr
        have hpl : pieceN r = r.length := by unfold pieceN; rw [if_pos hm]
        obtain ⟨k, hk⟩ : ∃ k, k = pieceN r := ⟨_, rfl⟩
        have hsz : (bs r).size = k := by rw [bs_size, hk, hpl]
        have hk0 : (k : Int) ≤ 9223372036854775807 := by omega
        rw [← hk, hsz] at e2
        rw [← hk] at e1
        have hDn : D = [] := by rw [hDD, ← hk, List.drop_eq_nil_iff]; omega
        clear e2
        obtain ⟨S, hS⟩ : ∃ S, S = bs r := ⟨_, rfl⟩
        have hSl : Hid (S.size = r.length) := by rw [hS]; exact bs_size r
        rw [← hS] at IAr e1 hsz ⊢
        have hqS : S.toList.isEmpty = false := by rw [hS, Lib.toList_data, bs_list]; exact hq
        have IAh := Lib.hid IAr
        clear hI hps hpn hm hT hDD hk hpl hS IA IAr
        subst hDn
        go_wp2_with (fail)
        refine (IAh.out _).mono ?_; rintro e w' ⟨rfl, q1, rfl⟩
        go_wp2_with (fail)
        go_region_held3 (fun w' => wr.heap.size ≤ w'.heap.size)
          ((first | assumption | omega | (simp only [World.size_alloc, Wov_size, World.size_drew]; omega)))
          (first | (refine step_appS _ _ rfl (.tmp 20) (.tmp 24) rfl rfl v K [T] rfl (rowS_below HO.out (by (repeat' (first | (with_reducible assumption) | (with_reducible exact Below.refl _ _) | (with_reducible refine below_wov ?_ ?_ _) | (with_reducible refine below_drewN ?_ _) | (with_reducible refine Below.drew ?_) | (with_reducible refine Below.alloc ?_ ?_ _) | (with_reducible refine Below.setCell ?_ ?_ _) | (with_reducible exact Nat.le_refl _) | omega | (simp only [World.size_alloc, World.size_setCell, World.size_drew, Wov_size, World.heap_drewN]; omega))))) ⟨_, 0, none⟩ 1 rfl ?hR (by simp; omega) (by (first | omega | ((simp only [World.size_alloc, World.size_setCell, World.size_drew, Wov_size, World.heap_drewN, Array.size_append]) <;> omega))) ?_; (case hR => (intro j y hy; have hj : j = 0 := (by have := (List.getElem?_eq_some_iff.1 hy).1; simpa using this); subst hj; simp only [List.getElem?_cons_zero, Option.some.injEq] at hy; rw [← hy]; simp [go_sem])); intro v1 w1 ho1 hg1; have hx1 := rowS_grown (n := w.heap.size + 1) (rowS_below HO.out (by (repeat' (first | (with_reducible assumption) | (with_reducible exact Below.refl _ _) | (with_reducible refine below_wov ?_ ?_ _) | (with_reducible refine below_drewN ?_ _) | (with_reducible refine Below.drew ?_) | (with_reducible refine Below.alloc ?_ ?_ _) | (with_reducible refine Below.setCell ?_ ?_ _) | (with_reducible exact Nat.le_refl _) | omega | (simp only [World.size_alloc, World.size_setCell, World.size_drew, Wov_size, World.heap_drewN]; omega))))) (Below.refl _ _) hg1 (by (first | omega | ((simp only [World.size_alloc, World.size_setCell, World.size_drew, Wov_size, World.heap_drewN, Array.size_append]) <;> omega))); have hw1 : Below (w.heap.size + 1) (w.alloc (.cells #[.int .i64 0, .int .i64 0, .int .i64 0, .int .i64 0, .int .i64 0, .int .i64 0] 49)) w1 := (by refine Below.trans ?_ hx1; (repeat' (first | (with_reducible assumption) | (with_reducible exact Below.refl _ _) | (with_reducible refine below_wov ?_ ?_ _) | (with_reducible refine below_drewN ?_ _) | (with_reducible refine Below.drew ?_) | (with_reducible refine Below.alloc ?_ ?_ _) | (with_reducible refine Below.setCell ?_ ?_ _) | (with_reducible exact Nat.le_refl _) | omega | (simp only [World.size_alloc, World.size_setCell, World.size_drew, Wov_size, World.heap_drewN]; omega)))); have hz1 : wr.heap.size ≤ w1.heap.size := (by have hz0 := hg1.size; simp only [World.size_alloc, Wov_size, World.size_drew] at hz0; omega); have HO1 := Lib.hid ho1; clear ho1 hg1 hx1))
        all_goals
          go_wp2_with (fail)
          go_roundw
          case rel =>
            refine ⟨([] : List UInt8), _, K ++ [T], rfl, rfl, by omega, by simp; omega, hw1, ⟨by rw [List.append_assoc]; exact HP.out, HO1.out⟩⟩
          case measure => (have hq1 := hSl.out; have hq2 : ByteArray.empty.size = 0 := rfl; (try simp only [bs_size]); omega)
      · rw [hm] at IAr
        have hpl : pieceN r = p.length + 1 := by unfold pieceN; rw [hm, if_neg (by omega)]; omega
        obtain ⟨k, hk⟩ : ∃ k, k = p.length := ⟨_, rfl⟩
        rw [hpl, ← hk] at e1 e2 hpn
        rw [← hk] at IAr
        obtain ⟨S, hS⟩ : ∃ S, S = bs r := ⟨_, rfl⟩
        have hSl : Hid (S.size = r.length) := by rw [hS]; exact bs_size r
        rw [← hS] at IAr e1 e2 ⊢
        have hqS : S.toList.isEmpty = false := by rw [hS, Lib.toList_data, bs_list]; exact hq
        have hks : k + 1 ≤ S.size := by rw [hSl.out]; omega
        have hks2 : 1 + k ≤ S.size := by omega
        have hks3 : k < S.size := by omega
        have hks4 : ¬ S.size < k + 1 := by omega
        have hks5 : (k : Int) + 1 ≤ (S.size : Int) := by omega
        have hks6 : (k : Int) < (S.size : Int) := by omega
        have e1' : S.extract 0 (1 + k) = bs T := by rw [Nat.add_comm 1 k]; exact e1
        have e2' : S.extract (1 + k) S.size = bs D := by rw [Nat.add_comm 1 k]; exact e2
        have hw1 : wrap64 ((k : Int) + 1) = (k : Int) + 1 := wrap64_id (by omega) (by omega)
        have hn0 : ((k : Int) + 1 == 0) = false := succ_ne k
        have hk0 : (0 : Int) ≤ (k : Int) + 1 := succ_pos0 k
        have hcast : ((k : Int) + 1).toNat = k + 1 := succ_cast k
        have IAh := Lib.hid IAr
        clear hI hps hpn hm hT hDD hk hpl hS IA IAr hrp
        go_wp2_with (fail)
        refine (IAh.out _).mono ?_; rintro e w' ⟨rfl, q1, rfl⟩
        go_wp2_with (fail)
        go_region_held3 (fun w' => wr.heap.size ≤ w'.heap.size)
          ((first | assumption | omega | (simp only [World.size_alloc, Wov_size, World.size_drew]; omega)))
          (first | (refine step_appS _ _ rfl (.tmp 20) (.tmp 24) rfl rfl v K [T] rfl (rowS_below HO.out (by (repeat' (first | (with_reducible assumption) | (with_reducible exact Below.refl _ _) | (with_reducible refine below_wov ?_ ?_ _) | (with_reducible refine below_drewN ?_ _) | (with_reducible refine Below.drew ?_) | (with_reducible refine Below.alloc ?_ ?_ _) | (with_reducible refine Below.setCell ?_ ?_ _) | (with_reducible exact Nat.le_refl _) | omega | (simp only [World.size_alloc, World.size_setCell, World.size_drew, Wov_size, World.heap_drewN]; omega))))) ⟨_, 0, none⟩ 1 rfl ?hR (by simp; omega) (by (first | omega | ((simp only [World.size_alloc, World.size_setCell, World.size_drew, Wov_size, World.heap_drewN, Array.size_append]) <;> omega))) ?_; (case hR => (intro j y hy; have hj : j = 0 := (by have := (List.getElem?_eq_some_iff.1 hy).1; simpa using this); subst hj; simp only [List.getElem?_cons_zero, Option.some.injEq] at hy; rw [← hy]; simp [go_sem])); intro v1 w1 ho1 hg1; have hx1 := rowS_grown (n := w.heap.size + 1) (rowS_below HO.out (by (repeat' (first | (with_reducible assumption) | (with_reducible exact Below.refl _ _) | (with_reducible refine below_wov ?_ ?_ _) | (with_reducible refine below_drewN ?_ _) | (with_reducible refine Below.drew ?_) | (with_reducible refine Below.alloc ?_ ?_ _) | (with_reducible refine Below.setCell ?_ ?_ _) | (with_reducible exact Nat.le_refl _) | omega | (simp only [World.size_alloc, World.size_setCell, World.size_drew, Wov_size, World.heap_drewN]; omega))))) (Below.refl _ _) hg1 (by (first | omega | ((simp only [World.size_alloc, World.size_setCell, World.size_drew, Wov_size, World.heap_drewN, Array.size_append]) <;> omega))); have hw1 : Below (w.heap.size + 1) (w.alloc (.cells #[.int .i64 0, .int .i64 0, .int .i64 0, .int .i64 0, .int .i64 0, .int .i64 0] 49)) w1 := (by refine Below.trans ?_ hx1; (repeat' (first | (with_reducible assumption) | (with_reducible exact Below.refl _ _) | (with_reducible refine below_wov ?_ ?_ _) | (with_reducible refine below_drewN ?_ _) | (with_reducible refine Below.drew ?_) | (with_reducible refine Below.alloc ?_ ?_ _) | (with_reducible refine Below.setCell ?_ ?_ _) | (with_reducible exact Nat.le_refl _) | omega | (simp only [World.size_alloc, World.size_setCell, World.size_drew, Wov_size, World.heap_drewN]; omega)))); have hz1 : wr.heap.size ≤ w1.heap.size := (by have hz0 := hg1.size; simp only [World.size_alloc, Wov_size, World.size_drew] at hz0; omega); have HO1 := Lib.hid ho1; clear ho1 hg1 hx1))
        all_goals
          go_wp2_with (fail)
          go_roundw
          case rel =>
            refine ⟨D, _, K ++ [T], rfl, rfl, by omega, by simp; omega, hw1, ⟨by rw [List.append_assoc]; exact HP.out, HO1.out⟩⟩
          case measure => (have hq1 := hSl.out; have hq2 : ByteArray.empty.size = 0 := rfl; (try simp only [bs_size]); omega)
#print axioms tone_any
end Go.Proofs.YtpmpapenjcemjaaGreatDoor
