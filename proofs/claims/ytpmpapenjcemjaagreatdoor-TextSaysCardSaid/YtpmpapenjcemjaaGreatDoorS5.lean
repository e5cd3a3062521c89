/- Zones' texts: contract of text.Print. No condition but that bounds fit 64 bits, on the count of zones, and that the table of powers lies as it is laid. -/
import Derived.Test.YtpmpapenjcemjaaGreatDoorS3
import Derived.Test.YtpmpapenjcemjaaGreatDoorS4
import Derived.Deep.RegionHeld3
namespace Go.Proofs.YtpmpapenjcemjaaGreatDoor
set_option linter.unusedSimpArgs false
set_option linter.unusedVariables false
open Go Go.RowKit Go.Shelf
attribute [local go_sem] Nat.add_assoc Nat.add_lt_add_iff_left lit_lt_add

/-- A result: a text and an error's number. -/
def textV (r : List UInt8 × Int) : Value := .tuple #[.string (bs r.1), .int .i64 r.2]
theorem oneT_len {z : Nat → Int} (h : okZ z = true) : (oneT z).length ≤ 700 := by
  have l1 : ∀ b, mayB b = true → (lowT b).length ≤ 101 ∧ (highT b).length ≤ 101 := by
    intro b hb
    unfold lowT highT
    by_cases e : b = noneB
    · rw [if_pos e, if_pos e]; decide
    · have b2 : -288230376151711744 ≤ b / 2 ∧ b / 2 ≤ 288230376151711744 := (mayB_bd hb).resolve_left e
      rw [if_neg e, if_neg e]
      have i1 := itoa_len (n := -(b / 2)) (by omega) (by omega)
      have i2 := itoa_len (n := b / 2) (by omega) (by omega)
      simp only [List.length_cons, List.length_append, List.length_nil]
      omega
  have a0 := l1 _ (okZ_mayB h (t := 0) (by omega))
  have a1 := l1 _ (okZ_mayB h (t := 1) (by omega))
  have a2 := l1 _ (okZ_mayB h (t := 2) (by omega))
  have a3 := l1 _ (okZ_mayB h (t := 3) (by omega))
  have a4 := l1 _ (okZ_mayB h (t := 4) (by omega))
  have a5 := l1 _ (okZ_mayB h (t := 5) (by omega))
  unfold oneT ivT
  simp only [List.length_append, List.length_cons]
  omega
theorem join_len (sep : List UInt8) (m : Nat) : ∀ xs : List (List UInt8), (∀ x, x ∈ xs → x.length ≤ m) → (Lib.join xs sep).length ≤ xs.length * (m + sep.length)
  | [], _ => by simp [Lib.join]
  | [x], h => by
    rw [join_single]
    have := h x (List.mem_cons_self ..)
    simp only [List.length_cons, List.length_nil]
    omega
  | x :: y :: r, h => by
    rw [join_cons _ _ (by simp)]
    have h1 := h x (List.mem_cons_self ..)
    have ih := join_len sep m (y :: r) (fun z hz => h z (List.mem_cons_of_mem _ hz))
    simp only [List.length_append, List.length_cons] at ih ⊢
    rw [Nat.add_mul]
    omega
theorem print_bad {L : List (Nat → Int)} (h : L.all okZ = false) (hl : L.length ≤ 4096) : printT L = ([], 8) := by
  unfold printT; rw [if_neg (by omega), if_neg (by rw [h]; simp)]
theorem print_ok {L : List (Nat → Int)} (h : L.all okZ = true) (hl : L.length ≤ 4096) : printT L = (Lib.join (L.map oneT) [32], 0) := by
  unfold printT; rw [if_neg (by omega), if_pos h]
theorem take_succ {L : List (Nat → Int)} {t : Nat} (h : t < L.length) : L.take (t + 1) = L.take t ++ [nthZ L t] := by
  rw [List.take_add_one, List.getElem?_eq_getElem h, nthZ_eq h]; rfl
theorem box_grown {W X V : World} {A : Nat} {z : Nat → Int} {r : Option Nat} (hb : BoxZ W A z) (hg : X.grownBy V r) (hx : Below W.heap.size W X) (hr : r ≠ some A) : BoxZ V A z := by
  have hk := hb.below hx
  have e : V.heap[A]? = X.heap[A]? := hg.block A hk.lt (fun e => hr e.symm)
  have ec : ∀ x, V.cell? ⟨A, x, none⟩ = X.cell? ⟨A, x, none⟩ := fun x => by simp only [World.cell?, e]
  exact ⟨Nat.lt_of_lt_of_le hk.lt hg.size, (ec 0).trans hk.c0, (ec 1).trans hk.c1, (ec 2).trans hk.c2, (ec 3).trans hk.c3, (ec 4).trans hk.c4, (ec 5).trans hk.c5⟩
theorem own_lt {W : World} {base : Nat} {e : TypeId} {v : Value} {k s : Nat} {xs : List Value} (h : W.ownsRow base e s v k xs) : ∀ g, v.ownBlock = some g → g < W.heap.size := by
  intro g hg
  rcases h.2 with ⟨rfl, _⟩ | ⟨g', cap, cur, rfl, _, hgb, _⟩
  · simp [Value.ownBlock] at hg
  · simp [Value.ownBlock] at hg; subst hg; exact (Array.getElem?_eq_some_iff.1 hgb).1
theorem joinThree (a b c : List UInt8) : Lib.join [a, b, c] [] = a ++ (b ++ c) := by
  rw [join_cons _ _ (by simp), join_cons _ _ (by simp), join_single]; rfl

set_option maxRecDepth 10000 in
set_option maxHeartbeats 4000000 in
theorem print_any (q : Option Addr) (c : Nat) (L : List (Nat → Int)) (w : World) (hS : SlZ w q L) (hF : ∀ z, z ∈ L → FitsZ z) (hN : L.length ≤ 140737488355328) (ht : Tab w) :
    Calls Tryz.prog 19 #[.slice q L.length c] w (Gives w (textV (printT L))) := by
  by_cases hbig : 4096 < L.length
  · have e : printT L = ([], 4) := by unfold printT; rw [if_pos hbig]
    rw [e]
    have hd : decide ((4096 : Int) < (L.length : Int)) = true := by simp; omega
    obtain ⟨n, hn⟩ : ∃ n, n = L.length := ⟨_, rfl⟩
    rw [← hn] at hd hbig hN ⊢
    clear hS hF ht e hn
    unfold textV
    go_enter Tryz.func19, Tryz.ntmps19
    go_wp2
    all_goals
      go_ret2
      exact gives_end rfl (by (repeat' (first | (with_reducible assumption) | (with_reducible exact Below.refl _ _) | (with_reducible refine below_wov ?_ ?_ _) | (with_reducible refine below_drewN ?_ _) | (with_reducible refine Below.drew ?_) | (with_reducible refine Below.alloc ?_ ?_ _) | (with_reducible refine Below.setCell ?_ ?_ _) | (with_reducible exact Nat.le_refl _) | omega | (simp only [World.size_alloc, World.size_setCell, World.size_drew, Wov_size, World.heap_drewN]; omega))))
  · have hL : L.length ≤ 4096 := by omega
    have CK0 : ∀ t, t < L.length → ∀ w, Calls Tryz.prog 37 #[zoneV (nthZ L t)] w (Gives w (.int .i64 (rcode (okZ (nthZ L t))))) := fun t h w => zcheck_any _ w (hF _ (nthZ_mem h))
    have CK := Lib.hid CK0
    have HS := Lib.hid hS
    have HT := Lib.hid ht
    obtain ⟨R, hR⟩ : ∃ R, R = printT L := ⟨_, rfl⟩
    rw [← hR]
    have HR := Lib.hid hR
    obtain ⟨n, hn⟩ : ∃ n, n = L.length := ⟨_, rfl⟩
    have Hn := Lib.hid hn
    rw [← hn] at hL ⊢
    clear hS hF ht CK0 hR hn hbig hN
    unfold textV
    go_enter Tryz.func19, Tryz.ntmps19
    go_wp2
    go_loopw [4, 13] (fun x i wr => ∃ (t : Nat) (v : Value), t ≤ n ∧ i = .int .i64 t ∧ v = x ∧ Below w.heap.size w wr ∧ Hid ((∀ k, k < t → okZ (nthZ L k) = true) ∧ wr.ownsRow w.heap.size 9 1 v ((L.take t).map oneT).length (cellsS ((L.take t).map oneT))))
      (fun _ i _ => n - (intOf i).toNat)
    case atStart => exact ⟨0, _, Nat.zero_le _, rfl, rfl, Below.refl _ _, ⟨fun k hk => by omega, World.ownsRow_nil _ _ _ _⟩⟩
    case round =>
      obtain ⟨t, v, ht, rfl, rfl, hB, hI⟩ := hrel
      have szr := hB.size
      by_cases hlt : t < n
      · have hlt' : t < L.length := by rw [← Hn.out]; exact hlt
        obtain ⟨A, o, rfl, hA, hv⟩ := HS.out.resolve_left (fun h => by rw [h] at hlt'; simp at hlt')
        obtain ⟨z, hz⟩ : ∃ z, z = nthZ L t := ⟨_, rfl⟩
        obtain ⟨c0, c1, c2, c3, c4, c5⟩ := slz_cells (W := wr) (fun i j hi hj => (hB.cell (p := ⟨A, o + (i * 6 + j), none⟩) hA).trans (hv i j hi hj)) hlt'
        rw [← hz] at c0 c1 c2 c3 c4 c5
        have CZ : Hid (∀ w, Calls Tryz.prog 37 #[.agg #[.int .i64 (z 0), .int .i64 (z 1), .int .i64 (z 2), .int .i64 (z 3), .int .i64 (z 4), .int .i64 (z 5)]] w (Gives w (.int .i64 (rcode (okZ z))))) := fun w => by rw [hz]; exact CK.out t hlt' w
        have hA' : A < wr.heap.size := Nat.lt_of_lt_of_le hA szr
        have t0 : (0 : Int) ≤ (t : Int) := by omega
        have t1 : (t : Int) < (n : Int) := by omega
        have HZ := Lib.hid hz
        clear hv hz
        cases kz : okZ z
        · have hbad : R = ([], 8) := by
            rw [HR.out]
            refine print_bad ?_ (by rw [← Hn.out]; exact hL)
            rw [← Bool.not_eq_true, List.all_eq_true]
            intro h
            have := h _ (nthZ_mem hlt')
            rw [← HZ.out, kz] at this
            cases this
          rw [hbad]
          rw [kz] at CZ
          clear hbad kz hI HS HR
          go_wp2_with (fail)
          refine (CZ.out _).mono ?_; rintro e w' ⟨rfl, q1, rfl⟩
          go_wp2
          all_goals
            go_ret2
            exact gives_end rfl (by (repeat' (first | (with_reducible assumption) | (with_reducible exact Below.refl _ _) | (with_reducible refine below_wov ?_ ?_ _) | (with_reducible refine below_drewN ?_ _) | (with_reducible refine Below.drew ?_) | (with_reducible refine Below.alloc ?_ ?_ _) | (with_reducible refine Below.setCell ?_ ?_ _) | (with_reducible exact Nat.le_refl _) | omega | (simp only [World.size_alloc, World.size_setCell, World.size_drew, Wov_size, World.heap_drewN]; omega))))
        · rw [kz] at CZ
          have HK := Lib.hid kz
          clear kz
          go_wp2_with (fail)
          refine (CZ.out _).mono ?_; rintro e w' ⟨rfl, q1, rfl⟩
          go_wp2_with (fail)
          have HG0 := own_lt hI.out.2
          obtain ⟨A1, hA1⟩ : ∃ A, wr.heap.size = A := ⟨_, rfl⟩
          rw [hA1] at HG0
          have HG := Lib.hid HG0
          clear HG0
          rw [hA1]
          refine wp_world (fun W => Below w.heap.size w W ∧ BoxZ W A1 z ∧ W.ownsRow w.heap.size 9 1 v ((L.take t).map oneT).length (cellsS ((L.take t).map oneT))) ⟨by (repeat' (first | (with_reducible assumption) | (with_reducible exact Below.refl _ _) | (with_reducible refine below_wov ?_ ?_ _) | (with_reducible refine below_drewN ?_ _) | (with_reducible refine Below.drew ?_) | (with_reducible refine Below.alloc ?_ ?_ _) | (with_reducible refine Below.setCell ?_ ?_ _) | (with_reducible exact Nat.le_refl _) | omega | (simp only [World.size_alloc, World.size_setCell, World.size_drew, Wov_size, World.heap_drewN]; omega))), (BoxZ.new (W := wr) (t := 49) hA1.symm).below (by (repeat' (first | (with_reducible assumption) | (with_reducible exact Below.refl _ _) | (with_reducible refine below_wov ?_ ?_ _) | (with_reducible refine below_drewN ?_ _) | (with_reducible refine Below.drew ?_) | (with_reducible refine Below.alloc ?_ ?_ _) | (with_reducible refine Below.setCell ?_ ?_ _) | (with_reducible exact Nat.le_refl _) | omega | (simp only [World.size_alloc, World.size_setCell, World.size_drew, Wov_size, World.heap_drewN]; omega)))), rowS_below hI.out.2 (by (repeat' (first | (with_reducible assumption) | (with_reducible exact Below.refl _ _) | (with_reducible refine below_wov ?_ ?_ _) | (with_reducible refine below_drewN ?_ _) | (with_reducible refine Below.drew ?_) | (with_reducible refine Below.alloc ?_ ?_ _) | (with_reducible refine Below.setCell ?_ ?_ _) | (with_reducible exact Nat.le_refl _) | omega | (simp only [World.size_alloc, World.size_setCell, World.size_drew, Wov_size, World.heap_drewN]; omega))))⟩ ?_
          rintro W ⟨hbW, hbz, hrow⟩
          have hsW := hbW.size
          have HBZ := Lib.hid hbz
          obtain ⟨al, a0, a1, a2, a3, a4, a5⟩ := hbz
          have WR : ∀ i j, i < 6 → j < 6 → Hid (∀ w', Below W.heap.size W w' → Calls Tryz.prog 39 #[.int .i64 (z i), .int .i64 (z j)] w' (Gives w' (.string (bs (ivT (z i) (z j)))))) := fun i j hi hj w' hb => written_any _ _ (okZ_mayB HK.out hi) (okZ_mayB HK.out hj) w' ((HT.out.below hbW).below hb)
          have W1 := WR 1 0 (by omega) (by omega)
          have W2 := WR 3 2 (by omega) (by omega)
          have W3 := WR 5 4 (by omega) (by omega)
          have JN : Hid (∀ w' A, A < w'.heap.size → w'.cell? ⟨A, 0, none⟩ = some (.string (bs (ivT (z 1) (z 0)))) → w'.cell? ⟨A, 1, none⟩ = some (.string (bs (ivT (z 3) (z 2)))) → w'.cell? ⟨A, 2, none⟩ = some (.string (bs (ivT (z 5) (z 4)))) → Calls Tryz.prog 38 #[.string ⟨#[]⟩, .slice (some ⟨A, 0, none⟩) 3 3] w' (Gives w' (.string (bs (oneT z))))) := fun w' A hA k0 k1 k2 => by
            have hl := oneT_len HK.out
            unfold oneT at hl
            have := joined_any (some ⟨A, 0, none⟩) [ivT (z 1) (z 0), ivT (z 3) (z 2), ivT (z 5) (z 4)] 3 [] w' (.inr ⟨A, 0, rfl, hA, fun j x hx => by
              have hj : j < 3 := by have := (List.getElem?_eq_some_iff.1 hx).1; simpa using this
              have : j = 0 ∨ j = 1 ∨ j = 2 := by omega
              rcases this with rfl | rfl | rfl
              · simp only [List.getElem?_cons_zero, Option.some.injEq] at hx; rw [← hx]; exact k0
              · simp only [List.getElem?_cons_succ, List.getElem?_cons_zero, Option.some.injEq] at hx; rw [← hx]; exact k1
              · simp only [List.getElem?_cons_succ, List.getElem?_cons_zero, Option.some.injEq] at hx; rw [← hx]; exact k2⟩) (Nat.le_refl _) (by rw [joinThree]; omega) (by simp)
            rw [joinThree] at this
            exact this
          obtain ⟨b1, hb1⟩ : ∃ b, b = bs (ivT (z 1) (z 0)) := ⟨_, rfl⟩
          obtain ⟨b2, hb2⟩ : ∃ b, b = bs (ivT (z 3) (z 2)) := ⟨_, rfl⟩
          obtain ⟨b3, hb3⟩ : ∃ b, b = bs (ivT (z 5) (z 4)) := ⟨_, rfl⟩
          rw [← hb1] at W1 JN
          rw [← hb2] at W2 JN
          rw [← hb3] at W3 JN
          have HROW := Lib.hid hrow
          have HI := Lib.hid hI.out.1
          have hlen : ((L.take t).map oneT).length ≤ 4096 := by rw [List.length_map, List.length_take]; have := Hn.out; omega
          clear WR hrow hI hb1 hb2 hb3 c0 c1 c2 c3 c4 c5 CZ hA' hA hA1 hB szr
          go_region_held3 (fun w' => w'.cell? ⟨A1, 0, none⟩ = some (.int .i64 (z 0)) ∧ w'.cell? ⟨A1, 1, none⟩ = some (.int .i64 (z 1)) ∧ w'.cell? ⟨A1, 2, none⟩ = some (.int .i64 (z 2)) ∧ w'.cell? ⟨A1, 3, none⟩ = some (.int .i64 (z 3)) ∧ w'.cell? ⟨A1, 4, none⟩ = some (.int .i64 (z 4)) ∧ w'.cell? ⟨A1, 5, none⟩ = some (.int .i64 (z 5)))
            ((simp [go_sem, *]))
            (first
            | (go_at_call_of 39 (Value.int IntKind.i64 (z 1)); (refine (W1.out _ (by (repeat' (first | (with_reducible assumption) | (with_reducible exact Below.refl _ _) | (with_reducible refine below_wov ?_ ?_ _) | (with_reducible refine below_drewN ?_ _) | (with_reducible refine Below.drew ?_) | (with_reducible refine Below.alloc ?_ ?_ _) | (with_reducible refine Below.setCell ?_ ?_ _) | (with_reducible exact Nat.le_refl _) | omega | (simp only [World.size_alloc, World.size_setCell, World.size_drew, Wov_size, World.heap_drewN]; omega))))).mono ?_); rintro e w' ⟨rfl, qa, rfl⟩)
            | (go_at_call_of 39 (Value.int IntKind.i64 (z 3)); (refine (W2.out _ (by (repeat' (first | (with_reducible assumption) | (with_reducible exact Below.refl _ _) | (with_reducible refine below_wov ?_ ?_ _) | (with_reducible refine below_drewN ?_ _) | (with_reducible refine Below.drew ?_) | (with_reducible refine Below.alloc ?_ ?_ _) | (with_reducible refine Below.setCell ?_ ?_ _) | (with_reducible exact Nat.le_refl _) | omega | (simp only [World.size_alloc, World.size_setCell, World.size_drew, Wov_size, World.heap_drewN]; omega))))).mono ?_); rintro e w' ⟨rfl, qb, rfl⟩)
            | (go_at_call_of 39 (Value.int IntKind.i64 (z 5)); (refine (W3.out _ (by (repeat' (first | (with_reducible assumption) | (with_reducible exact Below.refl _ _) | (with_reducible refine below_wov ?_ ?_ _) | (with_reducible refine below_drewN ?_ _) | (with_reducible refine Below.drew ?_) | (with_reducible refine Below.alloc ?_ ?_ _) | (with_reducible refine Below.setCell ?_ ?_ _) | (with_reducible exact Nat.le_refl _) | omega | (simp only [World.size_alloc, World.size_setCell, World.size_drew, Wov_size, World.heap_drewN]; omega))))).mono ?_); rintro e w' ⟨rfl, qc, rfl⟩)
            | (go_at_call 38; (refine (JN.out _ _ (by (first | omega | ((simp only [World.size_alloc, World.size_setCell, World.size_drew, Wov_size, World.heap_drewN, Array.size_append]) <;> omega))) (by simp [go_sem]) (by simp [go_sem]) (by simp [go_sem])).mono ?_); rintro e w' ⟨rfl, qd, rfl⟩)
            | (refine step_appS _ _ rfl (.tmp 22) (.tmp 40) rfl rfl v ((L.take t).map oneT) [oneT z] rfl (rowS_below HROW.out (by (repeat' (first | (with_reducible assumption) | (with_reducible exact Below.refl _ _) | (with_reducible refine below_wov ?_ ?_ _) | (with_reducible refine below_drewN ?_ _) | (with_reducible refine Below.drew ?_) | (with_reducible refine Below.alloc ?_ ?_ _) | (with_reducible refine Below.setCell ?_ ?_ _) | (with_reducible exact Nat.le_refl _) | omega | (simp only [World.size_alloc, World.size_setCell, World.size_drew, Wov_size, World.heap_drewN]; omega))))) ⟨_, 0, none⟩ 1 rfl ?hR (by simp; omega) (by (first | omega | ((simp only [World.size_alloc, World.size_setCell, World.size_drew, Wov_size, World.heap_drewN, Array.size_append]) <;> omega))) ?_; (case hR => (intro j y hy; have hj : j = 0 := (by have := (List.getElem?_eq_some_iff.1 hy).1; simpa using this); subst hj; simp only [List.getElem?_cons_zero, Option.some.injEq] at hy; rw [← hy]; simp [go_sem])); intro v1 w1 ho1 hg1; have hx1 := rowS_grown (rowS_below HROW.out (by (repeat' (first | (with_reducible assumption) | (with_reducible exact Below.refl _ _) | (with_reducible refine below_wov ?_ ?_ _) | (with_reducible refine below_drewN ?_ _) | (with_reducible refine Below.drew ?_) | (with_reducible refine Below.alloc ?_ ?_ _) | (with_reducible refine Below.setCell ?_ ?_ _) | (with_reducible exact Nat.le_refl _) | omega | (simp only [World.size_alloc, World.size_setCell, World.size_drew, Wov_size, World.heap_drewN]; omega))))) (Below.refl _ _) hg1 (by (first | omega | ((simp only [World.size_alloc, World.size_setCell, World.size_drew, Wov_size, World.heap_drewN, Array.size_append]) <;> omega))); have hw1 : Below w.heap.size w w1 := (by refine Below.trans ?_ hx1; (repeat' (first | (with_reducible assumption) | (with_reducible exact Below.refl _ _) | (with_reducible refine below_wov ?_ ?_ _) | (with_reducible refine below_drewN ?_ _) | (with_reducible refine Below.drew ?_) | (with_reducible refine Below.alloc ?_ ?_ _) | (with_reducible refine Below.setCell ?_ ?_ _) | (with_reducible exact Nat.le_refl _) | omega | (simp only [World.size_alloc, World.size_setCell, World.size_drew, Wov_size, World.heap_drewN]; omega)))); have ka := box_grown HBZ.out hg1 (by (repeat' (first | (with_reducible assumption) | (with_reducible exact Below.refl _ _) | (with_reducible refine below_wov ?_ ?_ _) | (with_reducible refine below_drewN ?_ _) | (with_reducible refine Below.drew ?_) | (with_reducible refine Below.alloc ?_ ?_ _) | (with_reducible refine Below.setCell ?_ ?_ _) | (with_reducible exact Nat.le_refl _) | omega | (simp only [World.size_alloc, World.size_setCell, World.size_drew, Wov_size, World.heap_drewN]; omega)))) (fun e => by have := HG.out _ e; omega); have k0 := ka.c0; have k1 := ka.c1; have k2 := ka.c2; have k3 := ka.c3; have k4 := ka.c4; have k5 := ka.c5; have HO1 := Lib.hid ho1; clear ho1 hg1 hx1 ka))
          all_goals
            go_wp2_with (fail)
            go_roundw
            case rel =>
              refine ⟨t + 1, _, hlt, by go_num, rfl, hw1, ⟨fun k hk => ?_, ?_⟩⟩
              · by_cases e : k = t
                · rw [e, ← HZ.out]; exact HK.out
                · exact HI.out k (by omega)
              · rw [take_succ hlt', List.map_append, ← HZ.out]; exact HO1.out
            case measure => simp [intOf]; omega
      · obtain rfl : t = n := by omega
        have hall : L.all okZ = true := by
          rw [List.all_eq_true]
          intro x hx
          obtain ⟨k, hk, rfl⟩ := List.getElem_of_mem hx
          have := hI.out.1 k (by rw [Hn.out]; exact hk)
          rwa [nthZ_eq hk] at this
        have hRR : R = (Lib.join (L.map oneT) [32], 0) := by rw [HR.out]; exact print_ok hall (by rw [← Hn.out]; exact hL)
        have hro := hI.out.2
        rw [List.take_of_length_le (by rw [Hn.out]; exact Nat.le_refl _)] at hro
        obtain ⟨p9, c9, rfl, hc9, hs9⟩ := slS_of_row hro
        have hl9 : (Lib.join (L.map oneT) [32]).length ≤ 140737488355328 := by
          have := join_len [32] 700 (L.map oneT) (fun x hx => by
            obtain ⟨z, hz, rfl⟩ := List.mem_map.1 hx
            exact oneT_len (List.all_eq_true.1 hall z hz))
          rw [List.length_map, ← Hn.out] at this
          simp only [List.length_cons, List.length_nil] at this
          omega
        have JN : Hid (Calls Tryz.prog 38 #[.string ⟨#[32]⟩, .slice p9 (L.map oneT).length c9] wr (Gives wr (.string (bs (Lib.join (L.map oneT) [32]))))) := joined_any p9 (L.map oneT) c9 [32] wr hs9 hc9 hl9 (by rw [List.length_map, ← Hn.out]; omega)
        rw [List.length_map, ← Hn.out] at JN
        rw [List.length_map, ← Hn.out]
        obtain ⟨B, hB9⟩ : ∃ b, b = bs (Lib.join (L.map oneT) [32]) := ⟨_, rfl⟩
        rw [← hB9] at JN
        have HB9 := Lib.hid hB9
        have HRR := Lib.hid hRR
        clear hRR hro hall hs9 hl9 hI HR CK HS HT hB9 hc9
        go_wp2_with (fail)
        refine JN.out.mono ?_; rintro e w' ⟨rfl, q1, rfl⟩
        go_wp2
        go_ret2
        exact gives_end (by rw [HRR.out, HB9.out]; rfl) (by (repeat' (first | (with_reducible assumption) | (with_reducible exact Below.refl _ _) | (with_reducible refine below_wov ?_ ?_ _) | (with_reducible refine below_drewN ?_ _) | (with_reducible refine Below.drew ?_) | (with_reducible refine Below.alloc ?_ ?_ _) | (with_reducible refine Below.setCell ?_ ?_ _) | (with_reducible exact Nat.le_refl _) | omega | (simp only [World.size_alloc, World.size_setCell, World.size_drew, Wov_size, World.heap_drewN]; omega))))
#print axioms print_any
end Go.Proofs.YtpmpapenjcemjaaGreatDoor
