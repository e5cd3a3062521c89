/- seg's reader: contract of segment. No condition but on sizes, and what some package variables hold. -/
import Derived.Test.YtccbhblklhmcpaaGreatDoorQ25
namespace Go.Proofs.YtccbhblklhmcpaaGreatDoor
set_option linter.unusedSimpArgs false
set_option linter.unusedVariables false
open Go Go.RowKit Go.Shelf
attribute [local go_sem] Nat.add_assoc Nat.add_lt_add_iff_left lit_lt_add

/-- What reading a segment hands back. -/
def segC (W : World) (B : Nat) (v : Value) (S : List UInt8) (o : Sg × List UInt8 × Nat × Nat) (e : Ending) (W' : World) : Prop :=
  Turn W.heap.size B W W' ∧ ∃ (a b : Int) (ev : Value), e = .returned (.tuple #[.agg #[.int .i64 a, .int .u8 b], ev]) ∧ ErrIs W.heap.size W' ev o.2.2.2 o.2.2.1 ∧ (o.2.2.2 = 0 → a = o.1.1 ∧ b = o.1.2 ∧ RdI W' B v (bs S) o.2.2.1 ∧ o.2.1 = S.drop o.2.2.1 ∧ o.2.2.1 ≤ S.length)
theorem syntax_wov (W : World) (p : Nat) : Calls Tryz.prog 25 #[.int .i64 p] W (fun e W' => ∃ ev, e = .returned ev ∧ ∃ q, W' = Wov W q ∧ ErrIs W.heap.size W' ev 170 p) := (syntax_any W p).mono fun e W' ⟨hb, v, h1, h2⟩ => by
  obtain ⟨q, hq⟩ := Wov_of_below hb
  exact ⟨v, h1, q, hq, h2⟩
theorem Turn.cell {nb B : Nat} {W V : World} (h : Turn nb B W V) {A : Nat} (hA : A < nb) (hB : A ≠ B) (o : Nat) : V.cell? ⟨A, o, none⟩ = W.cell? ⟨A, o, none⟩ ∧ V.frozen? ⟨A, o, none⟩ = W.frozen? ⟨A, o, none⟩ :=
  ⟨World.cell?_of_block (h.block A hA hB), World.frozen?_of_block (h.block A hA hB)⟩
theorem ErrIs.below {b0 : Nat} {W V : World} {v : Value} {e p : Nat} (h : ErrIs b0 W v e p) (hb : Below W.heap.size W V) : ErrIs b0 V v e p := by
  rcases h with h | ⟨h0, N, h1, hl, h2, h3, h4⟩
  · exact .inl h
  · exact .inr ⟨h0, N, h1, hl, Nat.lt_of_lt_of_le h2 hb.size, (hb.cell (p := ⟨N, 0, none⟩) h2).trans h3, (hb.cell (p := ⟨N, 1, none⟩) h2).trans h4⟩
theorem ErrIs.set {b0 : Nat} {W : World} {v : Value} {e p : Nat} (h : ErrIs b0 W v e p) (A o : Nat) (u : Value) (hA : A < b0) : ErrIs b0 (W.setCell ⟨A, o, none⟩ u) v e p := by
  rcases h with h | ⟨h0, N, h1, hl, h2, h3, h4⟩
  · exact .inl h
  · exact .inr ⟨h0, N, h1, hl, by rw [World.size_setCell]; exact h2, (World.cell?_setCell_other _ _ _ _ (by intro e; injection e with e; omega)).trans h3, (World.cell?_setCell_other _ _ _ _ (by intro e; injection e with e; omega)).trans h4⟩
/-- The world within a segment's reading: the reader, and the segment's own cells. -/
structure MidI (W Z : World) (B : Nat) (v : Value) (S : ByteArray) (p : Nat) (a b : Int) : Prop where
  rd : RdI Z B v S p
  turn : Turn W.heap.size B W Z
  lt : W.heap.size < Z.heap.size
  a0 : Z.cell? ⟨W.heap.size, 0, none⟩ = some (.int .i64 a)
  a1 : Z.cell? ⟨W.heap.size, 1, none⟩ = some (.int .u8 b)
  f0 : Z.frozen? ⟨W.heap.size, 0, none⟩ = false
  f1 : Z.frozen? ⟨W.heap.size, 1, none⟩ = false
theorem MidI.step {W Z X : World} {B p p' : Nat} {v : Value} {S : ByteArray} {a b : Int} (h : MidI W Z B v S p a b) (hB : W.heap.size ≠ B) (hr : RdI X B v S p') (ht : Turn Z.heap.size B Z X) : MidI W X B v S p' a b := by
  have h0 := ht.cell h.lt hB 0
  have h1 := ht.cell h.lt hB 1
  exact ⟨hr, h.turn.trans (ht.mono h.turn.size), Nat.lt_of_lt_of_le h.lt ht.size, h0.1.trans h.a0, h1.1.trans h.a1, h0.2.trans h.f0, h1.2.trans h.f1⟩
theorem RdI.other {Z : World} {B p A o : Nat} {v : Value} {S : ByteArray} (h : RdI Z B v S p) (hA : A ≠ B) (u : Value) : RdI (Z.setCell ⟨A, o, none⟩ u) B v S p := by
  have ne : ∀ x, (⟨A, o, none⟩ : Addr) ≠ ⟨B, x, none⟩ := fun x e => by injection e with e; exact hA e
  exact ⟨by rw [World.size_setCell]; exact h.lt, (World.cell?_setCell_other _ _ _ _ (ne 0)).trans h.c0, (World.cell?_setCell_other _ _ _ _ (ne 1)).trans h.c1, (World.cell?_setCell_other _ _ _ _ (ne 2)).trans h.c2, by rw [World.frozen?_setCell]; exact h.z2⟩
theorem MidI.long {W Z : World} {B p : Nat} {v : Value} {S : ByteArray} {a b : Int} (h : MidI W Z B v S p a b) (hB : W.heap.size ≠ B) (x : Int) : MidI W (Z.setCell ⟨W.heap.size, 0, none⟩ (.int .i64 x)) B v S p x b :=
  ⟨h.rd.other hB _, h.turn.set (.inr (Nat.le_refl _)) _, by rw [World.size_setCell]; exact h.lt, World.cell?_setCell_same _ _ _ h.a0, (World.cell?_setCell_other _ _ _ _ (by simp)).trans h.a1, by rw [World.frozen?_setCell]; exact h.f0, by rw [World.frozen?_setCell]; exact h.f1⟩
theorem mid_start (W : World) (B p : Nat) (v : Value) (S : ByteArray) (h : RdI W B v S p) (t : TypeId) (g : Gr) (p' : Nat) : MidI W ((Wov (W.alloc (.cells #[.int .i64 0, .int .u8 0] t)) g).setCell ⟨B, 2, none⟩ (.int .i64 p')) B v S p' 0 0 := by
  have hb : Below W.heap.size W (Wov (W.alloc (.cells #[.int .i64 0, .int .u8 0] t)) g) := by (repeat' (first | (with_reducible assumption) | (with_reducible exact Below.refl _ _) | (with_reducible refine below_wov ?_ ?_ _) | (with_reducible refine below_drewN ?_ _) | (with_reducible refine Below.drew ?_) | (with_reducible refine Below.alloc ?_ ?_ _) | (with_reducible refine Below.setCell ?_ ?_ _) | (with_reducible exact Nat.le_refl _) | omega | (simp only [World.size_alloc, World.size_setCell, World.size_drew, Wov_size, World.heap_drewN]; omega)))
  have hne : (⟨B, 2, none⟩ : Addr).block ≠ W.heap.size := by have := h.lt; show B ≠ _; omega
  have hl := h.lt
  have ne : ∀ x, (⟨B, 2, none⟩ : Addr) ≠ ⟨W.heap.size, x, none⟩ := fun x e => by injection e with e; omega
  refine ⟨(h.below hb).move p', (Turn.of hb).put _ _, by rw [World.size_setCell, Wov_size, World.size_alloc]; omega, ?_, ?_, ?_, ?_⟩
  · rw [World.cell?_setCell_other _ _ _ _ (ne 0)]; simp [go_sem]
  · rw [World.cell?_setCell_other _ _ _ _ (ne 1)]; simp [go_sem]
  · rw [World.frozen?_setCell]; simp [go_sem]
  · rw [World.frozen?_setCell]; simp [go_sem]
set_option maxRecDepth 10000 in
set_option maxHeartbeats 4000000 in
theorem segment_any (W : World) (B : Nat) (q : Option Addr) (c : Nat) (N : List (List UInt8)) (S : List UInt8) (p : Nat) (h : RdI W B (.slice q N.length c) (bs S) p) (hp : p ≤ S.length) (hS : S.length ≤ 100000000000000) (hN : N.length ≤ 8) (hQ : SlS W q N) (hB : ∀ A o, q = some ⟨A, o, none⟩ → A ≠ B) (hL : Laid W) :
    Calls Tryz.prog 22 #[.pointer (some ⟨B, 0, none⟩)] W (segC W B (.slice q N.length c) S (segL N (S.drop p) p)) := by
  obtain ⟨o, ho⟩ : ∃ o, o = segL N (S.drop p) p := ⟨_, rfl⟩
  rw [← ho]
  have HI := Lib.hid h
  have HQ := Lib.hid hQ
  have HQB := Lib.hid hB
  have hlt := h.lt
  have hne : W.heap.size ≠ B := by omega
  have c2 := h.c2
  have z2 := h.z2
  have RD : Hid (∀ w', Below W.heap.size W w' → Calls Tryz.prog 40 #[.pointer (some ⟨B, 0, none⟩), .string ⟨#[48, 49, 50, 51, 52, 53, 54, 55, 56, 57]⟩] w' (Gives w' (.string (bs ((S.drop p).takeWhile isD))))) := fun w' hb => runD_any w' B _ S p (h.below hb) hp (by omega)
  obtain ⟨r, hr⟩ : ∃ r, r = S.drop p := ⟨_, rfl⟩
  have hrl : r.length = S.length - p := by rw [hr, List.length_drop]
  have hls := len_split (p := isD) r
  have AT : Hid (∀ w', Below W.heap.size W w' → Calls Tryz.prog 41 #[.string (bs (r.takeWhile isD))] w' fun e w'' => (r.takeWhile isD ≠ [] ∧ valD 0 (r.takeWhile isD) < 9223372036854775808 ∧ Gives w' (.tuple #[.int .i64 (valD 0 (r.takeWhile isD)), .nilIface]) e w'') ∨ ((r.takeWhile isD = [] ∨ 9223372036854775808 ≤ valD 0 (r.takeWhile isD)) ∧ ∃ n N, Gives w' (.tuple #[.int .i64 n, .iface 123 (.pointer (some ⟨N, 0, none⟩))]) e w'')) := fun w' hb => atoi_any _ all_take (by omega) w' (hL.below hb)
  rw [← hr] at RD ho
  obtain ⟨t, ht⟩ : ∃ t, t = r.takeWhile isD := ⟨_, rfl⟩
  rw [← ht] at RD AT hls
  have hgt := bs_at t
  have htz := bs_size t
  obtain ⟨T, hT⟩ : ∃ T, T = bs t := ⟨_, rfl⟩
  rw [← hT] at RD AT hgt htz
  have HGT := Lib.hid hgt
  have Hr := Lib.hid hr
  have Ht := Lib.hid ht
  have HO := Lib.hid ho
  have HP := Lib.hid hp
  have HSl := Lib.hid hS
  have HRL := Lib.hid hrl
  have HLS := Lib.hid hls
  obtain ⟨x, hx⟩ : ∃ x : Int, x = (valD 0 t : Int) := ⟨_, rfl⟩
  rw [← hx] at AT
  have HX := Lib.hid hx
  obtain ⟨ln, hln⟩ : ∃ ln, ln = t.length := ⟨_, rfl⟩
  rw [← hln] at htz
  have HLN := Lib.hid hln
  clear h hp hS hQ hB hr ht hT ho hrl hls hgt hx hln hL
  go_enter Tryz.func22, Tryz.ntmps22
  go_wp2_with (fail)
  refine (RD.out _ (by (repeat' (first | (with_reducible assumption) | (with_reducible exact Below.refl _ _) | (with_reducible refine below_wov ?_ ?_ _) | (with_reducible refine below_drewN ?_ _) | (with_reducible refine Below.drew ?_) | (with_reducible refine Below.alloc ?_ ?_ _) | (with_reducible refine Below.setCell ?_ ?_ _) | (with_reducible exact Nat.le_refl _) | omega | (simp only [World.size_alloc, World.size_setCell, World.size_drew, Wov_size, World.heap_drewN]; omega))))).mono ?_; rintro e w' ⟨rfl, q1, rfl⟩
  go_wp2_with (fail)
  refine (AT.out _ (by (repeat' (first | (with_reducible assumption) | (with_reducible exact Below.refl _ _) | (with_reducible refine below_wov ?_ ?_ _) | (with_reducible refine below_drewN ?_ _) | (with_reducible refine Below.drew ?_) | (with_reducible refine Below.alloc ?_ ?_ _) | (with_reducible refine Below.setCell ?_ ?_ _) | (with_reducible exact Nat.le_refl _) | omega | (simp only [World.size_alloc, World.size_setCell, World.size_drew, Wov_size, World.heap_drewN]; omega))))).mono ?_
  rintro e w' (⟨hne0, h63, rfl, q2, rfl⟩ | ⟨hbad, m, Nn, rfl, q2, rfl⟩)
  · have hnn := Lib.hid hne0
    obtain ⟨y, ry, hty⟩ : ∃ y ry, t = y :: ry := by
      cases hh : t with
      | nil => exact absurd hh hne0
      | cons y ry => exact ⟨y, ry, rfl⟩
    have gy := HGT.out 0 y (by rw [hty]; rfl)
    have hl1 : 1 ≤ ln := by rw [HLN.out, hty]; simp
    have l0 : (0 : Int) < (ln : Int) := by omega
    have l1 : 0 < ln := by omega
    have hh48 : (t.head? = some 48) ↔ (y.toNat : Int) = 48 := by
      rw [hty, List.head?_cons, Option.some.injEq, ← UInt8.toNat_inj]
      show y.toNat = 48 ↔ _
      omega
    have H48 := Lib.hid hh48
    clear hne0 hty h63 hh48
    by_cases hbig : 288230376151711744 ≤ x
    · have hoo : o = ((0, 0), r, p, 170) := by
        rw [HO.out]; unfold segL
        rw [← Ht.out, if_pos (.inr (.inr (by have := HX.out; omega)))]
      have HOO := Lib.hid hoo
      clear hoo
      go_wp2_with (fail)
      go_region_held3 (fun w' => w'.cell? ⟨B, 2, none⟩ = some (.int .i64 (p : Int)) ∧ w'.cell? ⟨W.heap.size, 0, none⟩ = some (.int .i64 0) ∧ w'.cell? ⟨W.heap.size, 1, none⟩ = some (.int .u8 0))
        ((simp [go_sem, *]))
        ((go_at_call 25; (refine (syntax_wov _ p).mono ?_); rintro e w' ⟨ev, rfl, q3, rfl, hev⟩))
      all_goals
        go_wp2_with (fail)
        go_returns
        refine ⟨Turn.of ?_, 0, 0, ev, rfl, ?_, fun h => by rw [HOO.out] at h; simp at h⟩
        · (repeat' (first | (with_reducible assumption) | (with_reducible exact Below.refl _ _) | (with_reducible refine below_wov ?_ ?_ _) | (with_reducible refine below_drewN ?_ _) | (with_reducible refine Below.drew ?_) | (with_reducible refine Below.alloc ?_ ?_ _) | (with_reducible refine Below.setCell ?_ ?_ _) | (with_reducible exact Nat.le_refl _) | omega | (simp only [World.size_alloc, World.size_setCell, World.size_drew, Wov_size, World.heap_drewN]; omega)))
        · rw [HOO.out]
          simp only [Wov_Wov, Array.append_assoc] at hev
          refine ErrIs.mono (ErrIs.set (ErrIs.set hev _ _ _ ?_) _ _ _ ?_) ?_
          all_goals (simp only [World.size_alloc, Wov_size]; omega)
    · by_cases hy : (y.toNat : Int) = 48
      · have hoo : o = ((0, 0), r, p, 170) := by
          rw [HO.out]; unfold segL
          rw [← Ht.out, if_pos (.inr (.inl (H48.out.2 hy)))]
        have HOO := Lib.hid hoo
        have hy2 : ((y.toNat : Int) == 48) = true := by rw [beq_iff_eq]; exact hy
        have hbig2 : x < 288230376151711744 := by omega
        clear hoo hy hbig
        go_wp2_with (fail)
        go_region_held3 (fun w' => w'.cell? ⟨B, 2, none⟩ = some (.int .i64 (p : Int)) ∧ w'.cell? ⟨W.heap.size, 0, none⟩ = some (.int .i64 0) ∧ w'.cell? ⟨W.heap.size, 1, none⟩ = some (.int .u8 0))
          ((simp [go_sem, *]))
          ((go_at_call 25; (refine (syntax_wov _ p).mono ?_); rintro e w' ⟨ev, rfl, q3, rfl, hev⟩))
        all_goals
          go_wp2_with (fail)
          go_returns
          refine ⟨Turn.of ?_, 0, 0, ev, rfl, ?_, fun h => by rw [HOO.out] at h; simp at h⟩
          · (repeat' (first | (with_reducible assumption) | (with_reducible exact Below.refl _ _) | (with_reducible refine below_wov ?_ ?_ _) | (with_reducible refine below_drewN ?_ _) | (with_reducible refine Below.drew ?_) | (with_reducible refine Below.alloc ?_ ?_ _) | (with_reducible refine Below.setCell ?_ ?_ _) | (with_reducible exact Nat.le_refl _) | omega | (simp only [World.size_alloc, World.size_setCell, World.size_drew, Wov_size, World.heap_drewN]; omega)))
          · rw [HOO.out]
            simp only [Wov_Wov, Array.append_assoc] at hev
            refine ErrIs.mono (ErrIs.set (ErrIs.set hev _ _ _ ?_) _ _ _ ?_) ?_
            all_goals (simp only [World.size_alloc, Wov_size]; omega)
      · have hno : ¬ (t = [] ∨ t.head? = some 48 ∨ 288230376151711744 ≤ valD 0 t) := by
          rintro (h | h | h)
          · exact hnn.out h
          · exact hy (H48.out.1 h)
          · have := HX.out; omega
        have HNO := Lib.hid hno
        have hy2 : ((y.toNat : Int) == 48) = false := by rw [beq_eq_false_iff_ne]; exact hy
        have hbig2 : x < 288230376151711744 := by omega
        have hw1 : wrap64 ((p : Int) + (ln : Int)) = (p : Int) + (ln : Int) := by
          have := HSl.out; have := HP.out; have := HLS.out; have := HRL.out; have := HLN.out
          exact wrap64_id (by omega) (by omega)
        clear hno hy hbig
        go_wp2_with (fail)
        have hdp : r.dropWhile isD = S.drop (p + ln) := by rw [← drop_len (p := isD) r, ← Ht.out, ← HLN.out, Hr.out, List.drop_drop]
        have hpl : p + ln ≤ S.length := by have := HP.out; have := HLS.out; have := HRL.out; have := HLN.out; omega
        have HDP := Lib.hid hdp
        have HPL := Lib.hid hpl
        have hI := HI.out
        refine calls_world (fun Z => MidI W Z B (.slice q N.length c) (bs S) (p + ln) 0 0) (mid_start W B p _ _ hI _ ⟨q1.bl ++ q2.bl, q2.dr⟩ (p + ln)) ?_
        clear hI hdp hpl hw1
        intro Z hZ
        have HZ := Lib.hid hZ
        have hM := may_any Z B (.slice q N.length c) S (p + ln) 58 hZ.rd HPL.out (by have := HSl.out; omega)
        rw [← HDP.out] at hM
        clear hZ
        refine hM.mono ?_
        clear hM
        rintro e W1 ⟨rfl, hs1, hs2⟩
        by_cases hcol : (r.dropWhile isD).head? = some 58
        · rw [if_pos hcol] at hs1
          rw [decide_eq_true hcol]
          have HM1 := Lib.hid (HZ.out.step hne hs1 hs2)
          have HCO := Lib.hid hcol
          have a0 := HM1.out.a0
          have a1 := HM1.out.a1
          have f0 := HM1.out.f0
          have f1 := HM1.out.f1
          clear hs1 hs2 hcol HZ
          go_wp2_with (fail)
          have hY := HM1.out.long hne x
          refine calls_world (fun Y => MidI W Y B (.slice q N.length c) (bs S) (p + ln + 1) x 0) hY ?_
          clear hY a0 a1 f0 f1
          intro Y hY
          have HY := Lib.hid hY
          have hp1 : p + ln + 1 ≤ S.length := by
            have h1 := HCO.out
            rw [HDP.out] at h1
            rcases Nat.lt_or_ge (p + ln) S.length with h | h
            · omega
            · rw [List.drop_of_length_le h] at h1; cases h1
          have htl : (r.dropWhile isD).tail = S.drop (p + ln + 1) := by rw [HDP.out, List.tail_drop]
          have HP1 := Lib.hid hp1
          have HTL := Lib.hid htl
          have hM := may_any Y B (.slice q N.length c) S (p + ln + 1) 45 hY.rd hp1 (by have := HSl.out; omega)
          rw [← htl] at hM
          clear hY hp1 htl
          refine hM.mono ?_
          clear hM
          rintro e W2 ⟨rfl, hs1, hs2⟩
          by_cases hda : (r.dropWhile isD).tail.head? = some 45
          · rw [if_pos hda] at hs1
            rw [decide_eq_true hda]
            have HM2 := Lib.hid (HY.out.step hne hs1 hs2)
            have hoo : o = ((x, 0), (r.dropWhile isD).tail.tail, p + ln + 2, 0) := by
              rw [HO.out]; unfold segL
              rw [← Ht.out, if_neg HNO.out, if_neg (by rw [HCO.out]; simp), if_pos hda, ← HX.out, ← HLN.out]
            have HOO := Lib.hid hoo
            have HDA := Lib.hid hda
            have a0 := HM2.out.a0
            have a1 := HM2.out.a1
            clear hs1 hs2 hda HY hoo HM1
            go_wp2_with (fail)
            refine bodyPost_ret (by simp [results, Tryz.results22, go_sem, a0, a1]; try rfl) rfl ?_
            refine ⟨HM2.out.turn, x, 0, .nilIface, rfl, by rw [HOO.out]; exact .inl ⟨rfl, rfl⟩, fun _ => ?_⟩
            rw [HOO.out]
            have hp2 : p + ln + 2 ≤ S.length := by
              have h1 := HDA.out
              rw [HTL.out] at h1
              rcases Nat.lt_or_ge (p + ln + 1) S.length with h | h
              · omega
              · rw [List.drop_of_length_le h] at h1; cases h1
            exact ⟨rfl, rfl, HM2.out.rd, by rw [HTL.out, List.tail_drop], hp2⟩
          · rw [if_neg hda] at hs1
            rw [decide_eq_false hda]
            have HM2 := Lib.hid (HY.out.step hne hs1 hs2)
            have hoo : o = ((x, (onL N (r.length + 1) (r.dropWhile isD).tail (p + ln + 1) (-1) 0).1), (onL N (r.length + 1) (r.dropWhile isD).tail (p + ln + 1) (-1) 0).2.1, (onL N (r.length + 1) (r.dropWhile isD).tail (p + ln + 1) (-1) 0).2.2.1, (onL N (r.length + 1) (r.dropWhile isD).tail (p + ln + 1) (-1) 0).2.2.2) := by
              rw [HO.out]; unfold segL
              rw [← Ht.out, if_neg HNO.out, if_neg (by rw [HCO.out]; simp), if_neg hda, ← HX.out, ← HLN.out]
            have HOO := Lib.hid hoo
            have hN2 := on_any W2 B q c N S (p + ln + 1) hs1 HP1.out (by have := HSl.out; omega) hN (SlS.turn HQ.out HM2.out.turn HQB.out) HQB.out (r.length + 1) (by
              rw [← HTL.out]
              have h1 := HLS.out
              have h2 : (r.dropWhile isD).tail.length ≤ (r.dropWhile isD).length := by rw [List.length_tail]; omega
              omega)
            rw [← HTL.out] at hN2
            obtain ⟨oo, hoq⟩ : ∃ oo, oo = onL N (r.length + 1) (r.dropWhile isD).tail (p + ln + 1) (-1) 0 := ⟨_, rfl⟩
            rw [← hoq] at hN2 HOO
            have HON := Lib.hid hN2
            unfold onC at HON
            clear hs1 hs2 hda HY hoo HM1 hoq hN2
            go_wp2_with (fail)
            refine HON.out.mono ?_
            rintro e W3 ⟨ht3, ev, rfl, hev, hok⟩
            have h0 := ht3.cell HM2.out.lt hne 0
            have h1 := ht3.cell HM2.out.lt hne 1
            have a0 := h0.1.trans HM2.out.a0
            have a1 := h1.1.trans HM2.out.a1
            have f0 := h0.2.trans HM2.out.f0
            have f1 := h1.2.trans HM2.out.f1
            have HT3 := Lib.hid (HM2.out.turn.trans (ht3.mono HM2.out.turn.size))
            have HEV := Lib.hid hev
            have HOK := Lib.hid hok
            have hlt3 : W.heap.size < W3.heap.size := Nat.lt_of_lt_of_le HM2.out.lt ht3.size
            have hlt2 := HM2.out.lt
            clear h0 h1 ht3 hev hok HON
            go_wp2_with (fail)
            refine bodyPost_ret (by simp [results, Tryz.results22, go_sem, a0, a1]; try rfl) rfl ?_
            refine ⟨HT3.out.set (.inr (Nat.le_refl _)) _, x, oo.1, ev, rfl, ?_, fun h => ?_⟩
            · rw [HOO.out]
              exact (HEV.out.set _ _ _ hlt2).mono (by omega)
            · rw [HOO.out] at h ⊢
              obtain ⟨k1, k2, k3⟩ := HOK.out h
              exact ⟨rfl, rfl, k1.other hne _, k2, k3⟩
        · rw [if_neg hcol] at hs1
          rw [decide_eq_false hcol]
          have HM1 := Lib.hid (HZ.out.step hne hs1 hs2)
          have hoo : o = ((0, 0), r.dropWhile isD, p + ln, 170) := by
            rw [HO.out]; unfold segL
            rw [← Ht.out, if_neg HNO.out, if_pos (by exact hcol), ← HLN.out]
          have HOO := Lib.hid hoo
          have a0 := HM1.out.a0
          have a1 := HM1.out.a1
          have f0 := HM1.out.f0
          have f1 := HM1.out.f1
          have b2 := HM1.out.rd.c2
          have hlt1 := HM1.out.rd.lt
          have hlt2 := HM1.out.lt
          obtain ⟨pl, hpl⟩ : ∃ pl, pl = p + ln := ⟨_, rfl⟩
          rw [← hpl] at b2 HOO
          clear hs1 hs2 hcol HZ hoo hpl
          go_wp2_with (fail)
          go_region_held3 (fun w' => w'.cell? ⟨B, 2, none⟩ = some (.int .i64 (pl : Int)) ∧ w'.cell? ⟨W.heap.size, 0, none⟩ = some (.int .i64 0) ∧ w'.cell? ⟨W.heap.size, 1, none⟩ = some (.int .u8 0))
            ((simp [go_sem, *]))
            ((go_at_call 25; (refine (syntax_wov _ pl).mono ?_); rintro e w' ⟨ev, rfl, q3, rfl, hev⟩))
          all_goals
            go_wp2_with (fail)
            refine bodyPost_ret (by simp [results, Tryz.results22, go_sem, a0, a1]; try rfl) rfl ?_
            refine ⟨((HM1.out.turn.trans ((Turn.of (below_Wov W1 q3)).mono HM1.out.turn.size)).set (.inr (Nat.le_refl _)) _).set (.inr (Nat.le_refl _)) _, 0, 0, ev, rfl, ?_, fun h => by rw [HOO.out] at h; simp at h⟩
            rw [HOO.out]
            simp only [drew_Wov, Wov_Wov, Array.append_assoc] at hev
            refine ErrIs.mono (ErrIs.set (ErrIs.set hev _ _ _ ?_) _ _ _ ?_) ?_
            all_goals (simp only [World.size_drew]; omega)
  · have hoo : o = ((0, 0), r, p, 170) := by
      rw [HO.out]; unfold segL
      rw [← Ht.out]
      rcases hbad with hb | hb
      · rw [if_pos (.inl hb)]
      · rw [if_pos (.inr (.inr (by omega)))]
    have HOO := Lib.hid hoo
    clear hbad hoo
    go_wp2_with (fail)
    go_region_held3 (fun w' => w'.cell? ⟨B, 2, none⟩ = some (.int .i64 (p : Int)) ∧ w'.cell? ⟨W.heap.size, 0, none⟩ = some (.int .i64 0) ∧ w'.cell? ⟨W.heap.size, 1, none⟩ = some (.int .u8 0))
      ((simp [go_sem, *]))
      ((go_at_call 25; (refine (syntax_wov _ p).mono ?_); rintro e w' ⟨ev, rfl, q3, rfl, hev⟩))
    all_goals
      go_wp2_with (fail)
      go_returns
      refine ⟨Turn.of ?_, 0, 0, ev, rfl, ?_, fun h => by rw [HOO.out] at h; simp at h⟩
      · (repeat' (first | (with_reducible assumption) | (with_reducible exact Below.refl _ _) | (with_reducible refine below_wov ?_ ?_ _) | (with_reducible refine below_drewN ?_ _) | (with_reducible refine Below.drew ?_) | (with_reducible refine Below.alloc ?_ ?_ _) | (with_reducible refine Below.setCell ?_ ?_ _) | (with_reducible exact Nat.le_refl _) | omega | (simp only [World.size_alloc, World.size_setCell, World.size_drew, Wov_size, World.heap_drewN]; omega)))
      · rw [HOO.out]
        simp only [Wov_Wov, Array.append_assoc] at hev
        refine ErrIs.mono (ErrIs.set (ErrIs.set hev _ _ _ ?_) _ _ _ ?_) ?_
        all_goals (simp only [World.size_alloc, Wov_size]; omega)
#print axioms segment_any
end Go.Proofs.YtccbhblklhmcpaaGreatDoor
