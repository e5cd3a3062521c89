/- Contract of law11's count. No condition but that the zones and the point may be. -/
import Derived.Test.YtnjhjgkekmjmdaaJ9
namespace Go.Proofs.Ytnjhjgkekmjmdaa
set_option linter.unusedSimpArgs false
set_option linter.unusedVariables false
open Go Go.RowKit Go.Shelf
attribute [local go_sem] Nat.add_assoc Nat.add_lt_add_iff_left lit_lt_add

theorem countZ_take {l : List (Nat → Int)} {t : Nat} (T : Nat → Int × Int) (h : t < l.length) : countZ (l.take (t + 1)) T = countZ (l.take t) T + (if keptAll 3 (zF (nthZ l t)) T = true then 1 else 0) := by
  rw [List.take_add_one, countZ_app, List.getElem?_eq_getElem h, ← nthZ_eq h]
  simp [countZ]
theorem countZ_le (T : Nat → Int × Int) : ∀ l, countZ l T ≤ l.length
  | [] => Nat.le_refl _
  | z :: l => by have := countZ_le T l; simp only [countZ, List.length_cons]; split <;> omega

set_option maxRecDepth 10000 in
set_option maxHeartbeats 4000000 in
theorem count_any (p : Option Addr) (cap : Nat) (l : List (Nat → Int)) (pa pb pc pd : Int) (w : World) (hS : SlZ w p l) (hN : l.length ≤ 1000000) (hk : ∀ z, z ∈ l → okZ z = true) (wa : fits64 pa) (wb : fits64 pb) (wc : fits64 pc) (wd : fits64 pd) (o1 : okRat pa pb = true) (o2 : okRat pc pd = true) :
    Calls Try.prog 60 #[.slice p l.length cap, .agg #[.int .i64 pa, .int .i64 pb, .int .i64 pc, .int .i64 pd]] w (Gives w (.tuple #[.int .i64 (countZ l (pt pa pb pc pd)), .bool true])) := by
  have HH : Hid (∀ z, z ∈ l → Pure Try.prog 59 #[zoneV z, .agg #[.int .i64 pa, .int .i64 pb, .int .i64 pc, .int .i64 pd]] (.tuple #[.bool (keptAll 3 (zF z) (pt pa pb pc pd)), .int .i64 0])) := fun z hz w => by
    have := zhas_any z pa pb pc pd w (okZ_fits (hk z hz)) wa wb wc wd
    rw [hasZ_of (hk z hz) (by rw [rat2]; show (okRat pa pb && okRat pc pd) = true; rw [o1, o2]; rfl)] at this
    exact this
  unfold zoneV at HH
  obtain ⟨T, hT⟩ : ∃ T, T = pt pa pb pc pd := ⟨_, rfl⟩
  rw [← hT] at HH ⊢
  have HS := Lib.hid hS
  clear hS hk wa wb wc wd o1 o2 hT
  go_enter Try.func60, Try.ntmps60
  go_wp2
  refine wp_world (fun W => Below w.heap.size w W ∧ PtAt W w.heap.size pa pb pc pd) ⟨by (repeat' (first | (with_reducible assumption) | (with_reducible exact Below.refl _ _) | (with_reducible refine below_wov ?_ ?_ _) | (with_reducible refine below_drewN ?_ _) | (with_reducible refine Below.drew ?_) | (with_reducible refine Below.alloc ?_ ?_ _) | (with_reducible refine Below.setCell ?_ ?_ _) | (with_reducible exact Nat.le_refl _) | omega | (simp only [World.size_alloc, World.size_setCell, World.size_drew, Wov_size, World.heap_drewN]; omega))), PtAt.new rfl⟩ ?_
  rintro W1 ⟨hb1, hpt⟩
  have HB1 := Lib.hid hb1
  have HPT := Lib.hid hpt
  have hs1 := hb1.size
  have l1 := hpt.lt
  clear hb1 hpt
  go_loopw [6, 7] (fun n i wr => ∃ t : Nat, t ≤ l.length ∧ i = .int .i64 t ∧ n = .int .i64 (countZ (l.take t) T : Nat) ∧ Below W1.heap.size W1 wr)
    (fun _ i _ => l.length - (intOf i).toNat)
  case atStart => exact ⟨0, by omega, rfl, rfl, Below.refl _ _⟩
  case round =>
    obtain ⟨t, ht, rfl, rfl, hB⟩ := hrel
    have szr := hB.size
    have hp := HPT.out.below hB
    have p0 := hp.c0
    have p1 := hp.c1
    have p2 := hp.c2
    have p3 := hp.c3
    have pl := hp.lt
    by_cases hlt : t < l.length
    · obtain ⟨A, o, rfl, hA, hv⟩ := HS.out.resolve_left (fun h => by rw [h] at hlt; simp at hlt)
      have bw := HB1.out.trans (hB.mono hs1)
      have hlA : A < wr.heap.size := Nat.lt_of_lt_of_le hA bw.size
      obtain ⟨g0, g1, g2, g3, g4, g5⟩ := slz_cells (W := wr) (fun i j hi hj => (bw.cell (p := ⟨A, o + (i * 6 + j), none⟩) hA).trans (hv i j hi hj)) hlt
      have HZ := HH.out _ (nthZ_mem hlt)
      have ct := countZ_take T hlt
      have cl := countZ_le T (l.take t)
      rw [List.length_take] at cl
      obtain ⟨z, hz⟩ : ∃ z, z = nthZ l t := ⟨_, rfl⟩
      rw [← hz] at g0 g1 g2 g3 g4 g5 HZ ct
      obtain ⟨c, hc⟩ : ∃ c, c = countZ (l.take t) T := ⟨_, rfl⟩
      rw [← hc] at ct cl ⊢
      obtain ⟨k, hk⟩ : ∃ k, k = keptAll 3 (zF z) T := ⟨_, rfl⟩
      rw [← hk] at HZ ct
      have HZ := Lib.hid HZ
      have CT := Lib.hid ct
      have wc : IntKind.i64.wrap ((c : Int) + 1) = (c : Int) + 1 := by rw [IntKind.wrap_i64]; omega
      clear hv hz hc hk ct hp bw
      cases k
      · have CT2 : Hid (countZ (l.take (t + 1)) T = c) := by
          have h := CT.out
          show _ = _
          rw [h]; rfl
        clear CT
        go_wp2_with (fail)
        refine wp_region_wov (by kernel_rfl) (by kernel_rfl) ?_
        repeat (go_big_quiet_step ((go_at_call 59; (first | exact (HZ.out).at _ _ | exact (HZ.out).at2 _ _ _ | exact (HZ.out).at3 _ _ _ _ | exact (HZ.out).at4 _ _ _ _ _ | exact (HZ.out).at5 _ _ _ _ _ _ | exact (HZ.out).at6 _ _ _ _ _ _ _))))
        refine wpQuiet_nil ?_
        rintro _ ⟨pq, rfl⟩
        go_wp2
        go_roundw
        case rel => exact ⟨t + 1, by omega, by go_num, by rw [CT2.out], by (repeat' (first | (with_reducible assumption) | (with_reducible exact Below.refl _ _) | (with_reducible refine below_wov ?_ ?_ _) | (with_reducible refine below_drewN ?_ _) | (with_reducible refine Below.drew ?_) | (with_reducible refine Below.alloc ?_ ?_ _) | (with_reducible refine Below.setCell ?_ ?_ _) | (with_reducible exact Nat.le_refl _) | omega | (simp only [World.size_alloc, World.size_setCell, World.size_drew, Wov_size, World.heap_drewN]; omega)))⟩
        case measure => simp [intOf]; omega
      · have CT2 : Hid (countZ (l.take (t + 1)) T = c + 1) := by
          have h := CT.out
          show _ = _
          rw [h]; rfl
        clear CT
        go_wp2_with (fail)
        refine wp_region_wov (by kernel_rfl) (by kernel_rfl) ?_
        repeat (go_big_quiet_step ((go_at_call 59; (first | exact (HZ.out).at _ _ | exact (HZ.out).at2 _ _ _ | exact (HZ.out).at3 _ _ _ _ | exact (HZ.out).at4 _ _ _ _ _ | exact (HZ.out).at5 _ _ _ _ _ _ | exact (HZ.out).at6 _ _ _ _ _ _ _))))
        refine wpQuiet_nil ?_
        rintro _ ⟨pq, rfl⟩
        go_wp2
        go_roundw
        case rel => exact ⟨t + 1, by omega, by go_num, by rw [CT2.out]; rfl, by (repeat' (first | (with_reducible assumption) | (with_reducible exact Below.refl _ _) | (with_reducible refine below_wov ?_ ?_ _) | (with_reducible refine below_drewN ?_ _) | (with_reducible refine Below.drew ?_) | (with_reducible refine Below.alloc ?_ ?_ _) | (with_reducible refine Below.setCell ?_ ?_ _) | (with_reducible exact Nat.le_refl _) | omega | (simp only [World.size_alloc, World.size_setCell, World.size_drew, Wov_size, World.heap_drewN]; omega)))⟩
        case measure => simp [intOf]; omega
    · obtain rfl : t = l.length := by omega
      rw [List.take_length]
      have hb3 := HB1.out.trans (hB.mono hs1)
      clear hp
      go_wp2
      go_returns
      exact gives_end rfl (by (repeat' (first | (with_reducible assumption) | (with_reducible exact Below.refl _ _) | (with_reducible refine below_wov ?_ ?_ _) | (with_reducible refine below_drewN ?_ _) | (with_reducible refine Below.drew ?_) | (with_reducible refine Below.alloc ?_ ?_ _) | (with_reducible refine Below.setCell ?_ ?_ _) | (with_reducible exact Nat.le_refl _) | omega | (simp only [World.size_alloc, World.size_setCell, World.size_drew, Wov_size, World.heap_drewN]; omega))))
#print axioms count_any
end Go.Proofs.Ytnjhjgkekmjmdaa
