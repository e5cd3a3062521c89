/- The law DbmClosed: what is closed is so. No condition. -/
import Derived.Test.YtacihahipjlnpaaD15
import Derived.Test.YtacihahipjlnpaaD16
namespace Go.Proofs.Ytacihahipjlnpaa.dbmClosed
open Go.ChangeShapes Go.WideShapes Go.ChangeAt Go.RowKit
set_option linter.unusedVariables false
set_option linter.unusedSimpArgs false
attribute [local go_sem] Nat.add_assoc Nat.add_lt_add_iff_left lit_lt_add

set_option maxRecDepth 10000 in
set_option maxHeartbeats 8000000 in
theorem walk (n : Int) (pp : Option Addr) (N cap : Nat) (f : Nat → Int) (wn : fits64 n) (w : World) (hS : SlP w pp N f) (hF : Fits N f) (hN : N ≤ maxLen) :
    Calls Try.prog 5 #[.agg #[.int .i64 n, .slice pp N cap]] w (Gives w (.bool true)) := by
  have HA := Lib.hid alive4
  unfold maxLen at hN
  by_cases hbig : 1000 < N
  · clear hS hF
    go_enter Try.func5, Try.ntmps5
    go_wp2_with (fail)
    refine (HA.out _).mono ?_; rintro e w' ⟨rfl, p1, rfl⟩
    go_wp2
    go_ret
    exact gives_bool rfl (by (repeat' (first | (with_reducible assumption) | (with_reducible exact Below.refl _ _) | (with_reducible refine below_wov ?_ ?_ _) | (with_reducible refine below_drewN ?_ _) | (with_reducible refine Below.drew ?_) | (with_reducible refine Below.alloc ?_ ?_ _) | (with_reducible refine Below.setCell ?_ ?_ _) | (with_reducible exact Nat.le_refl _) | omega | (simp only [World.size_alloc, World.size_setCell, World.size_drew, Wov_size, World.heap_drewN]; omega))))
  · have hN2 : N ≤ 1000000 := by omega
    have hN3 : N ≤ 1000 := by omega
    have CL : Hid (∀ w', Below w.heap.size w w' → Calls Try.prog 22 #[.agg #[.int .i64 n, .slice pp N cap]] w' (closePost w' n N (closeR n N f))) := fun w' hb => close_any n pp N cap f w' wn (hS.below hb) hF hN2
    have CK : Hid (∀ w', Below w.heap.size w w' → Calls Try.prog 23 #[.agg #[.int .i64 n, .slice pp N cap]] w' (Gives w' (.int .i64 (rcode (okD n N f))))) := fun w' hb => dbmCheck_any n pp N cap f w' wn (hS.below hb) hF (by omega)
    cases hok : okD n N f
    · have R : closeR n N f = (none, 8) := by unfold closeR; rw [hok]; rfl
      rw [R] at CL
      rw [hok] at CK
      clear hS hF hok R hbig
      go_enter Try.func5, Try.ntmps5
      go_wp2_with (fail)
      refine (HA.out _).mono ?_; rintro e w' ⟨rfl, p1, rfl⟩
      go_wp2_with (fail)
      refine (CL.out _ (by (repeat' (first | (with_reducible assumption) | (with_reducible exact Below.refl _ _) | (with_reducible refine below_wov ?_ ?_ _) | (with_reducible refine below_drewN ?_ _) | (with_reducible refine Below.drew ?_) | (with_reducible refine Below.alloc ?_ ?_ _) | (with_reducible refine Below.setCell ?_ ?_ _) | (with_reducible exact Nat.le_refl _) | omega | (simp only [World.size_alloc, World.size_setCell, World.size_drew, Wov_size, World.heap_drewN]; omega))))).mono ?_; rintro e w' ⟨rfl, p2, rfl⟩
      go_wp2_with (fail)
      refine (CK.out _ (by (repeat' (first | (with_reducible assumption) | (with_reducible exact Below.refl _ _) | (with_reducible refine below_wov ?_ ?_ _) | (with_reducible refine below_drewN ?_ _) | (with_reducible refine Below.drew ?_) | (with_reducible refine Below.alloc ?_ ?_ _) | (with_reducible refine Below.setCell ?_ ?_ _) | (with_reducible exact Nat.le_refl _) | omega | (simp only [World.size_alloc, World.size_setCell, World.size_drew, Wov_size, World.heap_drewN]; omega))))).mono ?_; rintro e w' ⟨rfl, p3, rfl⟩
      go_wp2
      go_ret
      exact gives_bool (by simp [rcode]) (by (repeat' (first | (with_reducible assumption) | (with_reducible exact Below.refl _ _) | (with_reducible refine below_wov ?_ ?_ _) | (with_reducible refine below_drewN ?_ _) | (with_reducible refine Below.drew ?_) | (with_reducible refine Below.alloc ?_ ?_ _) | (with_reducible refine Below.setCell ?_ ?_ _) | (with_reducible exact Nat.le_refl _) | omega | (simp only [World.size_alloc, World.size_setCell, World.size_drew, Wov_size, World.heap_drewN]; omega))))
    · obtain ⟨m, rfl, hNm, hm0, hm4⟩ := okD_form hok
      have HN := Lib.hid hNm
      cases hc : closeI m f with
      | none =>
        have R : closeR m N f = (none, 6) := by unfold closeR; rw [hok, if_pos rfl, show ((m : Int)).toNat = m from rfl, hc]
        rw [R] at CL
        rw [hok] at CK
        clear hS hF hok R hbig hc hNm
        go_enter Try.func5, Try.ntmps5
        go_wp2_with (fail)
        refine (HA.out _).mono ?_; rintro e w' ⟨rfl, p1, rfl⟩
        go_wp2_with (fail)
        refine (CL.out _ (by (repeat' (first | (with_reducible assumption) | (with_reducible exact Below.refl _ _) | (with_reducible refine below_wov ?_ ?_ _) | (with_reducible refine below_drewN ?_ _) | (with_reducible refine Below.drew ?_) | (with_reducible refine Below.alloc ?_ ?_ _) | (with_reducible refine Below.setCell ?_ ?_ _) | (with_reducible exact Nat.le_refl _) | omega | (simp only [World.size_alloc, World.size_setCell, World.size_drew, Wov_size, World.heap_drewN]; omega))))).mono ?_; rintro e w' ⟨rfl, p2, rfl⟩
        go_wp2_with (fail)
        refine (CK.out _ (by (repeat' (first | (with_reducible assumption) | (with_reducible exact Below.refl _ _) | (with_reducible refine below_wov ?_ ?_ _) | (with_reducible refine below_drewN ?_ _) | (with_reducible refine Below.drew ?_) | (with_reducible refine Below.alloc ?_ ?_ _) | (with_reducible refine Below.setCell ?_ ?_ _) | (with_reducible exact Nat.le_refl _) | omega | (simp only [World.size_alloc, World.size_setCell, World.size_drew, Wov_size, World.heap_drewN]; omega))))).mono ?_; rintro e w' ⟨rfl, p3, rfl⟩
        go_wp2
        go_ret
        exact gives_bool (by simp [rcode]) (by (repeat' (first | (with_reducible assumption) | (with_reducible exact Below.refl _ _) | (with_reducible refine below_wov ?_ ?_ _) | (with_reducible refine below_drewN ?_ _) | (with_reducible refine Below.drew ?_) | (with_reducible refine Below.alloc ?_ ?_ _) | (with_reducible refine Below.setCell ?_ ?_ _) | (with_reducible exact Nat.le_refl _) | omega | (simp only [World.size_alloc, World.size_setCell, World.size_drew, Wov_size, World.heap_drewN]; omega))))
      | some c =>
        have R : closeR m N f = (some c, 0) := by unfold closeR; rw [hok, if_pos rfl, show ((m : Int)).toNat = m from rfl, hc]
        have KF := close_facts hm0 hm4 (okD_bd (by rw [← hNm]; exact hok)).2.2 hc
        rw [R] at CL
        have HK := Lib.hid KF
        clear hS hF hok R hbig hc KF CK hNm
        have q1 : ((m : Int) != (m : Int)) = false := by simp
        have hmm : (m : Int) * (m : Int) = (N : Int) := by rw [HN.out]; simp
        have hN16 : N ≤ 16 := by
          have := Nat.mul_le_mul hm4 hm4
          rw [← HN.out] at this; exact this
        go_enter Try.func5, Try.ntmps5
        go_wp2_with (fail)
        refine (HA.out _).mono ?_; rintro e w' ⟨rfl, p1, rfl⟩
        go_wp2_with (fail)
        refine (CL.out _ (by (repeat' (first | (with_reducible assumption) | (with_reducible exact Below.refl _ _) | (with_reducible refine below_wov ?_ ?_ _) | (with_reducible refine below_drewN ?_ _) | (with_reducible refine Below.drew ?_) | (with_reducible refine Below.alloc ?_ ?_ _) | (with_reducible refine Below.setCell ?_ ?_ _) | (with_reducible exact Nat.le_refl _) | omega | (simp only [World.size_alloc, World.size_setCell, World.size_drew, Wov_size, World.heap_drewN]; omega))))).mono ?_; rintro e w' ⟨⟨B, cp, rfl, hB1, hB2, hH⟩, p2, rfl⟩
        have HH := Lib.hid hH
        clear hH CL
        go_wp2
        obtain ⟨D, hD⟩ : ∃ D, w.heap.size + (1 + (p1.bl.size + p2.bl.size)) = D := ⟨_, rfl⟩
        rw [hD]
        refine wp_world (fun W => Below w.heap.size w W ∧ D < W.heap.size ∧ W.cell? ⟨D, 0, none⟩ = some (.int .i64 m) ∧ W.cell? ⟨D, 1, none⟩ = some (.slice (some ⟨B, 0, none⟩) N cp) ∧ HoldsI W B N c ∧ B < W.heap.size)
          ⟨by (repeat' (first | (with_reducible assumption) | (with_reducible exact Below.refl _ _) | (with_reducible refine below_wov ?_ ?_ _) | (with_reducible refine below_drewN ?_ _) | (with_reducible refine Below.drew ?_) | (with_reducible refine Below.alloc ?_ ?_ _) | (with_reducible refine Below.setCell ?_ ?_ _) | (with_reducible exact Nat.le_refl _) | omega | (simp only [World.size_alloc, World.size_setCell, World.size_drew, Wov_size, World.heap_drewN]; omega))), by rw [← hD]; simp only [World.size_alloc, Wov_size, Array.size_append]; omega, by rw [← hD]; simp [go_sem], by rw [← hD]; simp [go_sem], (by have h := HH.out; have hb := hB2; (try simp only [Wov_Wov] at h hb); exact h.below (by (repeat' (first | (with_reducible assumption) | (with_reducible exact Below.refl _ _) | (with_reducible refine below_wov ?_ ?_ _) | (with_reducible refine below_drewN ?_ _) | (with_reducible refine Below.drew ?_) | (with_reducible refine Below.alloc ?_ ?_ _) | (with_reducible refine Below.setCell ?_ ?_ _) | (with_reducible exact Nat.le_refl _) | omega | (simp only [World.size_alloc, World.size_setCell, World.size_drew, Wov_size, World.heap_drewN]; omega)))) hb), (by have hb := hB2; simp only [World.size_alloc, Wov_size, Array.size_append] at hb ⊢; omega)⟩ ?_
        rintro W ⟨hBw, zD, f0, f1, hW, zB⟩
        have HW := Lib.hid hW
        clear hB1 hB2 HH hD hW
        have hsz := hBw.size
        have FITc : ∀ i j, i < m → j < m → fits64 (c (i * m + j)) := fun i j hi hj => by
          rcases HK.out.bound i j hi hj with h | h
          · rw [h]; unfold noneB fits64; omega
          · unfold bnum at h; unfold fits64; omega
        have FC := Lib.hid FITc
        clear FITc
        go_loopw [7] (fun i wr => ∃ t : Nat, t ≤ m ∧ i = .int .i64 t ∧ ∃ q, wr = Wov W q) (fun i _ => m - (intOf i).toNat)
        case atStart => exact ⟨0, Nat.zero_le _, rfl, ⟨#[], W.drawn⟩, (Wov_self W).symm⟩
        case round =>
          obtain ⟨t, ht, rfl, q, rfl⟩ := hrel
          by_cases hlt : t < m
          · obtain ⟨ti, hti⟩ : ∃ ti : Nat, ti = t * m := ⟨_, rfl⟩
            have hti2 : (t : Int) * (m : Int) = (ti : Int) := by rw [hti]; simp
            have hTI := Lib.hid hti
            have hplace : ∀ j, j < m → ti + j < N := fun j hj => by rw [hti, HN.out]; exact place_lt hlt hj
            have hti3 := hplace 0 (by omega)
            have HP := Lib.hid hplace
            clear hti hplace
            go_wp2
            go_loopw [8] (fun i wr => ∃ s : Nat, s ≤ m ∧ i = .int .i64 s ∧ ∃ q, wr = Wov W q) (fun i _ => m - (intOf i).toNat)
            case atStart => exact ⟨0, Nat.zero_le _, rfl, q, rfl⟩
            case round =>
              clear q
              obtain ⟨s, hs, rfl, q, rfl⟩ := hrel
              by_cases hls : s < m
              · have ts := HP.out s hls
                go_wp2
                go_loopw [9] (fun i wr => ∃ k : Nat, k ≤ m ∧ i = .int .i64 k ∧ ∃ q, wr = Wov W q) (fun i _ => m - (intOf i).toNat)
                case atStart => exact ⟨0, Nat.zero_le _, rfl, q, rfl⟩
                case round =>
                  clear q
                  obtain ⟨k, hk, rfl, q, rfl⟩ := hrel
                  by_cases hlk : k < m
                  · have tk := HP.out k hlk
                    obtain ⟨ki, hki⟩ : ∃ ki : Nat, ki = k * m := ⟨_, rfl⟩
                    have hki2 : (k : Int) * (m : Int) = (ki : Int) := by rw [hki]; simp
                    have ks : ki + s < N := by rw [hki, HN.out]; exact place_lt hlk hls
                    have TRI := HK.out.tri hlt hls hlk
                    have ADD := add_any (c (t * m + k)) (c (k * m + s)) (FC.out t k hlt hlk).1 (FC.out t k hlt hlk).2 (FC.out k s hlk hls).1 (FC.out k s hlk hls).2
                    rw [← hTI.out, ← hki] at TRI ADD
                    have ca := (HW.out (ti + k) tk).1
                    have cb := (HW.out (ki + s) ks).1
                    have cc := (HW.out (ti + s) ts).1
                    obtain ⟨⟨x, e⟩, hx⟩ : ∃ r, r = addR (c (ti + k)) (c (ki + s)) := ⟨_, rfl⟩
                    rw [← hx] at TRI ADD
                    obtain ⟨va, hva⟩ : ∃ v, v = c (ti + k) := ⟨_, rfl⟩
                    obtain ⟨vb, hvb⟩ : ∃ v, v = c (ki + s) := ⟨_, rfl⟩
                    obtain ⟨vc, hvc⟩ : ∃ v, v = c (ti + s) := ⟨_, rfl⟩
                    rw [← hva] at ca ADD
                    rw [← hvb] at cb ADD
                    rw [← hvc] at cc TRI
                    obtain ⟨he, hle⟩ := TRI
                    simp only at he hle
                    subst he
                    simp only [pair2] at ADD
                    have HADD := Lib.hid ADD
                    clear hx hva hvb hvc ADD hki
                    have i1 : IntKind.i64.wrap (ti : Int) = (ti : Int) := by rw [IntKind.wrap_i64]; omega
                    have i2 : IntKind.i64.wrap ((ti : Int) + (k : Int)) = (ti : Int) + (k : Int) := by rw [IntKind.wrap_i64]; omega
                    have i3 : ((ti : Int) + (k : Int)).toNat = ti + k := by omega
                    have i4 : IntKind.i64.wrap (ki : Int) = (ki : Int) := by rw [IntKind.wrap_i64]; omega
                    have i5 : IntKind.i64.wrap ((ki : Int) + (s : Int)) = (ki : Int) + (s : Int) := by rw [IntKind.wrap_i64]; omega
                    have i6 : ((ki : Int) + (s : Int)).toNat = ki + s := by omega
                    have i7 : ((ti : Int) + (s : Int)).toNat = ti + s := by omega
                    have b1 : (0 : Int) ≤ (ti : Int) + (k : Int) := by omega
                    have b2 : (ti : Int) + (k : Int) < (N : Int) := by omega
                    have b3 : (0 : Int) ≤ (ki : Int) + (s : Int) := by omega
                    have b4 : (ki : Int) + (s : Int) < (N : Int) := by omega
                    have b5 : (0 : Int) ≤ (ti : Int) + (s : Int) := by omega
                    have b6 : (ti : Int) + (s : Int) < (N : Int) := by omega
                    go_wp2
                    refine wp_region_wov (by kernel_rfl) (by kernel_rfl) ?_
                    repeat (go_big_quiet_step ((go_at_call 24; (first | exact (HADD.out).at _ _ | exact (HADD.out).at2 _ _ _ | exact (HADD.out).at3 _ _ _ _ | exact (HADD.out).at4 _ _ _ _ _ | exact (HADD.out).at5 _ _ _ _ _ _ | exact (HADD.out).at6 _ _ _ _ _ _ _))))
                    refine wpQuiet_nil ?_
                    rintro _ ⟨pq, rfl⟩
                    clear i1 i2 i3 i4 i5 i6 b1 b2 b3 b4
                    go_wp2
                    go_roundw
                    case rel => exact ⟨k + 1, hlk, by go_num, _, rfl⟩
                    case measure => simp [intOf]; omega
                  · have e : k = m := by omega
                    subst e
                    go_wp2
                    go_roundw
                    case rel => exact ⟨s + 1, hls, by go_num, _, rfl⟩
                    case measure => simp [intOf]; omega
              · have e : s = m := by omega
                subst e
                have tt := HP.out t hlt
                have ct := (HW.out (ti + t) tt).1
                have hdg := HK.out.diag hlt
                rw [← hTI.out] at hdg
                rw [hdg] at ct
                have i1 : IntKind.i64.wrap (ti : Int) = (ti : Int) := by rw [IntKind.wrap_i64]; omega
                have i7 : ((ti : Int) + (t : Int)).toNat = ti + t := by omega
                have b5 : (0 : Int) ≤ (ti : Int) + (t : Int) := by omega
                have b6 : (ti : Int) + (t : Int) < (N : Int) := by omega
                clear hdg
                go_wp2
                go_roundw
                case rel => exact ⟨t + 1, hlt, by go_num, _, rfl⟩
                case measure => simp [intOf]; omega
          · have e : t = m := by omega
            subst e
            have CK2 : Hid (∀ w', Below W.heap.size W w' → Calls Try.prog 23 #[.agg #[.int .i64 t, .slice (some ⟨B, 0, none⟩) N cp]] w' (Gives w' (.int .i64 (rcode (okD t N c))))) := fun w' hb =>
              dbmCheck_any t _ N cp c w' wn (slp_later HW.out zB hb) (fun x hx => by
                rw [HN.out] at hx
                obtain ⟨i, j, hi, hj, rfl⟩ := at_place hx
                exact FC.out i j hi hj) (by omega)
            cases ho : okD t N c
            · rw [ho] at CK2
              clear ho
              go_wp2_with (fail)
              refine (CK2.out _ (by (repeat' (first | (with_reducible assumption) | (with_reducible exact Below.refl _ _) | (with_reducible refine below_wov ?_ ?_ _) | (with_reducible refine below_drewN ?_ _) | (with_reducible refine Below.drew ?_) | (with_reducible refine Below.alloc ?_ ?_ _) | (with_reducible refine Below.setCell ?_ ?_ _) | (with_reducible exact Nat.le_refl _) | omega | (simp only [World.size_alloc, World.size_setCell, World.size_drew, Wov_size, World.heap_drewN]; omega))))).mono ?_; rintro e w' ⟨rfl, q2, rfl⟩
              go_wp2
              go_ret
              exact gives_bool rfl (by (repeat' (first | (with_reducible assumption) | (with_reducible exact Below.refl _ _) | (with_reducible refine below_wov ?_ ?_ _) | (with_reducible refine below_drewN ?_ _) | (with_reducible refine Below.drew ?_) | (with_reducible refine Below.alloc ?_ ?_ _) | (with_reducible refine Below.setCell ?_ ?_ _) | (with_reducible exact Nat.le_refl _) | omega | (simp only [World.size_alloc, World.size_setCell, World.size_drew, Wov_size, World.heap_drewN]; omega))))
            · rw [ho] at CK2
              have ho2 : okD t (t * t) c = true := by rw [← HN.out]; exact ho
              obtain ⟨c2, hc2, hcc⟩ := HK.out.again hm0 hm4 ho2
              have CL2 : Hid (∀ w', Below W.heap.size W w' → Calls Try.prog 22 #[.agg #[.int .i64 t, .slice (some ⟨B, 0, none⟩) N cp]] w' (closePost w' t N (some c2, 0))) := fun w' hb => by
                have := close_any t (some ⟨B, 0, none⟩) N cp c w' wn (slp_later HW.out zB hb) (fun x hx => by
                  rw [HN.out] at hx
                  obtain ⟨i, j, hi, hj, rfl⟩ := at_place hx
                  exact FC.out i j hi hj) (by omega)
                rwa [show closeR t N c = (some c2, 0) by rw [HN.out]; exact hc2] at this
              have SM : Hid (∀ w' V B2 cp2, Below W.heap.size W w' → HoldsI V B2 N c2 → B2 < V.heap.size → Below V.heap.size V w' → Calls Try.prog 18 #[.agg #[.int .i64 t, .slice (some ⟨B2, 0, none⟩) N cp2], .agg #[.int .i64 t, .slice (some ⟨B, 0, none⟩) N cp]] w' (Gives w' (.bool true))) := fun w' V B2 cp2 hb h hB hb2 => by
                have := refSame_any t t _ _ N N cp2 cp c2 c w' (slp_later h hB hb2) (slp_later HW.out zB hb) (by omega)
                rwa [show sameB t N c2 t N c = true by simp only [sameB, decide_true, Bool.true_and]; exact eqB_t (fun x hx => hcc x (by rw [← HN.out]; exact hx))] at this
              clear ho ho2 hc2 hcc
              go_wp2_with (fail)
              refine (CK2.out _ (by (repeat' (first | (with_reducible assumption) | (with_reducible exact Below.refl _ _) | (with_reducible refine below_wov ?_ ?_ _) | (with_reducible refine below_drewN ?_ _) | (with_reducible refine Below.drew ?_) | (with_reducible refine Below.alloc ?_ ?_ _) | (with_reducible refine Below.setCell ?_ ?_ _) | (with_reducible exact Nat.le_refl _) | omega | (simp only [World.size_alloc, World.size_setCell, World.size_drew, Wov_size, World.heap_drewN]; omega))))).mono ?_; rintro e w' ⟨rfl, q2, rfl⟩
              go_wp2_with (fail)
              refine (CL2.out _ (by (repeat' (first | (with_reducible assumption) | (with_reducible exact Below.refl _ _) | (with_reducible refine below_wov ?_ ?_ _) | (with_reducible refine below_drewN ?_ _) | (with_reducible refine Below.drew ?_) | (with_reducible refine Below.alloc ?_ ?_ _) | (with_reducible refine Below.setCell ?_ ?_ _) | (with_reducible exact Nat.le_refl _) | omega | (simp only [World.size_alloc, World.size_setCell, World.size_drew, Wov_size, World.heap_drewN]; omega))))).mono ?_; rintro e w' ⟨⟨B2, cp2, rfl, hB1, hB2, hH⟩, q3, rfl⟩
              have HH := Lib.hid hH
              have HB2 := Lib.hid hB2
              clear hH hB1 hB2
              go_wp2_with (fail)
              refine (SM.out _ _ _ _ (by (repeat' (first | (with_reducible assumption) | (with_reducible exact Below.refl _ _) | (with_reducible refine below_wov ?_ ?_ _) | (with_reducible refine below_drewN ?_ _) | (with_reducible refine Below.drew ?_) | (with_reducible refine Below.alloc ?_ ?_ _) | (with_reducible refine Below.setCell ?_ ?_ _) | (with_reducible exact Nat.le_refl _) | omega | (simp only [World.size_alloc, World.size_setCell, World.size_drew, Wov_size, World.heap_drewN]; omega)))) HH.out HB2.out ?_).mono ?_
              · (try simp only [Wov_Wov, Array.append_assoc]); (repeat' (first | (with_reducible assumption) | (with_reducible exact Below.refl _ _) | (with_reducible refine below_wov ?_ ?_ _) | (with_reducible refine below_drewN ?_ _) | (with_reducible refine Below.drew ?_) | (with_reducible refine Below.alloc ?_ ?_ _) | (with_reducible refine Below.setCell ?_ ?_ _) | (with_reducible exact Nat.le_refl _) | omega | (simp only [World.size_alloc, World.size_setCell, World.size_drew, Wov_size, World.heap_drewN]; omega)))
              rintro e w' ⟨rfl, q4, rfl⟩
              go_wp2
              go_ret
              exact gives_bool rfl (by (repeat' (first | (with_reducible assumption) | (with_reducible exact Below.refl _ _) | (with_reducible refine below_wov ?_ ?_ _) | (with_reducible refine below_drewN ?_ _) | (with_reducible refine Below.drew ?_) | (with_reducible refine Below.alloc ?_ ?_ _) | (with_reducible refine Below.setCell ?_ ?_ _) | (with_reducible exact Nat.le_refl _) | omega | (simp only [World.size_alloc, World.size_setCell, World.size_drew, Wov_size, World.heap_drewN]; omega))))

set_option maxRecDepth 100000 in
theorem lifted (os : Os) (started : os.Started) (H : Type) (enc : TypeId × Value → H) :
    ReturnsInHanded {} Try.checked os 5 .any (Rows.dbmClosedSpec.pre6 enc Try.prog Try.f5 Rows.dbmClosedRow.domain false) (Rows.dbmClosedSpec.post enc Try.prog Try.f5 false true false false) := by
  refine returnsInHanded_of_change (C := Try.checked) own started (by kernel_rfl) Try.func5
    (ChangeSpec.witness6 (enc := enc) (C := Try.checked) false ⟨#[], #[.agg #[.int .i64 0, .slice none 0 0]], []⟩ 8 (by kernel_rfl) (by kernel_rfl) (by kernel_rfl) (by kernel_rfl)) ?_
  intro W base args ds gs before hval0 hW hcnd _
  have hval : ∀ (j : Nat) t v, Try.f5.params[j]? = some t → args[j]? = some v → Value.okWide Try.prog W .any base t v := hval0
  have hW' := hW
  obtain ⟨p, q, hA0, hV, hpq, hfz, hnd⟩ := hW
  have hA : DataW.TrodAll enc Try.prog W 0 (fun _ => true) true Try.f5.params.toList args.toList ds p := hA0
  rw [Try.params5] at hA hval
  obtain ⟨v0, vs0, d0, ds0, p0, q0, hargs, rfl, rfl, h0, r0⟩ := trodAll_cons hA
  obtain ⟨rfl, rfl, rfl⟩ := trodAll_nil r0
  obtain rfl : args = #[v0] := by cases args; simp_all
  obtain ⟨rfl, rfl⟩ := trodVars_none hV
  obtain ⟨n0, pp0, N0, cap0, f0, rfl, wn0, wS0, wF0, wN0⟩ := open_dbm (hval 0 24 v0 rfl rfl) h0
  clear hA0 hval0
  refine (walk n0 pp0 N0 cap0 f0 wn0 W wS0 wF0 wN0).mono fun e W' ⟨he, hg⟩ => ?_
  subst he
  exact ⟨_, rfl, law_post (by kernel_rfl) rfl rfl hW' rfl rfl rfl hg⟩

theorem over : Rows.dbmClosedRow.holds Try.pinned (OpenSpec.ofChange Rows.dbmClosedSpec) :=
  OpenClaim.holds_of_wide 5 Try.f5 rfl rfl rfl rfl rfl rfl rfl ⟨rfl, rfl, rfl, rfl, rfl⟩ rfl rfl rfl rfl rfl (by kernel_rfl) Try.func5 (by kernel_rfl)
    (of_decide_eq_true (by kernel_rfl)) (by unfold Func.isWrapper; first | (rw [if_pos (by decide +kernel)]; kernel_rfl) | (rw [if_neg (by decide +kernel)]; exact ⟨rfl, rfl⟩))
    (fun os started H enc _ => lifted os started H enc)

/-- The statement. -/
theorem proved : Rows.DbmClosedSaid := over
#print axioms proved
end Go.Proofs.Ytacihahipjlnpaa.dbmClosed
