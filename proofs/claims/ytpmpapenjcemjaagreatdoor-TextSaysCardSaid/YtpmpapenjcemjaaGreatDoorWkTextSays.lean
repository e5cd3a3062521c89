/- The law TextSays (walk): the three intervals of a zone's text have the times of each of its points. No condition but that the table of powers and strconv.ErrRange lie as they are laid. -/
import Derived.Test.YtpmpapenjcemjaaGreatDoorMTS
import Derived.Test.YtpmpapenjcemjaaGreatDoorMY
import Derived.Test.YtpmpapenjcemjaaGreatDoorFrame2
namespace Go.Proofs.YtpmpapenjcemjaaGreatDoor.textSays
open Go.ChangeShapes Go.WideShapes Go.ChangeAt Go.RowKit
set_option linter.unusedVariables false
set_option linter.unusedSimpArgs false
attribute [local go_sem] Nat.add_assoc Nat.add_lt_add_iff_left lit_lt_add

theorem one_len {z : Nat → Int} (h : okZ z = true) : (oneT z).length ≤ 135 := by
  have l1 : ∀ b, mayB b = true → (lowT b).length ≤ 22 ∧ (highT b).length ≤ 22 := by
    intro b hb
    unfold lowT highT
    by_cases e : b = noneB
    · rw [if_pos e, if_pos e]; decide
    · have b2 : -288230376151711744 ≤ b / 2 ∧ b / 2 ≤ 288230376151711744 := (mayB_bd hb).resolve_left e
      rw [if_neg e, if_neg e]
      have i1 := Lib.itoa_length_le (-(b / 2)) (by omega) (by omega)
      have i2 := Lib.itoa_length_le (b / 2) (by omega) (by omega)
      simp only [List.length_cons, List.length_append, List.length_nil]
      omega
  have a0 := l1 _ (okZ_mayB h (t := 0) (by omega))
  have a1 := l1 _ (okZ_mayB h (t := 1) (by omega))
  have a2 := l1 _ (okZ_mayB h (t := 2) (by omega))
  have a3 := l1 _ (okZ_mayB h (t := 3) (by omega))
  have a4 := l1 _ (okZ_mayB h (t := 4) (by omega))
  have a5 := l1 _ (okZ_mayB h (t := 5) (by omega))
  unfold oneT ivT
  simp only [List.length_append, List.length_cons]
  omega
theorem dec_b (x : UInt8) (k : Nat) (c : UInt8) (hk : c.toNat = k) : ((x.toNat : Int) == (k : Int)) = decide (x = c) ∧ ((x.toNat : Int) != (k : Int)) = !decide (x = c) := by
  have h : ((x.toNat : Int) == (k : Int)) = decide (x = c) := by
    rw [Bool.eq_iff_iff, beq_iff_eq, decide_eq_true_eq, ← UInt8.toNat_inj, hk]; omega
  exact ⟨h, by rw [bne, h]⟩
theorem has_cases (z : Nat → Int) (T : Nat → Int × Int) : hasZ z T = (false, 8) ∨ (okZ z = true ∧ (hasZ z T = (true, 0) ∨ hasZ z T = (false, 0))) := by
  by_cases h : (okZ z && (okRat (T 0).1 (T 0).2 && okRat (T 1).1 (T 1).2)) = true
  · right
    have h1 : okZ z = true := by simp only [Bool.and_eq_true] at h; exact h.1
    refine ⟨h1, ?_⟩
    have h2 : allRat 2 T = true := by rw [rat2]; simp only [Bool.and_eq_true] at h ⊢; exact h.2
    rw [hasZ_of h1 h2]
    cases keptAll 3 (zF z) T
    · exact .inr rfl
    · exact .inl rfl
  · left
    unfold hasZ
    rw [if_neg h]
set_option maxRecDepth 100000 in
set_option maxHeartbeats 16000000 in
theorem walk (z : Nat → Int) (wz : FitsZ z) (a p b q : Int) (fa : fits64 a) (fp : fits64 p) (fb : fits64 b) (fq : fits64 q) (w : World) (ht : Tab w) (hv : ErrR w) :
    Calls Tryz.prog 8 #[zoneV z, .agg #[.int .i64 a, .int .i64 p, .int .i64 b, .int .i64 q]] w (Gives w (.bool true)) := by
  have AL : Hid (∀ w', Below w.heap.size w w' → Calls Tryz.prog 20 #[] w' (Gives w' (.bool true))) := fun w' hb => alive31 w' (ht.below hb) (hv.below hb)
  have ZH : Hid (∀ r, hasZ z (pt a p b q) = r → ∀ w', Calls Tryz.prog 21 #[.agg #[.int .i64 (z 0), .int .i64 (z 1), .int .i64 (z 2), .int .i64 (z 3), .int .i64 (z 4), .int .i64 (z 5)], .agg #[.int .i64 a, .int .i64 p, .int .i64 b, .int .i64 q]] w' (Gives w' (bpair r))) := fun r hr w' => by rw [← hr]; exact zhas_any z a p b q w' wz fa fp fb fq
  have PR0 : Hid (∀ w' A, Below w.heap.size w w' → A < w'.heap.size → w'.cell? ⟨A, 0, none⟩ = some (.int .i64 (z 0)) → w'.cell? ⟨A, 1, none⟩ = some (.int .i64 (z 1)) → w'.cell? ⟨A, 2, none⟩ = some (.int .i64 (z 2)) → w'.cell? ⟨A, 3, none⟩ = some (.int .i64 (z 3)) → w'.cell? ⟨A, 4, none⟩ = some (.int .i64 (z 4)) → w'.cell? ⟨A, 5, none⟩ = some (.int .i64 (z 5)) →
      Calls Tryz.prog 19 #[.slice (some ⟨A, 0, none⟩) 1 1] w' (Gives w' (textV (printT [z])))) := fun w' A hb hA c0 c1 c2 c3 c4 c5 =>
    print_any (some ⟨A, 0, none⟩) 1 [z] w' (slz_lit hA fun j hj => by rcases six hj with rfl | rfl | rfl | rfl | rfl | rfl <;> assumption) (fun y hy => by
      rw [List.mem_singleton] at hy; rw [hy]; exact wz) (by simp) (ht.below hb)
  unfold textV at PR0
  unfold zoneV
  rcases has_cases z (pt a p b q) with hr | ⟨hok, hr | hr⟩
  · have ZH1 := Lib.hid (ZH.out _ hr)
    unfold bpair at ZH1
    simp only at ZH1
    obtain ⟨B, hB⟩ : ∃ B, B = bs (printT [z]).1 := ⟨_, rfl⟩
    obtain ⟨f, hf⟩ : ∃ f, f = (printT [z]).2 := ⟨_, rfl⟩
    rw [← hB, ← hf] at PR0
    clear ZH hr hB hf ht hv wz fa fp fb fq
    go_enter Tryz.func8, Tryz.ntmps8
    go_wp2_with (fail)
    refine (AL.out _ (by (repeat' (first | (with_reducible assumption) | (with_reducible exact Below.refl _ _) | (with_reducible refine below_wov ?_ ?_ _) | (with_reducible refine below_drewN ?_ _) | (with_reducible refine Below.drew ?_) | (with_reducible refine Below.alloc ?_ ?_ _) | (with_reducible refine Below.setCell ?_ ?_ _) | (with_reducible exact Nat.le_refl _) | omega | (simp only [World.size_alloc, World.size_setCell, World.size_drew, Wov_size, World.heap_drewN]; omega))))).mono ?_; rintro e w' ⟨rfl, q1, rfl⟩
    go_wp2_with (fail)
    refine (ZH1.out _).mono ?_; rintro e w' ⟨rfl, q2, rfl⟩
    go_wp2_with (fail)
    refine (PR0.out _ _ (by (repeat' (first | (with_reducible assumption) | (with_reducible exact Below.refl _ _) | (with_reducible refine below_wov ?_ ?_ _) | (with_reducible refine below_drewN ?_ _) | (with_reducible refine Below.drew ?_) | (with_reducible refine Below.alloc ?_ ?_ _) | (with_reducible refine Below.setCell ?_ ?_ _) | (with_reducible exact Nat.le_refl _) | omega | (simp only [World.size_alloc, World.size_setCell, World.size_drew, Wov_size, World.heap_drewN]; omega)))) (by (first | omega | ((simp only [World.size_alloc, World.size_setCell, World.size_drew, Wov_size, World.heap_drewN, Array.size_append]) <;> omega))) (by simp [go_sem]) (by simp [go_sem]) (by simp [go_sem]) (by simp [go_sem]) (by simp [go_sem]) (by simp [go_sem])).mono ?_; rintro e w' ⟨rfl, q3, rfl⟩
    go_wp2
    all_goals
      go_ret
      exact gives_bool (by simp) (by (repeat' (first | (with_reducible assumption) | (with_reducible exact Below.refl _ _) | (with_reducible refine below_wov ?_ ?_ _) | (with_reducible refine below_drewN ?_ _) | (with_reducible refine Below.drew ?_) | (with_reducible refine Below.alloc ?_ ?_ _) | (with_reducible refine Below.setCell ?_ ?_ _) | (with_reducible exact Nat.le_refl _) | omega | (simp only [World.size_alloc, World.size_setCell, World.size_drew, Wov_size, World.heap_drewN]; omega))))
  · obtain ⟨o, m, c, d, M, h3⟩ := three31 hr fa fb
    have ZH1 := Lib.hid (ZH.out _ hr)
    unfold bpair at ZH1
    simp only at ZH1
    have hp : printT [z] = (oneT z, 0) := by rw [print_ok (by simp [hok]) (by simp), List.map_cons, List.map_nil, join_single]
    rw [hp] at PR0
    simp only at PR0
    have hN := bs_size (oneT z)
    have hN2 := one_len hok
    obtain ⟨n, hn⟩ : ∃ n, n = (oneT z).length := ⟨_, rfl⟩
    obtain ⟨t, htx⟩ : ∃ t, t = oneT z := ⟨_, rfl⟩
    rw [← hn] at hN hN2
    rw [← htx] at h3 hn hN PR0
    have gt := Lib.hid (bs_at t)
    have EX := Lib.hid (bs_ext t)
    obtain ⟨S, hS⟩ : ∃ S, S = bs t := ⟨_, rfl⟩
    rw [← hS] at hN PR0 gt EX
    have H3 := Lib.hid h3
    have Hn := Lib.hid hn
    clear ZH hr hp htx hS ht hv wz fa fp fb fq h3 hn hok
    go_enter Tryz.func8, Tryz.ntmps8
    go_wp2_with (fail)
    refine (AL.out _ (by (repeat' (first | (with_reducible assumption) | (with_reducible exact Below.refl _ _) | (with_reducible refine below_wov ?_ ?_ _) | (with_reducible refine below_drewN ?_ _) | (with_reducible refine Below.drew ?_) | (with_reducible refine Below.alloc ?_ ?_ _) | (with_reducible refine Below.setCell ?_ ?_ _) | (with_reducible exact Nat.le_refl _) | omega | (simp only [World.size_alloc, World.size_setCell, World.size_drew, Wov_size, World.heap_drewN]; omega))))).mono ?_; rintro e w' ⟨rfl, q1, rfl⟩
    go_wp2_with (fail)
    refine (ZH1.out _).mono ?_; rintro e w' ⟨rfl, q2, rfl⟩
    go_wp2_with (fail)
    refine (PR0.out _ _ (by (repeat' (first | (with_reducible assumption) | (with_reducible exact Below.refl _ _) | (with_reducible refine below_wov ?_ ?_ _) | (with_reducible refine below_drewN ?_ _) | (with_reducible refine Below.drew ?_) | (with_reducible refine Below.alloc ?_ ?_ _) | (with_reducible refine Below.setCell ?_ ?_ _) | (with_reducible exact Nat.le_refl _) | omega | (simp only [World.size_alloc, World.size_setCell, World.size_drew, Wov_size, World.heap_drewN]; omega)))) (by (first | omega | ((simp only [World.size_alloc, World.size_setCell, World.size_drew, Wov_size, World.heap_drewN, Array.size_append]) <;> omega))) (by simp [go_sem]) (by simp [go_sem]) (by simp [go_sem]) (by simp [go_sem]) (by simp [go_sem]) (by simp [go_sem])).mono ?_; rintro e w' ⟨rfl, q3, rfl⟩
    go_wp2_with (fail)
    go_loopw [10, 11] (fun s10 s11 wr => ∃ k : Nat, s10 = .int .i64 (o k : Nat) ∧ s11 = .int .i64 k ∧ k ≤ 3 ∧ wr.cell? ⟨w.heap.size + 1, 0, none⟩ = some (.int .i64 a) ∧ wr.cell? ⟨w.heap.size + 1, 1, none⟩ = some (.int .i64 p) ∧ wr.cell? ⟨w.heap.size + 1, 2, none⟩ = some (.int .i64 b) ∧ wr.cell? ⟨w.heap.size + 1, 3, none⟩ = some (.int .i64 q) ∧ w.heap.size + 2 ≤ wr.heap.size ∧ Below w.heap.size w wr)
      (fun _ s11 _ => 3 - (intOf s11).toNat)
    case atStart => exact ⟨0, by rw [H3.out.o0]; rfl, rfl, Nat.zero_le _, by simp [go_sem], by simp [go_sem], by simp [go_sem], by simp [go_sem], by (first | omega | ((simp only [World.size_alloc, World.size_setCell, World.size_drew, Wov_size, World.heap_drewN, Array.size_append]) <;> omega)), by (repeat' (first | (with_reducible assumption) | (with_reducible exact Below.refl _ _) | (with_reducible refine below_wov ?_ ?_ _) | (with_reducible refine below_drewN ?_ _) | (with_reducible refine Below.drew ?_) | (with_reducible refine Below.alloc ?_ ?_ _) | (with_reducible refine Below.setCell ?_ ?_ _) | (with_reducible exact Nat.le_refl _) | omega | (simp only [World.size_alloc, World.size_setCell, World.size_drew, Wov_size, World.heap_drewN]; omega)))⟩
    case round =>
      clear ZH1 PR0 AL
      obtain ⟨k, rfl, rfl, hk, c0, c1, c2, c3, hs6, hBl⟩ := hrel
      have hsr := hBl.size
      by_cases hlt : k < 3
      · have hat := H3.out.at_ k hlt
        have hst := H3.out.step k hlt
        have WI0 := H3.out.yes k hlt
        obtain ⟨ok, hok⟩ : ∃ x, x = o k := ⟨_, rfl⟩
        obtain ⟨mk, hmk⟩ : ∃ x, x = m k := ⟨_, rfl⟩
        obtain ⟨ck, hck⟩ : ∃ x, x = c k := ⟨_, rfl⟩
        obtain ⟨dk, hdk⟩ : ∃ x, x = d k := ⟨_, rfl⟩
        obtain ⟨Mk, hMk⟩ : ∃ x, x = M k := ⟨_, rfl⟩
        rw [← hok, ← hmk] at hat hst
        rw [← hck, ← hdk, ← hMk] at hat WI0
        rw [← hok]
        have WI : Hid (∀ w', Calls Tryz.prog 22 #[.string (bs Mk), .bool ((ck.toNat : Int) == 91), .bool ((dk.toNat : Int) == 93), .int .i64 k, .agg #[.int .i64 a, .int .i64 p, .int .i64 b, .int .i64 q]] w' (Gives w' (.bool true))) := fun w' => by
          have x1 : ((ck.toNat : Int) == 91) = decide (ck = 91) := (dec_b ck 91 91 rfl).1
          have x2 : ((dk.toNat : Int) == 93) = decide (dk = 93) := (dec_b dk 93 93 rfl).1
          rw [x1, x2]; exact WI0 w'
        have hend : ok + mk + 1 < n := by
          have h1 := (List.getElem?_eq_some_iff.1 hat.last).1
          rw [Hn.out]; exact h1
        have HAT := Lib.hid hat
        have HST := Lib.hid hst
        have k0 : (0 : Int) ≤ (k : Int) := by omega
        have k1 : (k : Int) < 3 := by omega
        clear hat hst WI0 hok hmk hck hdk hMk H3
        go_wp2_with (fail)
        go_loopw [12] (fun s12 wr => ∃ j : Nat, s12 = .int .i64 j ∧ ok ≤ j ∧ j ≤ ok + mk + 1 ∧ wr.cell? ⟨w.heap.size + 1, 0, none⟩ = some (.int .i64 a) ∧ wr.cell? ⟨w.heap.size + 1, 1, none⟩ = some (.int .i64 p) ∧ wr.cell? ⟨w.heap.size + 1, 2, none⟩ = some (.int .i64 b) ∧ wr.cell? ⟨w.heap.size + 1, 3, none⟩ = some (.int .i64 q) ∧ w.heap.size + 2 ≤ wr.heap.size ∧ Below w.heap.size w wr)
          (fun s12 _ => (ok + mk + 1) - (intOf s12).toNat)
        case atStart => exact ⟨ok, rfl, Nat.le_refl _, by omega, c0, c1, c2, c3, hs6, hBl⟩
        case round =>
          clear c0 c1 c2 c3 hs6 hBl hsr
          obtain ⟨j, rfl, hoj, hj, c0, c1, c2, c3, hs6, hBl⟩ := hrel
          have hsr := hBl.size
          have j0 : (0 : Int) ≤ (j : Int) := by omega
          have j1 : (j : Int) < (n : Int) := by omega
          have j2 : j < n := by omega
          by_cases hjl : j < ok + mk + 1
          · obtain ⟨x, hx, x93, x41⟩ := HAT.out.free (j - ok) (by omega)
            rw [show ok + (j - ok) = j by omega] at hx
            have gx := gt.out j x hx
            have d1 : ((x.toNat : Int) != 93) = true := by
              have := (dec_b x 93 93 rfl).2; rw [decide_eq_false x93] at this; exact this
            have d2 : ((x.toNat : Int) != 41) = true := by
              have := (dec_b x 41 41 rfl).2; rw [decide_eq_false x41] at this; exact this
            clear hx x93 x41
            go_wp2_with (fail)
            go_roundw
            case rel => exact ⟨j + 1, by go_num, by omega, by omega, c0, c1, c2, c3, hs6, by (repeat' (first | (with_reducible assumption) | (with_reducible exact Below.refl _ _) | (with_reducible refine below_wov ?_ ?_ _) | (with_reducible refine below_drewN ?_ _) | (with_reducible refine Below.drew ?_) | (with_reducible refine Below.alloc ?_ ?_ _) | (with_reducible refine Below.setCell ?_ ?_ _) | (with_reducible exact Nat.le_refl _) | omega | (simp only [World.size_alloc, World.size_setCell, World.size_drew, Wov_size, World.heap_drewN]; omega)))⟩
            case measure => simp [intOf]; omega
          · have hje : j = ok + mk + 1 := by omega
            have gl := HAT.out.last
            rw [← hje] at gl
            have gx := gt.out j dk gl
            have g0 := gt.out ok ck HAT.out.first
            have hB : S.extract (ok + 1) j = bs Mk := by
              rw [EX.out, show j - (ok + 1) = mk by omega, HAT.out.mid]
            obtain ⟨BM, hBM⟩ : ∃ BM, BM = bs Mk := ⟨_, rfl⟩
            rw [← hBM] at hB WI
            have o0 : (0 : Int) ≤ (ok : Int) := by omega
            have oN : (ok : Int) < (n : Int) := by omega
            have oN2 : ok < n := by omega
            have oW : IntKind.i64.wrap ((ok : Int) + 1) = (ok : Int) + 1 := by rw [IntKind.wrap_i64]; omega
            have o1 : (0 : Int) ≤ (ok : Int) + 1 := by omega
            have o2 : (ok : Int) + 1 ≤ (j : Int) := by omega
            have o3 : (j : Int) ≤ (n : Int) := by omega
            have o4 : ok + 1 ≤ j := by omega
            have o5 : j ≤ n := by omega
            have o6 : ((ok : Int) + 1).toNat = ok + 1 := by omega
            have d0 : decide ((n : Int) ≤ (j : Int)) = false := decide_eq_false (by omega)
            have d00 : decide (n ≤ j) = false := decide_eq_false (by omega)
            have hnx : o (k + 1) = j + 1 := by rw [HST.out]; omega
            have HX := Lib.hid (And.intro hnx (And.intro hje (And.intro hlt hk)))
            have HDB := HAT.out.db
            have hk1 : (k : Int) < 3 := by omega
            clear HAT HST gl EX gt hBM hnx hje hjl Hn hoj hj hk hlt hend
            rcases HDB with hd | hd
            · have e1 : ((dk.toNat : Int) != 93) = true := by
                have := (dec_b dk 93 93 rfl).2; rw [hd] at this ⊢; rfl
              have e2 : ((dk.toNat : Int) != 41) = false := by
                have := (dec_b dk 41 41 rfl).2; rw [hd] at this ⊢; rfl
              clear hd
              go_wp2_with (fail)
              go_region_held3 (fun w' => w'.cell? ⟨w.heap.size + 1, 0, none⟩ = some (.int .i64 a) ∧ w'.cell? ⟨w.heap.size + 1, 1, none⟩ = some (.int .i64 p) ∧ w'.cell? ⟨w.heap.size + 1, 2, none⟩ = some (.int .i64 b) ∧ w'.cell? ⟨w.heap.size + 1, 3, none⟩ = some (.int .i64 q))
                ((simp [go_sem, *]))
                ((go_at_call 22; ((refine (WI.out _).mono ?_); rintro e w' ⟨rfl, qa, rfl⟩)))
              all_goals
                go_wp2_with (fail)
                go_roundw
                case rel => exact ⟨k + 1, by rw [HX.out.1]; go_num, by go_num, by have := HX.out.2.2; omega, by simp [go_sem, *], by simp [go_sem, *], by simp [go_sem, *], by simp [go_sem, *], by (first | omega | ((simp only [World.size_alloc, World.size_setCell, World.size_drew, Wov_size, World.heap_drewN, Array.size_append]) <;> omega)), by (repeat' (first | (with_reducible assumption) | (with_reducible exact Below.refl _ _) | (with_reducible refine below_wov ?_ ?_ _) | (with_reducible refine below_drewN ?_ _) | (with_reducible refine Below.drew ?_) | (with_reducible refine Below.alloc ?_ ?_ _) | (with_reducible refine Below.setCell ?_ ?_ _) | (with_reducible exact Nat.le_refl _) | omega | (simp only [World.size_alloc, World.size_setCell, World.size_drew, Wov_size, World.heap_drewN]; omega)))⟩
                case measure => have := HX.out.2.2.1; simp [intOf]; omega
            · have e1 : ((dk.toNat : Int) != 93) = false := by
                have := (dec_b dk 93 93 rfl).2; rw [hd] at this ⊢; rfl
              clear hd
              go_wp2_with (fail)
              go_region_held3 (fun w' => w'.cell? ⟨w.heap.size + 1, 0, none⟩ = some (.int .i64 a) ∧ w'.cell? ⟨w.heap.size + 1, 1, none⟩ = some (.int .i64 p) ∧ w'.cell? ⟨w.heap.size + 1, 2, none⟩ = some (.int .i64 b) ∧ w'.cell? ⟨w.heap.size + 1, 3, none⟩ = some (.int .i64 q))
                ((simp [go_sem, *]))
                ((go_at_call 22; ((refine (WI.out _).mono ?_); rintro e w' ⟨rfl, qa, rfl⟩)))
              all_goals
                go_wp2_with (fail)
                go_roundw
                case rel => exact ⟨k + 1, by rw [HX.out.1]; go_num, by go_num, by have := HX.out.2.2; omega, by simp [go_sem, *], by simp [go_sem, *], by simp [go_sem, *], by simp [go_sem, *], by (first | omega | ((simp only [World.size_alloc, World.size_setCell, World.size_drew, Wov_size, World.heap_drewN, Array.size_append]) <;> omega)), by (repeat' (first | (with_reducible assumption) | (with_reducible exact Below.refl _ _) | (with_reducible refine below_wov ?_ ?_ _) | (with_reducible refine below_drewN ?_ _) | (with_reducible refine Below.drew ?_) | (with_reducible refine Below.alloc ?_ ?_ _) | (with_reducible refine Below.setCell ?_ ?_ _) | (with_reducible exact Nat.le_refl _) | omega | (simp only [World.size_alloc, World.size_setCell, World.size_drew, Wov_size, World.heap_drewN]; omega)))⟩
                case measure => have := HX.out.2.2.1; simp [intOf]; omega
      · obtain rfl : k = 3 := by omega
        have h3 := H3.out.o3
        rw [← Hn.out] at h3
        rw [h3]
        clear H3 h3
        go_wp2
        all_goals
          go_ret
          exact gives_bool (by simp) (by (repeat' (first | (with_reducible assumption) | (with_reducible exact Below.refl _ _) | (with_reducible refine below_wov ?_ ?_ _) | (with_reducible refine below_drewN ?_ _) | (with_reducible refine Below.drew ?_) | (with_reducible refine Below.alloc ?_ ?_ _) | (with_reducible refine Below.setCell ?_ ?_ _) | (with_reducible exact Nat.le_refl _) | omega | (simp only [World.size_alloc, World.size_setCell, World.size_drew, Wov_size, World.heap_drewN]; omega))))
  · have ZH1 := Lib.hid (ZH.out _ hr)
    unfold bpair at ZH1
    simp only at ZH1
    have hp : printT [z] = (oneT z, 0) := by rw [print_ok (by simp [hok]) (by simp), List.map_cons, List.map_nil, join_single]
    rw [hp] at PR0
    simp only at PR0
    have hne := (one_read hok).2.2.2
    have hN := bs_size (oneT z)
    obtain ⟨n, hn⟩ : ∃ n, n = (oneT z).length := ⟨_, rfl⟩
    have hn0 : 0 < n := by
      rw [hn]
      cases hh : oneT z with
      | nil => exact absurd hh hne
      | cons => simp
    rw [← hn] at hN
    obtain ⟨S, hS⟩ : ∃ S, S = bs (oneT z) := ⟨_, rfl⟩
    rw [← hS] at hN PR0
    have d0 : decide ((0 : Int) < (n : Int)) = true := decide_eq_true (by omega)
    clear ZH hr hp hne hn hS ht hv wz fa fp fb fq hok
    go_enter Tryz.func8, Tryz.ntmps8
    go_wp2_with (fail)
    refine (AL.out _ (by (repeat' (first | (with_reducible assumption) | (with_reducible exact Below.refl _ _) | (with_reducible refine below_wov ?_ ?_ _) | (with_reducible refine below_drewN ?_ _) | (with_reducible refine Below.drew ?_) | (with_reducible refine Below.alloc ?_ ?_ _) | (with_reducible refine Below.setCell ?_ ?_ _) | (with_reducible exact Nat.le_refl _) | omega | (simp only [World.size_alloc, World.size_setCell, World.size_drew, Wov_size, World.heap_drewN]; omega))))).mono ?_; rintro e w' ⟨rfl, q1, rfl⟩
    go_wp2_with (fail)
    refine (ZH1.out _).mono ?_; rintro e w' ⟨rfl, q2, rfl⟩
    go_wp2_with (fail)
    refine (PR0.out _ _ (by (repeat' (first | (with_reducible assumption) | (with_reducible exact Below.refl _ _) | (with_reducible refine below_wov ?_ ?_ _) | (with_reducible refine below_drewN ?_ _) | (with_reducible refine Below.drew ?_) | (with_reducible refine Below.alloc ?_ ?_ _) | (with_reducible refine Below.setCell ?_ ?_ _) | (with_reducible exact Nat.le_refl _) | omega | (simp only [World.size_alloc, World.size_setCell, World.size_drew, Wov_size, World.heap_drewN]; omega)))) (by (first | omega | ((simp only [World.size_alloc, World.size_setCell, World.size_drew, Wov_size, World.heap_drewN, Array.size_append]) <;> omega))) (by simp [go_sem]) (by simp [go_sem]) (by simp [go_sem]) (by simp [go_sem]) (by simp [go_sem]) (by simp [go_sem])).mono ?_; rintro e w' ⟨rfl, q3, rfl⟩
    go_wp2
    all_goals
      go_ret
      exact gives_bool (by simp) (by (repeat' (first | (with_reducible assumption) | (with_reducible exact Below.refl _ _) | (with_reducible refine below_wov ?_ ?_ _) | (with_reducible refine below_drewN ?_ _) | (with_reducible refine Below.drew ?_) | (with_reducible refine Below.alloc ?_ ?_ _) | (with_reducible refine Below.setCell ?_ ?_ _) | (with_reducible exact Nat.le_refl _) | omega | (simp only [World.size_alloc, World.size_setCell, World.size_drew, Wov_size, World.heap_drewN]; omega))))
#print axioms walk
end Go.Proofs.YtpmpapenjcemjaaGreatDoor.textSays
