/- The law TextBack (walk): a list's text is parsed to it; a text that is parsed is that of what it is parsed to. No condition but that the table of powers and strconv.ErrRange lie as they are laid. -/
import Derived.Test.YtpmpapenjcemjaaGreatDoorY1
import Derived.Test.YtpmpapenjcemjaaGreatDoorB2
import Derived.Test.YtpmpapenjcemjaaGreatDoorFrame2
namespace Go.Proofs.YtpmpapenjcemjaaGreatDoor.textBack
open Go.ChangeShapes Go.WideShapes Go.ChangeAt Go.RowKit
set_option linter.unusedVariables false
set_option linter.unusedSimpArgs false
attribute [local go_sem] Nat.add_assoc Nat.add_lt_add_iff_left lit_lt_add

set_option maxRecDepth 100000 in
set_option maxHeartbeats 4000000 in
theorem walk (q : Option Addr) (cq : Nat) (L : List (Nat → Int)) (s : List UInt8) (w : World) (hS : SlZ w q L) (hF : ∀ z, z ∈ L → FitsZ z) (hN : L.length ≤ maxLen) (hQ : q = none → cq = 0) (hs : s.length ≤ maxLen) (ht : Tab w) (hv : ErrR w) :
    Calls Tryz.prog 6 #[.slice q L.length cq, .string (bs s)] w (Gives w (.bool true)) := by
  unfold maxLen at hN hs
  have AL := Lib.hid (alive31 w ht hv)
  have hsz := bs_size s
  by_cases h1 : 5000 < L.length ∨ 200000 < s.length
  · obtain ⟨n, hn⟩ : ∃ n, n = L.length := ⟨_, rfl⟩
    obtain ⟨S, hS⟩ : ∃ S, S = bs s := ⟨_, rfl⟩
    rw [← hn, ← hS]
    rw [← hS] at hsz
    rw [← hn, ← hsz] at h1
    clear hS hF ht hv hn hQ hsz
    by_cases h2 : 5000 < n
    · have d1 : decide ((5000 : Int) < (n : Int)) = true := decide_eq_true (by omega)
      clear h1
      go_enter Tryz.func6, Tryz.ntmps6
      go_wp2_with (fail)
      refine AL.out.mono ?_; rintro e w' ⟨rfl, q1, rfl⟩
      go_wp2
      all_goals
        go_ret
        exact gives_bool rfl (by (repeat' (first | (with_reducible assumption) | (with_reducible exact Below.refl _ _) | (with_reducible refine below_wov ?_ ?_ _) | (with_reducible refine below_drewN ?_ _) | (with_reducible refine Below.drew ?_) | (with_reducible refine Below.alloc ?_ ?_ _) | (with_reducible refine Below.setCell ?_ ?_ _) | (with_reducible exact Nat.le_refl _) | omega | (simp only [World.size_alloc, World.size_setCell, World.size_drew, Wov_size, World.heap_drewN]; omega))))
    · have d1 : decide ((5000 : Int) < (n : Int)) = false := decide_eq_false (by omega)
      have d2 : decide ((200000 : Int) < (S.size : Int)) = true := decide_eq_true (by omega)
      clear h1
      go_enter Tryz.func6, Tryz.ntmps6
      go_wp2_with (fail)
      refine AL.out.mono ?_; rintro e w' ⟨rfl, q1, rfl⟩
      go_wp2
      all_goals
        go_ret
        exact gives_bool rfl (by (repeat' (first | (with_reducible assumption) | (with_reducible exact Below.refl _ _) | (with_reducible refine below_wov ?_ ?_ _) | (with_reducible refine below_drewN ?_ _) | (with_reducible refine Below.drew ?_) | (with_reducible refine Below.alloc ?_ ?_ _) | (with_reducible refine Below.setCell ?_ ?_ _) | (with_reducible exact Nat.le_refl _) | omega | (simp only [World.size_alloc, World.size_setCell, World.size_drew, Wov_size, World.heap_drewN]; omega))))
  · have hL : L.length ≤ 5000 := by omega
    have hl : s.length ≤ 200000 := by omega
    have d1 : decide ((5000 : Int) < (L.length : Int)) = false := decide_eq_false (by omega)
    have d2 : decide ((200000 : Int) < ((bs s).size : Int)) = false := by rw [hsz]; exact decide_eq_false (by omega)
    -- the text of l
    obtain ⟨r, hr⟩ : ∃ r, r = printT L := ⟨_, rfl⟩
    obtain ⟨b, e0⟩ := r
    have P1 : Hid (∀ w', Below w.heap.size w w' → Calls Tryz.prog 19 #[.slice q L.length cq] w' (Gives w' (.tuple #[.string (bs b), .int .i64 e0]))) := fun w' hb => by
      have := print_any q cq L w' (hS.below hb) hF (by omega) (ht.below hb)
      rw [← hr] at this; exact this
    have P2 : e0 = 0 → Hid (∃ M : List (Nat → Int), (∀ w', Below w.heap.size w w' → Calls Tryz.prog 15 #[.string (bs b)] w' (fun e W => ∃ p c, e = .returned (.tuple #[.slice p L.length c, .int .i64 0, .int .i64 0]) ∧ SlZ W p M ∧ ∃ q, W = Wov w' q)) ∧
        (∀ w' p c, Below w.heap.size w w' → SlZ w' p M → Calls Tryz.prog 17 #[.slice p L.length c, .slice q L.length cq] w' (Gives w' (.bool true)))) := fun h0 => by
      have hb1 : (printT L).1 = b := by rw [← hr]
      have hb2 : (printT L).2 = 0 := by rw [← hr]; exact h0
      have hpl := print_len L
      obtain ⟨M, m1, m2⟩ := parse_print (by omega) hb2
      have ml := sameZs_len m2
      rw [hb1] at m1 hpl
      refine ⟨M, fun w' hb => ?_, fun w' p c hb hp => ?_⟩
      · have := parse_any b (.inl (by omega)) w' (hv.below hb)
        rw [m1] at this
        refine this.mono ?_
        rintro e W ⟨⟨p, c, he, _, ho⟩, hq⟩
        refine ⟨p, c, ?_, ho.slz, hq⟩
        rw [← ml]; exact he
      · have := same31_any p q c cq M L w' hp (hS.below hb) (by omega) (by omega)
        rw [sameZs_same m2, ml] at this
        exact this
    -- the text that comes in
    obtain ⟨t, ht0⟩ : ∃ t, t = parseT s := ⟨_, rfl⟩
    obtain ⟨Z, a, f⟩ := t
    have P3 : Hid (∀ w', Below w.heap.size w w' → Calls Tryz.prog 15 #[.string (bs s)] w' (fun e W => ∃ p c, e = .returned (.tuple #[.slice p Z.length c, .int .i64 a, .int .i64 f]) ∧ SlZ W p Z ∧ ∃ q, W = Wov w' q)) := fun w' hb => by
      have := parse_any s (.inl (by omega)) w' (hv.below hb)
      rw [← ht0] at this
      refine this.mono ?_
      rintro e W ⟨⟨p, c, he, _, ho⟩, hq⟩
      exact ⟨p, c, he, ho.slz, hq⟩
    have P4 : f = 0 → Hid (∀ w' p c, Below w.heap.size w w' → SlZ w' p Z → Calls Tryz.prog 19 #[.slice p Z.length c] w' (Gives w' (.tuple #[.string (bs s), .int .i64 0]))) := fun h0 => by
      have hp := print_parse (s := s) (L := Z) (x := a) (by rw [← ht0, h0])
      obtain ⟨h1, h2⟩ := print_all (L := Z) (by rw [hp])
      intro w' p c hb hpz
      have := print_any p c Z w' hpz (all_fits h1) (by omega) (ht.below hb)
      rw [hp] at this; exact this
    have P5 : f ≠ 0 → Z = [] := fun h0 => parse_nil ht0.symm h0
    have hbb : ((bs s).toList == (bs s).toList) = true := by simp
    obtain ⟨n, hn⟩ : ∃ n, n = L.length := ⟨_, rfl⟩
    obtain ⟨S, hSS⟩ : ∃ S, S = bs s := ⟨_, rfl⟩
    obtain ⟨B, hB⟩ : ∃ B, B = bs b := ⟨_, rfl⟩
    rw [← hn] at P1 P2 d1 ⊢
    rw [← hSS] at P3 P4 d2 hbb ⊢
    rw [← hB] at P1 P2
    clear h1 hL hl hS hF ht hv hr ht0 hn hSS hB hQ hsz hN hs
    have FIN : ∀ (a0 : Act) (q0 : Gr), True := fun _ _ => trivial
    clear FIN
    by_cases he : e0 = 0
    · obtain ⟨M, PA, SM⟩ := (P2 he).out
      have PA := Lib.hid PA
      have SM := Lib.hid SM
      subst he
      clear P2
      by_cases hf : f = 0
      · have PB := P4 hf
        subst hf
        clear P4 P5
        go_enter Tryz.func6, Tryz.ntmps6
        go_wp2_with (fail)
        refine AL.out.mono ?_; rintro e w' ⟨rfl, q1, rfl⟩
        go_wp2_with (fail)
        refine (P1.out _ (by (repeat' (first | (with_reducible assumption) | (with_reducible exact Below.refl _ _) | (with_reducible refine below_wov ?_ ?_ _) | (with_reducible refine below_drewN ?_ _) | (with_reducible refine Below.drew ?_) | (with_reducible refine Below.alloc ?_ ?_ _) | (with_reducible refine Below.setCell ?_ ?_ _) | (with_reducible exact Nat.le_refl _) | omega | (simp only [World.size_alloc, World.size_setCell, World.size_drew, Wov_size, World.heap_drewN]; omega))))).mono ?_; rintro e w' ⟨rfl, q2, rfl⟩
        go_wp2_with (fail)
        refine (PA.out _ (by (repeat' (first | (with_reducible assumption) | (with_reducible exact Below.refl _ _) | (with_reducible refine below_wov ?_ ?_ _) | (with_reducible refine below_drewN ?_ _) | (with_reducible refine Below.drew ?_) | (with_reducible refine Below.alloc ?_ ?_ _) | (with_reducible refine Below.setCell ?_ ?_ _) | (with_reducible exact Nat.le_refl _) | omega | (simp only [World.size_alloc, World.size_setCell, World.size_drew, Wov_size, World.heap_drewN]; omega))))).mono ?_; rintro e w' ⟨p1, c1, rfl, s1, q3, rfl⟩
        go_wp2_with (fail)
        (try simp only [drew_Wov, Wov_Wov, Array.append_assoc] at s1)
        refine (SM.out _ p1 c1 (by (repeat' (first | (with_reducible assumption) | (with_reducible exact Below.refl _ _) | (with_reducible refine below_wov ?_ ?_ _) | (with_reducible refine below_drewN ?_ _) | (with_reducible refine Below.drew ?_) | (with_reducible refine Below.alloc ?_ ?_ _) | (with_reducible refine Below.setCell ?_ ?_ _) | (with_reducible exact Nat.le_refl _) | omega | (simp only [World.size_alloc, World.size_setCell, World.size_drew, Wov_size, World.heap_drewN]; omega)))) (s1.below (by (repeat' (first | (with_reducible assumption) | (with_reducible exact Below.refl _ _) | (with_reducible refine below_wov ?_ ?_ _) | (with_reducible refine below_drewN ?_ _) | (with_reducible refine Below.drew ?_) | (with_reducible refine Below.alloc ?_ ?_ _) | (with_reducible refine Below.setCell ?_ ?_ _) | (with_reducible exact Nat.le_refl _) | omega | (simp only [World.size_alloc, World.size_setCell, World.size_drew, Wov_size, World.heap_drewN]; omega)))))).mono ?_; rintro e w' ⟨rfl, q4, rfl⟩
        go_wp2_with (fail)
        refine (P3.out _ (by (repeat' (first | (with_reducible assumption) | (with_reducible exact Below.refl _ _) | (with_reducible refine below_wov ?_ ?_ _) | (with_reducible refine below_drewN ?_ _) | (with_reducible refine Below.drew ?_) | (with_reducible refine Below.alloc ?_ ?_ _) | (with_reducible refine Below.setCell ?_ ?_ _) | (with_reducible exact Nat.le_refl _) | omega | (simp only [World.size_alloc, World.size_setCell, World.size_drew, Wov_size, World.heap_drewN]; omega))))).mono ?_; rintro e w' ⟨p2, c2, rfl, s2, q5, rfl⟩
        go_wp2_with (fail)
        (try simp only [drew_Wov, Wov_Wov, Array.append_assoc] at s2)
        refine (PB.out _ p2 c2 (by (repeat' (first | (with_reducible assumption) | (with_reducible exact Below.refl _ _) | (with_reducible refine below_wov ?_ ?_ _) | (with_reducible refine below_drewN ?_ _) | (with_reducible refine Below.drew ?_) | (with_reducible refine Below.alloc ?_ ?_ _) | (with_reducible refine Below.setCell ?_ ?_ _) | (with_reducible exact Nat.le_refl _) | omega | (simp only [World.size_alloc, World.size_setCell, World.size_drew, Wov_size, World.heap_drewN]; omega)))) (s2.below (by (repeat' (first | (with_reducible assumption) | (with_reducible exact Below.refl _ _) | (with_reducible refine below_wov ?_ ?_ _) | (with_reducible refine below_drewN ?_ _) | (with_reducible refine Below.drew ?_) | (with_reducible refine Below.alloc ?_ ?_ _) | (with_reducible refine Below.setCell ?_ ?_ _) | (with_reducible exact Nat.le_refl _) | omega | (simp only [World.size_alloc, World.size_setCell, World.size_drew, Wov_size, World.heap_drewN]; omega)))))).mono ?_; rintro e w' ⟨rfl, q6, rfl⟩
        go_wp2
        all_goals
          go_ret
          exact gives_bool (by simp) (by (repeat' (first | (with_reducible assumption) | (with_reducible exact Below.refl _ _) | (with_reducible refine below_wov ?_ ?_ _) | (with_reducible refine below_drewN ?_ _) | (with_reducible refine Below.drew ?_) | (with_reducible refine Below.alloc ?_ ?_ _) | (with_reducible refine Below.setCell ?_ ?_ _) | (with_reducible exact Nat.le_refl _) | omega | (simp only [World.size_alloc, World.size_setCell, World.size_drew, Wov_size, World.heap_drewN]; omega))))
      · obtain rfl := P5 hf
        have df : (f != 0) = true := by rw [bne_iff_ne]; exact hf
        clear P4 P5 hf
        go_enter Tryz.func6, Tryz.ntmps6
        go_wp2_with (fail)
        refine AL.out.mono ?_; rintro e w' ⟨rfl, q1, rfl⟩
        go_wp2_with (fail)
        refine (P1.out _ (by (repeat' (first | (with_reducible assumption) | (with_reducible exact Below.refl _ _) | (with_reducible refine below_wov ?_ ?_ _) | (with_reducible refine below_drewN ?_ _) | (with_reducible refine Below.drew ?_) | (with_reducible refine Below.alloc ?_ ?_ _) | (with_reducible refine Below.setCell ?_ ?_ _) | (with_reducible exact Nat.le_refl _) | omega | (simp only [World.size_alloc, World.size_setCell, World.size_drew, Wov_size, World.heap_drewN]; omega))))).mono ?_; rintro e w' ⟨rfl, q2, rfl⟩
        go_wp2_with (fail)
        refine (PA.out _ (by (repeat' (first | (with_reducible assumption) | (with_reducible exact Below.refl _ _) | (with_reducible refine below_wov ?_ ?_ _) | (with_reducible refine below_drewN ?_ _) | (with_reducible refine Below.drew ?_) | (with_reducible refine Below.alloc ?_ ?_ _) | (with_reducible refine Below.setCell ?_ ?_ _) | (with_reducible exact Nat.le_refl _) | omega | (simp only [World.size_alloc, World.size_setCell, World.size_drew, Wov_size, World.heap_drewN]; omega))))).mono ?_; rintro e w' ⟨p1, c1, rfl, s1, q3, rfl⟩
        go_wp2_with (fail)
        (try simp only [drew_Wov, Wov_Wov, Array.append_assoc] at s1)
        refine (SM.out _ p1 c1 (by (repeat' (first | (with_reducible assumption) | (with_reducible exact Below.refl _ _) | (with_reducible refine below_wov ?_ ?_ _) | (with_reducible refine below_drewN ?_ _) | (with_reducible refine Below.drew ?_) | (with_reducible refine Below.alloc ?_ ?_ _) | (with_reducible refine Below.setCell ?_ ?_ _) | (with_reducible exact Nat.le_refl _) | omega | (simp only [World.size_alloc, World.size_setCell, World.size_drew, Wov_size, World.heap_drewN]; omega)))) (s1.below (by (repeat' (first | (with_reducible assumption) | (with_reducible exact Below.refl _ _) | (with_reducible refine below_wov ?_ ?_ _) | (with_reducible refine below_drewN ?_ _) | (with_reducible refine Below.drew ?_) | (with_reducible refine Below.alloc ?_ ?_ _) | (with_reducible refine Below.setCell ?_ ?_ _) | (with_reducible exact Nat.le_refl _) | omega | (simp only [World.size_alloc, World.size_setCell, World.size_drew, Wov_size, World.heap_drewN]; omega)))))).mono ?_; rintro e w' ⟨rfl, q4, rfl⟩
        go_wp2_with (fail)
        refine (P3.out _ (by (repeat' (first | (with_reducible assumption) | (with_reducible exact Below.refl _ _) | (with_reducible refine below_wov ?_ ?_ _) | (with_reducible refine below_drewN ?_ _) | (with_reducible refine Below.drew ?_) | (with_reducible refine Below.alloc ?_ ?_ _) | (with_reducible refine Below.setCell ?_ ?_ _) | (with_reducible exact Nat.le_refl _) | omega | (simp only [World.size_alloc, World.size_setCell, World.size_drew, Wov_size, World.heap_drewN]; omega))))).mono ?_; rintro e w' ⟨p2, c2, rfl, s2, q5, rfl⟩
        go_wp2
        all_goals
          go_ret
          exact gives_bool (by simp) (by (repeat' (first | (with_reducible assumption) | (with_reducible exact Below.refl _ _) | (with_reducible refine below_wov ?_ ?_ _) | (with_reducible refine below_drewN ?_ _) | (with_reducible refine Below.drew ?_) | (with_reducible refine Below.alloc ?_ ?_ _) | (with_reducible refine Below.setCell ?_ ?_ _) | (with_reducible exact Nat.le_refl _) | omega | (simp only [World.size_alloc, World.size_setCell, World.size_drew, Wov_size, World.heap_drewN]; omega))))
    · have de : (e0 == 0) = false := by rw [beq_eq_false_iff_ne]; exact he
      clear P2 he
      by_cases hf : f = 0
      · have PB := P4 hf
        subst hf
        clear P4 P5
        go_enter Tryz.func6, Tryz.ntmps6
        go_wp2_with (fail)
        refine AL.out.mono ?_; rintro e w' ⟨rfl, q1, rfl⟩
        go_wp2_with (fail)
        refine (P1.out _ (by (repeat' (first | (with_reducible assumption) | (with_reducible exact Below.refl _ _) | (with_reducible refine below_wov ?_ ?_ _) | (with_reducible refine below_drewN ?_ _) | (with_reducible refine Below.drew ?_) | (with_reducible refine Below.alloc ?_ ?_ _) | (with_reducible refine Below.setCell ?_ ?_ _) | (with_reducible exact Nat.le_refl _) | omega | (simp only [World.size_alloc, World.size_setCell, World.size_drew, Wov_size, World.heap_drewN]; omega))))).mono ?_; rintro e w' ⟨rfl, q2, rfl⟩
        go_wp2_with (fail)
        refine (P3.out _ (by (repeat' (first | (with_reducible assumption) | (with_reducible exact Below.refl _ _) | (with_reducible refine below_wov ?_ ?_ _) | (with_reducible refine below_drewN ?_ _) | (with_reducible refine Below.drew ?_) | (with_reducible refine Below.alloc ?_ ?_ _) | (with_reducible refine Below.setCell ?_ ?_ _) | (with_reducible exact Nat.le_refl _) | omega | (simp only [World.size_alloc, World.size_setCell, World.size_drew, Wov_size, World.heap_drewN]; omega))))).mono ?_; rintro e w' ⟨p2, c2, rfl, s2, q5, rfl⟩
        go_wp2_with (fail)
        (try simp only [drew_Wov, Wov_Wov, Array.append_assoc] at s2)
        refine (PB.out _ p2 c2 (by (repeat' (first | (with_reducible assumption) | (with_reducible exact Below.refl _ _) | (with_reducible refine below_wov ?_ ?_ _) | (with_reducible refine below_drewN ?_ _) | (with_reducible refine Below.drew ?_) | (with_reducible refine Below.alloc ?_ ?_ _) | (with_reducible refine Below.setCell ?_ ?_ _) | (with_reducible exact Nat.le_refl _) | omega | (simp only [World.size_alloc, World.size_setCell, World.size_drew, Wov_size, World.heap_drewN]; omega)))) (s2.below (by (repeat' (first | (with_reducible assumption) | (with_reducible exact Below.refl _ _) | (with_reducible refine below_wov ?_ ?_ _) | (with_reducible refine below_drewN ?_ _) | (with_reducible refine Below.drew ?_) | (with_reducible refine Below.alloc ?_ ?_ _) | (with_reducible refine Below.setCell ?_ ?_ _) | (with_reducible exact Nat.le_refl _) | omega | (simp only [World.size_alloc, World.size_setCell, World.size_drew, Wov_size, World.heap_drewN]; omega)))))).mono ?_; rintro e w' ⟨rfl, q6, rfl⟩
        go_wp2
        all_goals
          go_ret
          exact gives_bool (by simp) (by (repeat' (first | (with_reducible assumption) | (with_reducible exact Below.refl _ _) | (with_reducible refine below_wov ?_ ?_ _) | (with_reducible refine below_drewN ?_ _) | (with_reducible refine Below.drew ?_) | (with_reducible refine Below.alloc ?_ ?_ _) | (with_reducible refine Below.setCell ?_ ?_ _) | (with_reducible exact Nat.le_refl _) | omega | (simp only [World.size_alloc, World.size_setCell, World.size_drew, Wov_size, World.heap_drewN]; omega))))
      · obtain rfl := P5 hf
        have df : (f != 0) = true := by rw [bne_iff_ne]; exact hf
        clear P4 P5 hf
        go_enter Tryz.func6, Tryz.ntmps6
        go_wp2_with (fail)
        refine AL.out.mono ?_; rintro e w' ⟨rfl, q1, rfl⟩
        go_wp2_with (fail)
        refine (P1.out _ (by (repeat' (first | (with_reducible assumption) | (with_reducible exact Below.refl _ _) | (with_reducible refine below_wov ?_ ?_ _) | (with_reducible refine below_drewN ?_ _) | (with_reducible refine Below.drew ?_) | (with_reducible refine Below.alloc ?_ ?_ _) | (with_reducible refine Below.setCell ?_ ?_ _) | (with_reducible exact Nat.le_refl _) | omega | (simp only [World.size_alloc, World.size_setCell, World.size_drew, Wov_size, World.heap_drewN]; omega))))).mono ?_; rintro e w' ⟨rfl, q2, rfl⟩
        go_wp2_with (fail)
        refine (P3.out _ (by (repeat' (first | (with_reducible assumption) | (with_reducible exact Below.refl _ _) | (with_reducible refine below_wov ?_ ?_ _) | (with_reducible refine below_drewN ?_ _) | (with_reducible refine Below.drew ?_) | (with_reducible refine Below.alloc ?_ ?_ _) | (with_reducible refine Below.setCell ?_ ?_ _) | (with_reducible exact Nat.le_refl _) | omega | (simp only [World.size_alloc, World.size_setCell, World.size_drew, Wov_size, World.heap_drewN]; omega))))).mono ?_; rintro e w' ⟨p2, c2, rfl, s2, q5, rfl⟩
        go_wp2
        all_goals
          go_ret
          exact gives_bool (by simp) (by (repeat' (first | (with_reducible assumption) | (with_reducible exact Below.refl _ _) | (with_reducible refine below_wov ?_ ?_ _) | (with_reducible refine below_drewN ?_ _) | (with_reducible refine Below.drew ?_) | (with_reducible refine Below.alloc ?_ ?_ _) | (with_reducible refine Below.setCell ?_ ?_ _) | (with_reducible exact Nat.le_refl _) | omega | (simp only [World.size_alloc, World.size_setCell, World.size_drew, Wov_size, World.heap_drewN]; omega))))
#print axioms walk
end Go.Proofs.YtpmpapenjcemjaaGreatDoor.textBack
