/- lex.row: the token that a row of letters and digits is. No condition but on size, and what some package variables hold. -/
import Derived.Test.YtccbhblklhmcpaaGreatDoorQ11
import Derived.Test.YtccbhblklhmcpaaGreatDoorQ6
namespace Go.Proofs.YtccbhblklhmcpaaGreatDoor
set_option linter.unusedSimpArgs false
set_option linter.unusedVariables false
open Go Go.RowKit Go.Shelf
attribute [local go_sem] Nat.add_assoc Nat.add_lt_add_iff_left lit_lt_add

theorem toError_any (s : List UInt8) (hl : s.length ≤ 140737488355328) (c : Int) (hc : c = 1 ∨ c = 2) (w : World) (hL : Laid w) :
    Calls Tryz.prog 55 #[.string ⟨#[80, 97, 114, 115, 101, 85, 105, 110, 116]⟩, .string (bs s), .int .i64 10, .int .i64 62, .iface 120 (.int .i64 c)] w (fun e w' => ∃ N, Gives w (.iface 123 (.pointer (some ⟨N, 0, none⟩))) e w') := by
  rcases hc with rfl | rfl
  · obtain ⟨tp, p, hv⟩ := hL.rng
    refine (Any.strconv_toError_range Tryz.lays245 _ (bs s) 10 62 (.iface tp p) w (by rw [bs_size]; omega) (by have h0 := World.var?_cell Tryz.lays245.m16 hv 0; simpa using h0) (Or.inr ⟨tp, p, rfl⟩)).mono ?_
    rintro e w' ⟨N, h1, _, _, h2⟩
    exact ⟨N, gives_below h1 h2⟩
  · obtain ⟨tp, p, hv⟩ := hL.syn
    refine (Any.strconv_toError_syntax Tryz.lays245 _ (bs s) 10 62 (.iface tp p) w (by rw [bs_size]; omega) (by have h0 := World.var?_cell Tryz.lays245.m15 hv 0; simpa using h0) (Or.inr ⟨tp, p, rfl⟩)).mono ?_
    rintro e w' ⟨N, h1, _, _, h2⟩
    exact ⟨N, gives_below h1 h2⟩
/-- What strconv.ParseUint hands back. -/
def puT (s : List UInt8) (w : World) (e : Ending) (w' : World) : Prop :=
  (num62 s ∧ Gives w (.tuple #[.int .u64 (valD 0 s), .nilIface]) e w') ∨ (¬ num62 s ∧ ∃ (n : Int) (N : Nat), Gives w (.tuple #[.int .u64 n, .iface 123 (.pointer (some ⟨N, 0, none⟩))]) e w')
set_option maxRecDepth 10000 in
set_option maxHeartbeats 2000000 in
theorem puint_any (s : List UInt8) (hs : s ≠ []) (hl : s.length ≤ 140737488355328) (w : World) (hL : Laid w) : Calls Tryz.prog 98 #[.string (bs s), .int .i64 10, .int .i64 62] w (puT s w) := by
  have PI := Lib.hid (fun w' => puintI_any s hs hl w')
  have TE : Hid (∀ (c : Int) w', (c = 1 ∨ c = 2) → Below w.heap.size w w' → Calls Tryz.prog 55 #[.string ⟨#[80, 97, 114, 115, 101, 85, 105, 110, 116]⟩, .string (bs s), .int .i64 10, .int .i64 62, .iface 120 (.int .i64 c)] w' (fun e w'' => ∃ N, Gives w' (.iface 123 (.pointer (some ⟨N, 0, none⟩))) e w'')) := fun c w' hc hb => toError_any s hl c hc w' (hL.below hb)
  obtain ⟨S, hS⟩ : ∃ S, S = bs s := ⟨_, rfl⟩
  rw [← hS] at PI TE ⊢
  clear hS hs hl hL
  go_enter Tryz.func98, Tryz.ntmps98
  go_wp2_with (fail)
  refine (PI.out _).mono ?_
  rintro e w' (⟨hn, rfl, q1, rfl⟩ | ⟨hn, n, c, hc, rfl, q1, rfl⟩)
  · have HN := Lib.hid hn
    clear hn TE PI
    go_wp2_with (fail)
    go_ret2
    exact .inl ⟨HN.out, gives_end rfl (by (repeat' (first | (with_reducible assumption) | (with_reducible exact Below.refl _ _) | (with_reducible refine below_wov ?_ ?_ _) | (with_reducible refine below_drewN ?_ _) | (with_reducible refine Below.drew ?_) | (with_reducible refine Below.alloc ?_ ?_ _) | (with_reducible refine Below.setCell ?_ ?_ _) | (with_reducible exact Nat.le_refl _) | omega | (simp only [World.size_alloc, World.size_setCell, World.size_drew, Wov_size, World.heap_drewN]; omega))))⟩
  · have HN := Lib.hid hn
    have T := Lib.hid (fun w' => TE.out c w' hc)
    clear hn TE PI hc
    go_wp2_with (fail)
    refine (T.out _ (by (repeat' (first | (with_reducible assumption) | (with_reducible exact Below.refl _ _) | (with_reducible refine below_wov ?_ ?_ _) | (with_reducible refine below_drewN ?_ _) | (with_reducible refine Below.drew ?_) | (with_reducible refine Below.alloc ?_ ?_ _) | (with_reducible refine Below.setCell ?_ ?_ _) | (with_reducible exact Nat.le_refl _) | omega | (simp only [World.size_alloc, World.size_setCell, World.size_drew, Wov_size, World.heap_drewN]; omega))))).mono ?_; rintro e w' ⟨N, rfl, q2, rfl⟩
    go_wp2_with (fail)
    go_ret2
    exact .inr ⟨HN.out, n, N, gives_end rfl (by (repeat' (first | (with_reducible assumption) | (with_reducible exact Below.refl _ _) | (with_reducible refine below_wov ?_ ?_ _) | (with_reducible refine below_drewN ?_ _) | (with_reducible refine Below.drew ?_) | (with_reducible refine Below.alloc ?_ ?_ _) | (with_reducible refine Below.setCell ?_ ?_ _) | (with_reducible exact Nat.le_refl _) | omega | (simp only [World.size_alloc, World.size_setCell, World.size_drew, Wov_size, World.heap_drewN]; omega))))⟩
theorem num62_iff {s : List UInt8} : numB s = true ↔ num62 s ∧ valD 0 s < 288230376151711744 ∧ Lib.decDigits (valD 0 s) = s := by
  unfold numB num62
  rw [Bool.and_eq_true, decide_eq_true_eq]
  constructor
  · rintro ⟨h1, h2⟩
    exact ⟨⟨(canonD_ne h1).2, by omega⟩, h2, dec_val _ s rfl h1⟩
  · rintro ⟨h1, h2, h3⟩
    exact ⟨by rw [← h3]; exact canon_dec _, h2⟩
/-- A token as a value. -/
def tkV (k : Nat) (s : List UInt8) (i : Int) : Value := .agg #[.int .u8 k, .string (bs s), .int .i64 i]
/-- What lex.row hands back. -/
def rowV (s : List UInt8) : Value := .tuple #[if (rowK s).2 = 0 then tkV (rowK s).1 s 0 else tkV 0 [] 0, .int .i64 (rowK s).2]
theorem rowV_long {s : List UInt8} (h : headL s = true) (h8 : 8 < s.length) : rowV s = .tuple #[tkV 0 [] 0, .int .i64 152] := by
  have : rowK s = (0, 152) := by unfold rowK; rw [if_pos h, if_pos h8]
  unfold rowV; rw [this]; rfl
theorem rowV_word {s : List UInt8} (h : headL s = true) (h8 : ¬ 8 < s.length) : rowV s = .tuple #[tkV 1 s 0, .int .i64 0] := by
  have : rowK s = (1, 0) := by unfold rowK; rw [if_pos h, if_neg h8]
  unfold rowV; rw [this]; rfl
theorem rowV_num {s : List UInt8} (h : headL s = false) (hn : numB s = true) : rowV s = .tuple #[tkV 2 s 0, .int .i64 0] := by
  have : rowK s = (2, 0) := by unfold rowK; rw [if_neg (by rw [h]; simp), if_pos hn]
  unfold rowV; rw [this]; rfl
theorem rowV_odd {s : List UInt8} (h : headL s = false) (hn : ¬ numB s = true) : rowV s = .tuple #[tkV 0 [] 0, .int .i64 151] := by
  have : rowK s = (0, 151) := by unfold rowK; rw [if_neg (by rw [h]; simp), if_neg hn]
  unfold rowV; rw [this]; rfl
set_option maxRecDepth 10000 in
set_option maxHeartbeats 4000000 in
theorem row_any (s : List UInt8) (hs : s ≠ []) (hl : s.length ≤ 140737488355328) (w : World) (hL : Laid w) : Calls Tryz.prog 85 #[.string (bs s)] w (Gives w (rowV s)) := by
  obtain ⟨c, r, hcr⟩ : ∃ c r, s = c :: r := by
    cases s with
    | nil => exact absurd rfl hs
    | cons c r => exact ⟨c, r, rfl⟩
  have hsz := bs_size s
  have g0 := bs_at s 0 c (by rw [hcr]; rfl)
  have KD := Lib.hid (kind_any (c.toNat : Int))
  have PU : Hid (∀ w', Below w.heap.size w w' → Calls Tryz.prog 98 #[.string (bs s), .int .i64 10, .int .i64 62] w' (puT s w')) := fun w' hb => puint_any s hs hl w' (hL.below hb)
  have FU : Hid (∀ (u : Nat) w', u < 18446744073709551616 → Below w.heap.size w w' → Calls Tryz.prog 99 #[.int .u64 u, .int .i64 10] w' (Gives w' (.string (bs (Lib.decDigits u))))) := fun u w' hu hb => fuint_any u hu w' (hL.tab.below hb)
  have n1 : 1 ≤ s.length := by rw [hcr]; simp
  have hk2 := (kind_byte c).2.1
  have hhd : headL s = isL c := by rw [hcr]; rfl
  clear hcr hL
  have c0 := c.toNat_lt
  obtain ⟨k, hk⟩ : ∃ k, k = kindI (c.toNat : Int) := ⟨_, rfl⟩
  rw [← hk] at KD hk2
  obtain ⟨x, hx⟩ : ∃ x : Int, x = (c.toNat : Int) := ⟨_, rfl⟩
  have hw32 : IntKind.i32.wrap x = x := by rw [IntKind.wrap_i32]; omega
  obtain ⟨V, hV⟩ : ∃ V, V = rowV s := ⟨_, rfl⟩
  rw [← hV]
  have HV := Lib.hid hV
  obtain ⟨n, hn⟩ : ∃ n, n = s.length := ⟨_, rfl⟩
  rw [← hn] at hsz n1
  have Hn := Lib.hid hn
  have Hhd := Lib.hid hhd
  rw [← hx] at KD
  have i0 : (0 : Int) < (n : Int) := by omega
  have i1 : 0 < n := by omega
  cases hl2 : isL c
  · have hkk : (k == 2) = false := by
      rw [beq_eq_false_iff_ne]; intro e
      rw [hk2.1 e] at hl2; cases hl2
    have hh : headL s = false := hhd.trans hl2
    have HH := Lib.hid hh
    clear hk2 hhd hh hl2 hk hV hn Hhd c0
    obtain ⟨S, hS⟩ : ∃ S, S = bs s := ⟨_, rfl⟩
    have HS := Lib.hid hS
    rw [← hS] at hsz g0 PU ⊢
    have g0' : ∀ h, ((S[0]'h).toNat : Int) = x := fun h => by rw [g0 h, hx]
    clear hS hx g0
    go_enter Tryz.func85, Tryz.ntmps85
    go_wp2_with (fail)
    refine (KD.out _).mono ?_; rintro e w' ⟨rfl, q1, rfl⟩
    go_wp2_with (fail)
    refine (PU.out _ (by (repeat' (first | (with_reducible assumption) | (with_reducible exact Below.refl _ _) | (with_reducible refine below_wov ?_ ?_ _) | (with_reducible refine below_drewN ?_ _) | (with_reducible refine Below.drew ?_) | (with_reducible refine Below.alloc ?_ ?_ _) | (with_reducible refine Below.setCell ?_ ?_ _) | (with_reducible exact Nat.le_refl _) | omega | (simp only [World.size_alloc, World.size_setCell, World.size_drew, Wov_size, World.heap_drewN]; omega))))).mono ?_
    rintro e w' (⟨hm, rfl, q2, rfl⟩ | ⟨hm, m, N, rfl, q2, rfl⟩)
    · obtain ⟨v, hv⟩ : ∃ v, v = valD 0 s := ⟨_, rfl⟩
      rw [← hv]
      by_cases hb : v < 288230376151711744
      · have F1 := Lib.hid (fun w' => FU.out v w' (by omega))
        have k1 : decide ((288230376151711744 : Int) ≤ (v : Int)) = false := decide_eq_false (by omega)
        obtain ⟨y, hy⟩ : ∃ y : Int, y = (v : Int) := ⟨_, rfl⟩
        rw [← hy] at F1 k1 ⊢
        have k1 := of_decide_eq_false k1
        by_cases hd : Lib.decDigits v = s
        · have hq : ((bs (Lib.decDigits v)).toList == S.toList) = true := by rw [HS.out, bs_beq, hd]; simp
          have hV3 : V = .tuple #[tkV 2 s 0, .int .i64 0] := by
            have : numB s = true := num62_iff.2 ⟨hm, by omega, by rw [← hv]; exact hd⟩
            rw [HV.out, rowV_num HH.out this]
          unfold tkV at hV3
          rw [← HS.out] at hV3
          obtain ⟨D, hD⟩ : ∃ D, D = bs (Lib.decDigits v) := ⟨_, rfl⟩
          rw [← hD] at F1 hq
          clear hD hd hb hm hv hy FU PU
          subst hV3
          go_wp2_with (fail)
          refine (F1.out _ (by (repeat' (first | (with_reducible assumption) | (with_reducible exact Below.refl _ _) | (with_reducible refine below_wov ?_ ?_ _) | (with_reducible refine below_drewN ?_ _) | (with_reducible refine Below.drew ?_) | (with_reducible refine Below.alloc ?_ ?_ _) | (with_reducible refine Below.setCell ?_ ?_ _) | (with_reducible exact Nat.le_refl _) | omega | (simp only [World.size_alloc, World.size_setCell, World.size_drew, Wov_size, World.heap_drewN]; omega))))).mono ?_; rintro e w' ⟨rfl, q3, rfl⟩
          go_wp2_with (fail)
          go_returns
          exact gives_end rfl (by (repeat' (first | (with_reducible assumption) | (with_reducible exact Below.refl _ _) | (with_reducible refine below_wov ?_ ?_ _) | (with_reducible refine below_drewN ?_ _) | (with_reducible refine Below.drew ?_) | (with_reducible refine Below.alloc ?_ ?_ _) | (with_reducible refine Below.setCell ?_ ?_ _) | (with_reducible exact Nat.le_refl _) | omega | (simp only [World.size_alloc, World.size_setCell, World.size_drew, Wov_size, World.heap_drewN]; omega))))
        · have hq : ((bs (Lib.decDigits v)).toList == S.toList) = false := by rw [HS.out, bs_beq]; simpa using hd
          have hV3 : V = .tuple #[tkV 0 [] 0, .int .i64 151] := by
            have : ¬ numB s = true := fun h => hd (by rw [hv]; exact (num62_iff.1 h).2.2)
            rw [HV.out, rowV_odd HH.out this]
          obtain ⟨D, hD⟩ : ∃ D, D = bs (Lib.decDigits v) := ⟨_, rfl⟩
          rw [← hD] at F1 hq
          clear hD hd hb hm hv hy FU PU HV
          subst hV3
          go_wp2_with (fail)
          refine (F1.out _ (by (repeat' (first | (with_reducible assumption) | (with_reducible exact Below.refl _ _) | (with_reducible refine below_wov ?_ ?_ _) | (with_reducible refine below_drewN ?_ _) | (with_reducible refine Below.drew ?_) | (with_reducible refine Below.alloc ?_ ?_ _) | (with_reducible refine Below.setCell ?_ ?_ _) | (with_reducible exact Nat.le_refl _) | omega | (simp only [World.size_alloc, World.size_setCell, World.size_drew, Wov_size, World.heap_drewN]; omega))))).mono ?_; rintro e w' ⟨rfl, q3, rfl⟩
          go_wp2_with (fail)
          go_returns
          exact gives_end rfl (by (repeat' (first | (with_reducible assumption) | (with_reducible exact Below.refl _ _) | (with_reducible refine below_wov ?_ ?_ _) | (with_reducible refine below_drewN ?_ _) | (with_reducible refine Below.drew ?_) | (with_reducible refine Below.alloc ?_ ?_ _) | (with_reducible refine Below.setCell ?_ ?_ _) | (with_reducible exact Nat.le_refl _) | omega | (simp only [World.size_alloc, World.size_setCell, World.size_drew, Wov_size, World.heap_drewN]; omega))))
      · have hV3 : V = .tuple #[tkV 0 [] 0, .int .i64 151] := by
          have : ¬ numB s = true := fun h => hb (by rw [hv]; exact (num62_iff.1 h).2.1)
          rw [HV.out, rowV_odd HH.out this]
        have k1 : decide ((288230376151711744 : Int) ≤ (v : Int)) = true := decide_eq_true (by omega)
        obtain ⟨y, hy⟩ : ∃ y : Int, y = (v : Int) := ⟨_, rfl⟩
        rw [← hy] at k1 ⊢
        have k1 := of_decide_eq_true k1
        clear hb hm hv hy FU PU HV
        subst hV3
        go_wp2_with (fail)
        go_returns
        exact gives_end rfl (by (repeat' (first | (with_reducible assumption) | (with_reducible exact Below.refl _ _) | (with_reducible refine below_wov ?_ ?_ _) | (with_reducible refine below_drewN ?_ _) | (with_reducible refine Below.drew ?_) | (with_reducible refine Below.alloc ?_ ?_ _) | (with_reducible refine Below.setCell ?_ ?_ _) | (with_reducible exact Nat.le_refl _) | omega | (simp only [World.size_alloc, World.size_setCell, World.size_drew, Wov_size, World.heap_drewN]; omega))))
    · have hV3 : V = .tuple #[tkV 0 [] 0, .int .i64 151] := by
        have : ¬ numB s = true := fun h => hm (num62_iff.1 h).1
        rw [HV.out, rowV_odd HH.out this]
      clear hm FU PU HV
      subst hV3
      go_wp2_with (fail)
      go_returns
      exact gives_end rfl (by (repeat' (first | (with_reducible assumption) | (with_reducible exact Below.refl _ _) | (with_reducible refine below_wov ?_ ?_ _) | (with_reducible refine below_drewN ?_ _) | (with_reducible refine Below.drew ?_) | (with_reducible refine Below.alloc ?_ ?_ _) | (with_reducible refine Below.setCell ?_ ?_ _) | (with_reducible exact Nat.le_refl _) | omega | (simp only [World.size_alloc, World.size_setCell, World.size_drew, Wov_size, World.heap_drewN]; omega))))
  · obtain rfl : k = 2 := hk2.2 hl2
    have hh : headL s = true := hhd.trans hl2
    clear hk2 hhd hl2 hk hn Hhd c0 FU PU
    by_cases h8 : 8 < n
    · have hV3 : V = .tuple #[tkV 0 [] 0, .int .i64 152] := by
        rw [HV.out, rowV_long hh (by rw [← Hn.out]; exact h8)]
      obtain ⟨S, hS⟩ : ∃ S, S = bs s := ⟨_, rfl⟩
      rw [← hS] at hsz g0 ⊢
      have g0' : ∀ h, ((S[0]'h).toNat : Int) = x := fun h => by rw [g0 h, hx]
      have j8 : (8 : Int) < (n : Int) := by omega
      clear hS hx g0 hh HV hV h8
      subst hV3
      go_enter Tryz.func85, Tryz.ntmps85
      go_wp2_with (fail)
      refine (KD.out _).mono ?_; rintro e w' ⟨rfl, q1, rfl⟩
      go_wp2_with (fail)
      go_returns
      exact gives_end rfl (by (repeat' (first | (with_reducible assumption) | (with_reducible exact Below.refl _ _) | (with_reducible refine below_wov ?_ ?_ _) | (with_reducible refine below_drewN ?_ _) | (with_reducible refine Below.drew ?_) | (with_reducible refine Below.alloc ?_ ?_ _) | (with_reducible refine Below.setCell ?_ ?_ _) | (with_reducible exact Nat.le_refl _) | omega | (simp only [World.size_alloc, World.size_setCell, World.size_drew, Wov_size, World.heap_drewN]; omega))))
    · have hV3 : V = .tuple #[tkV 1 s 0, .int .i64 0] := by
        rw [HV.out, rowV_word hh (by rw [← Hn.out]; exact h8)]
      unfold tkV at hV3
      obtain ⟨S, hS⟩ : ∃ S, S = bs s := ⟨_, rfl⟩
      rw [← hS] at hsz g0 hV3 ⊢
      have g0' : ∀ h, ((S[0]'h).toNat : Int) = x := fun h => by rw [g0 h, hx]
      have j8 : (n : Int) ≤ 8 := by omega
      clear hS hx g0 hh HV hV h8
      subst hV3
      go_enter Tryz.func85, Tryz.ntmps85
      go_wp2_with (fail)
      refine (KD.out _).mono ?_; rintro e w' ⟨rfl, q1, rfl⟩
      go_wp2_with (fail)
      go_returns
      exact gives_end rfl (by (repeat' (first | (with_reducible assumption) | (with_reducible exact Below.refl _ _) | (with_reducible refine below_wov ?_ ?_ _) | (with_reducible refine below_drewN ?_ _) | (with_reducible refine Below.drew ?_) | (with_reducible refine Below.alloc ?_ ?_ _) | (with_reducible refine Below.setCell ?_ ?_ _) | (with_reducible exact Nat.le_refl _) | omega | (simp only [World.size_alloc, World.size_setCell, World.size_drew, Wov_size, World.heap_drewN]; omega))))
#print axioms row_any
end Go.Proofs.YtccbhblklhmcpaaGreatDoor
