/- lex.single, lex.Name: which texts are names. No condition but on size, and what some package variables hold. -/
import Derived.Test.YtccbhblklhmcpaaGreatDoorQ19
namespace Go.Proofs.YtccbhblklhmcpaaGreatDoor
set_option linter.unusedSimpArgs false
set_option linter.unusedVariables false
open Go Go.RowKit Go.Shelf
attribute [local go_sem] Nat.add_assoc Nat.add_lt_add_iff_left lit_lt_add

/-- What lex.single hands back. -/
def singleV (s : List UInt8) : Value := match singleT s with
  | some t => .tuple #[tkV t.kind t.text t.at_, .bool true]
  | none => .tuple #[tkV 0 [] 0, .bool false]
theorem single_cases (s : List UInt8) : ((cutT s).2.2 ≠ 0 ∧ singleT s = none) ∨ ((cutT s).2.2 = 0 ∧ (cutT s).1.length ≠ 1 ∧ singleT s = none) ∨ (∃ t, (cutT s).2.2 = 0 ∧ (cutT s).1 = [t] ∧ t.text ≠ s ∧ singleT s = none) ∨ (∃ t, (cutT s).2.2 = 0 ∧ (cutT s).1 = [t] ∧ t.text = s ∧ singleT s = some t) := by
  unfold singleT
  obtain ⟨l, a, e⟩ := cutT s
  cases e with
  | succ e => exact .inl ⟨by simp, by simp⟩
  | zero =>
    refine .inr ?_
    match l with
    | [] => exact .inl ⟨rfl, by simp, by simp⟩
    | [t] =>
      refine .inr ?_
      by_cases h : t.text = s
      · exact .inr ⟨t, rfl, rfl, h, by simp [h]⟩
      · exact .inl ⟨t, rfl, rfl, h, by simp [h]⟩
    | _ :: _ :: _ => exact .inl ⟨rfl, by simp, by simp⟩
set_option maxRecDepth 10000 in
set_option maxHeartbeats 4000000 in
theorem single_any (s : List UInt8) (hs : s.length ≤ 140737488355328) (w : World) (hL : Laid w) : Calls Tryz.prog 37 #[.string (bs s)] w (Gives w (singleV s)) := by
  have CT := Lib.hid (fun w' (hb : Below w.heap.size w w') => cut_any s hs w' (hL.below hb))
  unfold cutC at CT
  obtain ⟨R, hR⟩ : ∃ R, R = cutT s := ⟨_, rfl⟩
  have hc := single_cases s
  rw [← hR] at CT hc
  obtain ⟨l, a, e⟩ := R
  simp only at CT hc
  have hv : singleV s = match singleT s with
    | some t => .tuple #[tkV t.kind t.text t.at_, .bool true]
    | none => .tuple #[tkV 0 [] 0, .bool false] := rfl
  clear hR hL hs
  rcases hc with ⟨he, h0⟩ | ⟨rfl, hl, h0⟩ | ⟨t, rfl, rfl, ht, h0⟩ | ⟨t, rfl, rfl, ht, h0⟩
  · rw [h0] at hv
    rw [hv]
    obtain ⟨S, hS⟩ : ∃ S, S = bs s := ⟨_, rfl⟩
    rw [← hS] at CT ⊢
    obtain ⟨x, hx⟩ : ∃ x : Int, x = (e : Int) := ⟨_, rfl⟩
    rw [← hx] at CT
    have hx0 : (x == 0) = false := by rw [beq_eq_false_iff_ne]; omega
    have hx1 : (x != 0) = true := by rw [bne_iff_ne]; omega
    clear hv h0 hS he hx
    go_enter Tryz.func37, Tryz.ntmps37
    go_wp2_with (fail)
    refine (CT.out _ (by (repeat' (first | (with_reducible assumption) | (with_reducible exact Below.refl _ _) | (with_reducible refine below_wov ?_ ?_ _) | (with_reducible refine below_drewN ?_ _) | (with_reducible refine Below.drew ?_) | (with_reducible refine Below.alloc ?_ ?_ _) | (with_reducible refine Below.setCell ?_ ?_ _) | (with_reducible exact Nat.le_refl _) | omega | (simp only [World.size_alloc, World.size_setCell, World.size_drew, Wov_size, World.heap_drewN]; omega))))).mono ?_; rintro e w' ⟨⟨p, c, rfl, _, _⟩, q1, rfl⟩
    go_wp2_with (fail)
    go_returns
    exact gives_end rfl (by (repeat' (first | (with_reducible assumption) | (with_reducible exact Below.refl _ _) | (with_reducible refine below_wov ?_ ?_ _) | (with_reducible refine below_drewN ?_ _) | (with_reducible refine Below.drew ?_) | (with_reducible refine Below.alloc ?_ ?_ _) | (with_reducible refine Below.setCell ?_ ?_ _) | (with_reducible exact Nat.le_refl _) | omega | (simp only [World.size_alloc, World.size_setCell, World.size_drew, Wov_size, World.heap_drewN]; omega))))
  · rw [h0] at hv
    rw [hv]
    obtain ⟨S, hS⟩ : ∃ S, S = bs s := ⟨_, rfl⟩
    rw [← hS] at CT ⊢
    obtain ⟨n, hn⟩ : ∃ n, n = l.length := ⟨_, rfl⟩
    rw [← hn] at hl
    have hn1 : ((n : Int) == 1) = false := by rw [beq_eq_false_iff_ne]; omega
    have hn2 : ((n : Int) != 1) = true := by rw [bne_iff_ne]; omega
    have Hn := Lib.hid hn
    clear hv h0 hS hl hn
    go_enter Tryz.func37, Tryz.ntmps37
    go_wp2_with (fail)
    refine (CT.out _ (by (repeat' (first | (with_reducible assumption) | (with_reducible exact Below.refl _ _) | (with_reducible refine below_wov ?_ ?_ _) | (with_reducible refine below_drewN ?_ _) | (with_reducible refine Below.drew ?_) | (with_reducible refine Below.alloc ?_ ?_ _) | (with_reducible refine Below.setCell ?_ ?_ _) | (with_reducible exact Nat.le_refl _) | omega | (simp only [World.size_alloc, World.size_setCell, World.size_drew, Wov_size, World.heap_drewN]; omega))))).mono ?_; rintro e w' ⟨⟨p, c, rfl, _, _⟩, q1, rfl⟩
    rw [← Hn.out]
    go_wp2_with (fail)
    go_returns
    exact gives_end rfl (by (repeat' (first | (with_reducible assumption) | (with_reducible exact Below.refl _ _) | (with_reducible refine below_wov ?_ ?_ _) | (with_reducible refine below_drewN ?_ _) | (with_reducible refine Below.drew ?_) | (with_reducible refine Below.alloc ?_ ?_ _) | (with_reducible refine Below.setCell ?_ ?_ _) | (with_reducible exact Nat.le_refl _) | omega | (simp only [World.size_alloc, World.size_setCell, World.size_drew, Wov_size, World.heap_drewN]; omega))))
  · rw [h0] at hv
    rw [hv]
    have hq : ((bs t.text).toList == (bs s).toList) = false := by rw [bs_beq]; simpa using ht
    obtain ⟨S, hS⟩ : ∃ S, S = bs s := ⟨_, rfl⟩
    rw [← hS] at CT hq ⊢
    clear hv h0 hS ht
    go_enter Tryz.func37, Tryz.ntmps37
    go_wp2_with (fail)
    refine (CT.out _ (by (repeat' (first | (with_reducible assumption) | (with_reducible exact Below.refl _ _) | (with_reducible refine below_wov ?_ ?_ _) | (with_reducible refine below_drewN ?_ _) | (with_reducible refine Below.drew ?_) | (with_reducible refine Below.alloc ?_ ?_ _) | (with_reducible refine Below.setCell ?_ ?_ _) | (with_reducible exact Nat.le_refl _) | omega | (simp only [World.size_alloc, World.size_setCell, World.size_drew, Wov_size, World.heap_drewN]; omega))))).mono ?_; rintro e w' ⟨⟨p, c, rfl, _, hsl⟩, q1, rfl⟩
    obtain ⟨A, o, rfl, hA, hcell⟩ := hsl.resolve_left (by simp)
    have c1 := hcell 0 1 t _ rfl rfl
    simp only [Nat.zero_mul, Nat.zero_add] at c1
    clear hcell hsl
    obtain ⟨T, hT⟩ : ∃ T, T = bs t.text := ⟨_, rfl⟩
    rw [← hT] at c1 hq
    clear hT
    go_wp2_with (fail)
    go_returns
    exact gives_end rfl (by (repeat' (first | (with_reducible assumption) | (with_reducible exact Below.refl _ _) | (with_reducible refine below_wov ?_ ?_ _) | (with_reducible refine below_drewN ?_ _) | (with_reducible refine Below.drew ?_) | (with_reducible refine Below.alloc ?_ ?_ _) | (with_reducible refine Below.setCell ?_ ?_ _) | (with_reducible exact Nat.le_refl _) | omega | (simp only [World.size_alloc, World.size_setCell, World.size_drew, Wov_size, World.heap_drewN]; omega))))
  · rw [h0] at hv
    rw [hv]
    have hq : ((bs t.text).toList == (bs s).toList) = true := by rw [bs_beq, ht]; simp
    have hq2 : ((bs t.text).toList != (bs s).toList) = false := by rw [bne, hq]; rfl
    obtain ⟨S, hS⟩ : ∃ S, S = bs s := ⟨_, rfl⟩
    rw [← hS] at CT hq hq2 ⊢
    show Calls _ _ _ _ (Gives w (.tuple #[.agg #[.int .u8 t.kind, .string (bs t.text), .int .i64 t.at_], .bool true]))
    obtain ⟨T, hT⟩ : ∃ T, T = bs t.text := ⟨_, rfl⟩
    obtain ⟨kd, hkd⟩ : ∃ kd : Int, kd = (t.kind : Int) := ⟨_, rfl⟩
    obtain ⟨ka, hka⟩ : ∃ ka : Int, ka = (t.at_ : Int) := ⟨_, rfl⟩
    rw [← hT] at hq hq2
    rw [← hT, ← hkd, ← hka]
    have HT := Lib.hid hT
    have HKD := Lib.hid hkd
    have HKA := Lib.hid hka
    clear hv h0 hS ht hT hkd hka
    go_enter Tryz.func37, Tryz.ntmps37
    go_wp2_with (fail)
    refine (CT.out _ (by (repeat' (first | (with_reducible assumption) | (with_reducible exact Below.refl _ _) | (with_reducible refine below_wov ?_ ?_ _) | (with_reducible refine below_drewN ?_ _) | (with_reducible refine Below.drew ?_) | (with_reducible refine Below.alloc ?_ ?_ _) | (with_reducible refine Below.setCell ?_ ?_ _) | (with_reducible exact Nat.le_refl _) | omega | (simp only [World.size_alloc, World.size_setCell, World.size_drew, Wov_size, World.heap_drewN]; omega))))).mono ?_; rintro e w' ⟨⟨p, c, rfl, _, hsl⟩, q1, rfl⟩
    obtain ⟨A, o, rfl, hA, hcell⟩ := hsl.resolve_left (by simp)
    have c0 := hcell 0 0 t _ rfl rfl
    have c1 := hcell 0 1 t _ rfl rfl
    have c2 := hcell 0 2 t _ rfl rfl
    simp only [Nat.zero_mul, Nat.zero_add, Nat.add_zero] at c0 c1 c2
    rw [← HKD.out] at c0
    rw [← HT.out] at c1
    rw [← HKA.out] at c2
    clear hcell hsl
    go_wp2_with (fail)
    go_returns
    exact gives_end rfl (by (repeat' (first | (with_reducible assumption) | (with_reducible exact Below.refl _ _) | (with_reducible refine below_wov ?_ ?_ _) | (with_reducible refine below_drewN ?_ _) | (with_reducible refine Below.drew ?_) | (with_reducible refine Below.alloc ?_ ?_ _) | (with_reducible refine Below.setCell ?_ ?_ _) | (with_reducible exact Nat.le_refl _) | omega | (simp only [World.size_alloc, World.size_setCell, World.size_drew, Wov_size, World.heap_drewN]; omega))))
/-- The words between blanks. -/
theorem oddT_any (s : List UInt8) (hs : s.length ≤ 100000) (hw : s.all isW = true) (w : World) (hm : MaxI w) : Calls Tryz.prog 38 #[.string ⟨#[32, 116, 114, 117, 101, 32, 102, 97, 108, 115, 101, 32, 111, 111, 32]⟩, .string (⟨#[32]⟩ ++ bs s ++ ⟨#[32]⟩)] w (Gives w (.bool (oddName s))) := by
  have := contains_any oddT ([32] ++ s ++ [32]) (by decide) w hm
  rw [odd_contains s (word_no_space hw)] at this
  have e : (⟨#[32]⟩ : ByteArray) ++ bs s ++ ⟨#[32]⟩ = bs ([32] ++ s ++ [32]) := by rw [← bs_app, ← bs_app]
  rw [e]
  exact this
set_option maxRecDepth 10000 in
set_option maxHeartbeats 4000000 in
theorem lname_any (s : List UInt8) (hs : s.length ≤ 140737488355328) (w : World) (hL : Laid w) : Calls Tryz.prog 20 #[.string (bs s)] w (Gives w (.bool (mayName s))) := by
  have SG := Lib.hid (fun w' (hb : Below w.heap.size w w') => single_any s hs w' (hL.below hb))
  have hn : mayName s = match singleT s with
    | some t => decide (t.kind = 1) && !oddName s
    | none => false := (nameT_eq s).symm
  unfold singleV at SG
  cases hsg : singleT s with
  | none =>
    rw [hsg] at SG hn
    rw [hn]
    have SG2 : Hid (∀ w', Below w.heap.size w w' → Calls Tryz.prog 37 #[.string (bs s)] w' (Gives w' (.tuple #[.agg #[.int .u8 0, .string ⟨#[]⟩, .int .i64 0], .bool false]))) := SG
    obtain ⟨S, hS⟩ : ∃ S, S = bs s := ⟨_, rfl⟩
    rw [← hS] at SG2 ⊢
    clear SG hn hsg hS hL hs
    go_enter Tryz.func20, Tryz.ntmps20
    go_wp2_with (fail)
    refine (SG2.out _ (by (repeat' (first | (with_reducible assumption) | (with_reducible exact Below.refl _ _) | (with_reducible refine below_wov ?_ ?_ _) | (with_reducible refine below_drewN ?_ _) | (with_reducible refine Below.drew ?_) | (with_reducible refine Below.alloc ?_ ?_ _) | (with_reducible refine Below.setCell ?_ ?_ _) | (with_reducible exact Nat.le_refl _) | omega | (simp only [World.size_alloc, World.size_setCell, World.size_drew, Wov_size, World.heap_drewN]; omega))))).mono ?_; rintro e w' ⟨rfl, q1, rfl⟩
    go_wp2_with (fail)
    go_ret
    exact gives_end rfl (by (repeat' (first | (with_reducible assumption) | (with_reducible exact Below.refl _ _) | (with_reducible refine below_wov ?_ ?_ _) | (with_reducible refine below_drewN ?_ _) | (with_reducible refine Below.drew ?_) | (with_reducible refine Below.alloc ?_ ?_ _) | (with_reducible refine Below.setCell ?_ ?_ _) | (with_reducible exact Nat.le_refl _) | omega | (simp only [World.size_alloc, World.size_setCell, World.size_drew, Wov_size, World.heap_drewN]; omega))))
  | some t =>
    rw [hsg] at SG hn
    have SG2 : Hid (∀ w', Below w.heap.size w w' → Calls Tryz.prog 37 #[.string (bs s)] w' (Gives w' (.tuple #[.agg #[.int .u8 t.kind, .string (bs t.text), .int .i64 t.at_], .bool true]))) := SG
    obtain ⟨kd, hkd⟩ : ∃ kd : Int, kd = (t.kind : Int) := ⟨_, rfl⟩
    obtain ⟨ka, hka⟩ : ∃ ka : Int, ka = (t.at_ : Int) := ⟨_, rfl⟩
    obtain ⟨T, hT⟩ : ∃ T, T = bs t.text := ⟨_, rfl⟩
    rw [← hkd, ← hka, ← hT] at SG2
    by_cases hk : t.kind = 1
    · obtain rfl : kd = 1 := by omega
      have hwp := word_of_single hsg hk
      have e : mayName s = !oddName s := by rw [hn]; simp [hk]
      rw [e]
      have CO := Lib.hid (fun w' (hb : Below w.heap.size w w') => oddT_any s (by have := hwp.1; omega) hwp.2.1 w' (hL.len.below hb))
      have hsz := bs_size s
      have hl8 := hwp.1
      obtain ⟨S, hS⟩ : ∃ S, S = bs s := ⟨_, rfl⟩
      obtain ⟨n, hnn⟩ : ∃ n, n = s.length := ⟨_, rfl⟩
      obtain ⟨b, hb⟩ : ∃ b, b = oddName s := ⟨_, rfl⟩
      rw [← hS] at SG2 CO hsz ⊢
      rw [← hnn] at hsz hl8
      rw [← hb] at CO ⊢
      clear SG hn hsg hS hL hs hka hkd hT hk e hwp hnn hb
      go_enter Tryz.func20, Tryz.ntmps20
      go_wp2_with (fail)
      refine (SG2.out _ (by (repeat' (first | (with_reducible assumption) | (with_reducible exact Below.refl _ _) | (with_reducible refine below_wov ?_ ?_ _) | (with_reducible refine below_drewN ?_ _) | (with_reducible refine Below.drew ?_) | (with_reducible refine Below.alloc ?_ ?_ _) | (with_reducible refine Below.setCell ?_ ?_ _) | (with_reducible exact Nat.le_refl _) | omega | (simp only [World.size_alloc, World.size_setCell, World.size_drew, Wov_size, World.heap_drewN]; omega))))).mono ?_; rintro e w' ⟨rfl, q1, rfl⟩
      go_wp2_with (fail)
      refine (CO.out _ (by (repeat' (first | (with_reducible assumption) | (with_reducible exact Below.refl _ _) | (with_reducible refine below_wov ?_ ?_ _) | (with_reducible refine below_drewN ?_ _) | (with_reducible refine Below.drew ?_) | (with_reducible refine Below.alloc ?_ ?_ _) | (with_reducible refine Below.setCell ?_ ?_ _) | (with_reducible exact Nat.le_refl _) | omega | (simp only [World.size_alloc, World.size_setCell, World.size_drew, Wov_size, World.heap_drewN]; omega))))).mono ?_; rintro e w' ⟨rfl, q2, rfl⟩
      go_wp2_with (fail)
      all_goals
        go_ret
        exact gives_end rfl (by (repeat' (first | (with_reducible assumption) | (with_reducible exact Below.refl _ _) | (with_reducible refine below_wov ?_ ?_ _) | (with_reducible refine below_drewN ?_ _) | (with_reducible refine Below.drew ?_) | (with_reducible refine Below.alloc ?_ ?_ _) | (with_reducible refine Below.setCell ?_ ?_ _) | (with_reducible exact Nat.le_refl _) | omega | (simp only [World.size_alloc, World.size_setCell, World.size_drew, Wov_size, World.heap_drewN]; omega))))
    · have e : mayName s = false := by rw [hn]; simp [hk]
      rw [e]
      have k1 : (kd == 1) = false := by rw [beq_eq_false_iff_ne]; omega
      obtain ⟨S, hS⟩ : ∃ S, S = bs s := ⟨_, rfl⟩
      rw [← hS] at SG2 ⊢
      clear SG hn hsg hS hL hs hka hkd hT hk e
      go_enter Tryz.func20, Tryz.ntmps20
      go_wp2_with (fail)
      refine (SG2.out _ (by (repeat' (first | (with_reducible assumption) | (with_reducible exact Below.refl _ _) | (with_reducible refine below_wov ?_ ?_ _) | (with_reducible refine below_drewN ?_ _) | (with_reducible refine Below.drew ?_) | (with_reducible refine Below.alloc ?_ ?_ _) | (with_reducible refine Below.setCell ?_ ?_ _) | (with_reducible exact Nat.le_refl _) | omega | (simp only [World.size_alloc, World.size_setCell, World.size_drew, Wov_size, World.heap_drewN]; omega))))).mono ?_; rintro e w' ⟨rfl, q1, rfl⟩
      go_wp2_with (fail)
      all_goals
        go_ret
        exact gives_end (by simp [k1]) (by (repeat' (first | (with_reducible assumption) | (with_reducible exact Below.refl _ _) | (with_reducible refine below_wov ?_ ?_ _) | (with_reducible refine below_drewN ?_ _) | (with_reducible refine Below.drew ?_) | (with_reducible refine Below.alloc ?_ ?_ _) | (with_reducible refine Below.setCell ?_ ?_ _) | (with_reducible exact Nat.le_refl _) | omega | (simp only [World.size_alloc, World.size_setCell, World.size_drew, Wov_size, World.heap_drewN]; omega))))
#print axioms lname_any
end Go.Proofs.YtccbhblklhmcpaaGreatDoor
