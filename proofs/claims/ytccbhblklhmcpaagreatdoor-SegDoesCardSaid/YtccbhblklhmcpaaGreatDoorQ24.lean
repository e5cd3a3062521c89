/- seg's reader: contracts of rest, run, may, syntax. No condition but on size. -/
import Derived.Test.YtccbhblklhmcpaaGreatDoorQ23
import Derived.Test.YtccbhblklhmcpaaGreatDoorQ4
namespace Go.Proofs.YtccbhblklhmcpaaGreatDoor
set_option linter.unusedSimpArgs false
set_option linter.unusedVariables false
open Go Go.RowKit Go.Shelf
attribute [local go_sem] Nat.add_assoc Nat.add_lt_add_iff_left lit_lt_add

theorem Turn.put {nb B : Nat} {W V : World} (h : Turn nb B W V) (o : Nat) (u : Value) : Turn nb B W (V.setCell ⟨B, o, none⟩ u) := h.set (.inl rfl) u
/-- A reader in memory: its names, its text, where it is. -/
structure RdI (W : World) (B : Nat) (v : Value) (S : ByteArray) (p : Nat) : Prop where
  lt : B < W.heap.size
  c0 : W.cell? ⟨B, 0, none⟩ = some v
  c1 : W.cell? ⟨B, 1, none⟩ = some (.string S)
  c2 : W.cell? ⟨B, 2, none⟩ = some (.int .i64 p)
  z2 : W.frozen? ⟨B, 2, none⟩ = false
theorem RdI.below {W V : World} {B : Nat} {v : Value} {S : ByteArray} {p : Nat} (h : RdI W B v S p) (hb : Below W.heap.size W V) : RdI V B v S p :=
  ⟨Nat.lt_of_lt_of_le h.lt hb.size, (hb.cell (p := ⟨B, 0, none⟩) h.lt).trans h.c0, (hb.cell (p := ⟨B, 1, none⟩) h.lt).trans h.c1, (hb.cell (p := ⟨B, 2, none⟩) h.lt).trans h.c2, (hb.frozen (p := ⟨B, 2, none⟩) h.lt).trans h.z2⟩
theorem RdI.move {W : World} {B : Nat} {v : Value} {S : ByteArray} {p : Nat} (h : RdI W B v S p) (p' : Nat) : RdI (W.setCell ⟨B, 2, none⟩ (.int .i64 p')) B v S p' :=
  ⟨by rw [World.size_setCell]; exact h.lt, (World.cell?_setCell_other _ _ _ _ (by simp)).trans h.c0, (World.cell?_setCell_other _ _ _ _ (by simp)).trans h.c1, World.cell?_setCell_same _ _ _ h.c2, by rw [World.frozen?_setCell]; exact h.z2⟩
set_option maxRecDepth 10000 in
set_option maxHeartbeats 1000000 in
theorem rest_any (W : World) (B : Nat) (v : Value) (S : List UInt8) (p : Nat) (h : RdI W B v (bs S) p) (hp : p ≤ S.length) (hS : S.length ≤ 140737488355328) : Calls Tryz.prog 23 #[.pointer (some ⟨B, 0, none⟩)] W (Gives W (.string (bs (S.drop p)))) := by
  have hlt := h.lt
  have c1 := h.c1
  have c2 := h.c2
  have hsz := bs_size S
  have eX := bs_end S p
  obtain ⟨T, hT⟩ : ∃ T, T = bs S := ⟨_, rfl⟩
  obtain ⟨R, hR⟩ : ∃ R, R = bs (S.drop p) := ⟨_, rfl⟩
  obtain ⟨n, hn⟩ : ∃ n, n = S.length := ⟨_, rfl⟩
  rw [← hT] at c1 hsz eX
  rw [← hR] at eX ⊢
  rw [← hn] at hsz hp hS
  rw [hsz] at eX
  have j0 : (0 : Int) ≤ (p : Int) := by omega
  have j1 : (p : Int) ≤ (n : Int) := by omega
  clear h hT hR hn
  go_enter Tryz.func23, Tryz.ntmps23
  go_wp2_with (fail)
  go_region_held3 (fun w' => w'.cell? ⟨B, 1, none⟩ = some (.string T) ∧ w'.cell? ⟨B, 2, none⟩ = some (.int .i64 (p : Int)))
    ((simp [go_sem, *]))
    (fail)
  all_goals
    go_wp2_with (fail)
    go_ret
    exact gives_end rfl (by (repeat' (first | (with_reducible assumption) | (with_reducible exact Below.refl _ _) | (with_reducible refine below_wov ?_ ?_ _) | (with_reducible refine below_drewN ?_ _) | (with_reducible refine Below.drew ?_) | (with_reducible refine Below.alloc ?_ ?_ _) | (with_reducible refine Below.setCell ?_ ?_ _) | (with_reducible exact Nat.le_refl _) | omega | (simp only [World.size_alloc, World.size_setCell, World.size_drew, Wov_size, World.heap_drewN]; omega))))
set_option maxRecDepth 10000 in
set_option maxHeartbeats 1000000 in
theorem runL_any (W : World) (B : Nat) (v : Value) (S : List UInt8) (p : Nat) (h : RdI W B v (bs S) p) (hp : p ≤ S.length) (hS : S.length ≤ 140737488355328) : Calls Tryz.prog 40 #[.pointer (some ⟨B, 0, none⟩), .string (bs lettersT)] W (Gives W (.string (bs ((S.drop p).takeWhile isL)))) := by
  have hlt := h.lt
  have RS : Hid (∀ w', Below W.heap.size W w' → Calls Tryz.prog 23 #[.pointer (some ⟨B, 0, none⟩)] w' (Gives w' (.string (bs (S.drop p))))) := fun w' hb => rest_any w' B v S p (h.below hb) hp hS
  obtain ⟨r, hr⟩ : ∃ r, r = S.drop p := ⟨_, rfl⟩
  rw [← hr] at RS ⊢
  have TR := Lib.hid (trimL_any r)
  have hls := len_split (p := isL) r
  have hlr : r.length ≤ 140737488355328 := by rw [hr, List.length_drop]; omega
  have hz1 := bs_size r
  have hz2 := bs_size (r.dropWhile isL)
  have eX : (bs r).extract 0 (r.takeWhile isL).length = bs (r.takeWhile isL) := by
    rw [bs_ext, List.drop_zero, Nat.sub_zero]
    congr 2
    conv => lhs; arg 2; rw [← List.takeWhile_append_dropWhile (p := isL) (l := r)]
    rw [List.take_append_of_le_length (Nat.le_refl _), List.take_length]
  obtain ⟨C, hC⟩ : ∃ C, C = bs lettersT := ⟨_, rfl⟩
  obtain ⟨A, hA⟩ : ∃ A, A = bs r := ⟨_, rfl⟩
  obtain ⟨D, hD⟩ : ∃ D, D = bs (r.dropWhile isL) := ⟨_, rfl⟩
  obtain ⟨T, hT⟩ : ∃ T, T = bs (r.takeWhile isL) := ⟨_, rfl⟩
  rw [← hA] at RS TR hz1 eX
  rw [← hC] at TR ⊢
  rw [← hD] at TR hz2
  rw [← hT] at eX ⊢
  obtain ⟨a, ha⟩ : ∃ a, a = r.length := ⟨_, rfl⟩
  obtain ⟨d, hd⟩ : ∃ d, d = (r.dropWhile isL).length := ⟨_, rfl⟩
  obtain ⟨t, ht⟩ : ∃ t, t = (r.takeWhile isL).length := ⟨_, rfl⟩
  rw [← ha] at hz1 hls hlr
  rw [← hd] at hz2 hls
  rw [← ht] at eX hls
  have hw : wrap64 ((a : Int) - (d : Int)) = (t : Int) := by rw [wrap64_id (by omega) (by omega)]; omega
  have j0 : (0 : Int) ≤ (t : Int) := by omega
  have j1 : (t : Int) ≤ (a : Int) := by omega
  have j2 : t ≤ a := by omega
  clear h hp hS hr hls hlr hC hA hD hT ha hd ht
  go_enter Tryz.func40, Tryz.ntmps40
  go_wp2_with (fail)
  refine (RS.out _ (by (repeat' (first | (with_reducible assumption) | (with_reducible exact Below.refl _ _) | (with_reducible refine below_wov ?_ ?_ _) | (with_reducible refine below_drewN ?_ _) | (with_reducible refine Below.drew ?_) | (with_reducible refine Below.alloc ?_ ?_ _) | (with_reducible refine Below.setCell ?_ ?_ _) | (with_reducible exact Nat.le_refl _) | omega | (simp only [World.size_alloc, World.size_setCell, World.size_drew, Wov_size, World.heap_drewN]; omega))))).mono ?_; rintro e w' ⟨rfl, q1, rfl⟩
  go_wp2_with (fail)
  refine (TR.out _).mono ?_; rintro e w' ⟨rfl, q2, rfl⟩
  go_wp2_with (fail)
  go_ret
  exact gives_end rfl (by (repeat' (first | (with_reducible assumption) | (with_reducible exact Below.refl _ _) | (with_reducible refine below_wov ?_ ?_ _) | (with_reducible refine below_drewN ?_ _) | (with_reducible refine Below.drew ?_) | (with_reducible refine Below.alloc ?_ ?_ _) | (with_reducible refine Below.setCell ?_ ?_ _) | (with_reducible exact Nat.le_refl _) | omega | (simp only [World.size_alloc, World.size_setCell, World.size_drew, Wov_size, World.heap_drewN]; omega))))
set_option maxRecDepth 10000 in
set_option maxHeartbeats 1000000 in
theorem runD_any (W : World) (B : Nat) (v : Value) (S : List UInt8) (p : Nat) (h : RdI W B v (bs S) p) (hp : p ≤ S.length) (hS : S.length ≤ 140737488355328) : Calls Tryz.prog 40 #[.pointer (some ⟨B, 0, none⟩), .string (bs digitsT)] W (Gives W (.string (bs ((S.drop p).takeWhile isD)))) := by
  have hlt := h.lt
  have RS : Hid (∀ w', Below W.heap.size W w' → Calls Tryz.prog 23 #[.pointer (some ⟨B, 0, none⟩)] w' (Gives w' (.string (bs (S.drop p))))) := fun w' hb => rest_any w' B v S p (h.below hb) hp hS
  obtain ⟨r, hr⟩ : ∃ r, r = S.drop p := ⟨_, rfl⟩
  rw [← hr] at RS ⊢
  have TR := Lib.hid (trimD_any r)
  have hls := len_split (p := isD) r
  have hlr : r.length ≤ 140737488355328 := by rw [hr, List.length_drop]; omega
  have hz1 := bs_size r
  have hz2 := bs_size (r.dropWhile isD)
  have eX : (bs r).extract 0 (r.takeWhile isD).length = bs (r.takeWhile isD) := by
    rw [bs_ext, List.drop_zero, Nat.sub_zero]
    congr 2
    conv => lhs; arg 2; rw [← List.takeWhile_append_dropWhile (p := isD) (l := r)]
    rw [List.take_append_of_le_length (Nat.le_refl _), List.take_length]
  obtain ⟨C, hC⟩ : ∃ C, C = bs digitsT := ⟨_, rfl⟩
  obtain ⟨A, hA⟩ : ∃ A, A = bs r := ⟨_, rfl⟩
  obtain ⟨D, hD⟩ : ∃ D, D = bs (r.dropWhile isD) := ⟨_, rfl⟩
  obtain ⟨T, hT⟩ : ∃ T, T = bs (r.takeWhile isD) := ⟨_, rfl⟩
  rw [← hA] at RS TR hz1 eX
  rw [← hC] at TR ⊢
  rw [← hD] at TR hz2
  rw [← hT] at eX ⊢
  obtain ⟨a, ha⟩ : ∃ a, a = r.length := ⟨_, rfl⟩
  obtain ⟨d, hd⟩ : ∃ d, d = (r.dropWhile isD).length := ⟨_, rfl⟩
  obtain ⟨t, ht⟩ : ∃ t, t = (r.takeWhile isD).length := ⟨_, rfl⟩
  rw [← ha] at hz1 hls hlr
  rw [← hd] at hz2 hls
  rw [← ht] at eX hls
  have hw : wrap64 ((a : Int) - (d : Int)) = (t : Int) := by rw [wrap64_id (by omega) (by omega)]; omega
  have j0 : (0 : Int) ≤ (t : Int) := by omega
  have j1 : (t : Int) ≤ (a : Int) := by omega
  have j2 : t ≤ a := by omega
  clear h hp hS hr hls hlr hC hA hD hT ha hd ht
  go_enter Tryz.func40, Tryz.ntmps40
  go_wp2_with (fail)
  refine (RS.out _ (by (repeat' (first | (with_reducible assumption) | (with_reducible exact Below.refl _ _) | (with_reducible refine below_wov ?_ ?_ _) | (with_reducible refine below_drewN ?_ _) | (with_reducible refine Below.drew ?_) | (with_reducible refine Below.alloc ?_ ?_ _) | (with_reducible refine Below.setCell ?_ ?_ _) | (with_reducible exact Nat.le_refl _) | omega | (simp only [World.size_alloc, World.size_setCell, World.size_drew, Wov_size, World.heap_drewN]; omega))))).mono ?_; rintro e w' ⟨rfl, q1, rfl⟩
  go_wp2_with (fail)
  refine (TR.out _).mono ?_; rintro e w' ⟨rfl, q2, rfl⟩
  go_wp2_with (fail)
  go_ret
  exact gives_end rfl (by (repeat' (first | (with_reducible assumption) | (with_reducible exact Below.refl _ _) | (with_reducible refine below_wov ?_ ?_ _) | (with_reducible refine below_drewN ?_ _) | (with_reducible refine Below.drew ?_) | (with_reducible refine Below.alloc ?_ ?_ _) | (with_reducible refine Below.setCell ?_ ?_ _) | (with_reducible exact Nat.le_refl _) | omega | (simp only [World.size_alloc, World.size_setCell, World.size_drew, Wov_size, World.heap_drewN]; omega))))
set_option maxRecDepth 10000 in
set_option maxHeartbeats 1000000 in
theorem runW_any (W : World) (B : Nat) (v : Value) (S : List UInt8) (p : Nat) (h : RdI W B v (bs S) p) (hp : p ≤ S.length) (hS : S.length ≤ 140737488355328) : Calls Tryz.prog 40 #[.pointer (some ⟨B, 0, none⟩), .string (bs (lettersT ++ digitsT))] W (Gives W (.string (bs ((S.drop p).takeWhile isW)))) := by
  have hlt := h.lt
  have RS : Hid (∀ w', Below W.heap.size W w' → Calls Tryz.prog 23 #[.pointer (some ⟨B, 0, none⟩)] w' (Gives w' (.string (bs (S.drop p))))) := fun w' hb => rest_any w' B v S p (h.below hb) hp hS
  obtain ⟨r, hr⟩ : ∃ r, r = S.drop p := ⟨_, rfl⟩
  rw [← hr] at RS ⊢
  have TR := Lib.hid (trimW_any r)
  have hls := len_split (p := isW) r
  have hlr : r.length ≤ 140737488355328 := by rw [hr, List.length_drop]; omega
  have hz1 := bs_size r
  have hz2 := bs_size (r.dropWhile isW)
  have eX : (bs r).extract 0 (r.takeWhile isW).length = bs (r.takeWhile isW) := by
    rw [bs_ext, List.drop_zero, Nat.sub_zero]
    congr 2
    conv => lhs; arg 2; rw [← List.takeWhile_append_dropWhile (p := isW) (l := r)]
    rw [List.take_append_of_le_length (Nat.le_refl _), List.take_length]
  obtain ⟨C, hC⟩ : ∃ C, C = bs (lettersT ++ digitsT) := ⟨_, rfl⟩
  obtain ⟨A, hA⟩ : ∃ A, A = bs r := ⟨_, rfl⟩
  obtain ⟨D, hD⟩ : ∃ D, D = bs (r.dropWhile isW) := ⟨_, rfl⟩
  obtain ⟨T, hT⟩ : ∃ T, T = bs (r.takeWhile isW) := ⟨_, rfl⟩
  rw [← hA] at RS TR hz1 eX
  rw [← hC] at TR ⊢
  rw [← hD] at TR hz2
  rw [← hT] at eX ⊢
  obtain ⟨a, ha⟩ : ∃ a, a = r.length := ⟨_, rfl⟩
  obtain ⟨d, hd⟩ : ∃ d, d = (r.dropWhile isW).length := ⟨_, rfl⟩
  obtain ⟨t, ht⟩ : ∃ t, t = (r.takeWhile isW).length := ⟨_, rfl⟩
  rw [← ha] at hz1 hls hlr
  rw [← hd] at hz2 hls
  rw [← ht] at eX hls
  have hw : wrap64 ((a : Int) - (d : Int)) = (t : Int) := by rw [wrap64_id (by omega) (by omega)]; omega
  have j0 : (0 : Int) ≤ (t : Int) := by omega
  have j1 : (t : Int) ≤ (a : Int) := by omega
  have j2 : t ≤ a := by omega
  clear h hp hS hr hls hlr hC hA hD hT ha hd ht
  go_enter Tryz.func40, Tryz.ntmps40
  go_wp2_with (fail)
  refine (RS.out _ (by (repeat' (first | (with_reducible assumption) | (with_reducible exact Below.refl _ _) | (with_reducible refine below_wov ?_ ?_ _) | (with_reducible refine below_drewN ?_ _) | (with_reducible refine Below.drew ?_) | (with_reducible refine Below.alloc ?_ ?_ _) | (with_reducible refine Below.setCell ?_ ?_ _) | (with_reducible exact Nat.le_refl _) | omega | (simp only [World.size_alloc, World.size_setCell, World.size_drew, Wov_size, World.heap_drewN]; omega))))).mono ?_; rintro e w' ⟨rfl, q1, rfl⟩
  go_wp2_with (fail)
  refine (TR.out _).mono ?_; rintro e w' ⟨rfl, q2, rfl⟩
  go_wp2_with (fail)
  go_ret
  exact gives_end rfl (by (repeat' (first | (with_reducible assumption) | (with_reducible exact Below.refl _ _) | (with_reducible refine below_wov ?_ ?_ _) | (with_reducible refine below_drewN ?_ _) | (with_reducible refine Below.drew ?_) | (with_reducible refine Below.alloc ?_ ?_ _) | (with_reducible refine Below.setCell ?_ ?_ _) | (with_reducible exact Nat.le_refl _) | omega | (simp only [World.size_alloc, World.size_setCell, World.size_drew, Wov_size, World.heap_drewN]; omega))))
/-- The world behind a step of the reader's. -/
def stepC (W : World) (B : Nat) (v : Value) (S : ByteArray) (p' : Nat) (W' : World) : Prop := RdI W' B v S p' ∧ Turn W.heap.size B W W'
set_option maxRecDepth 10000 in
set_option maxHeartbeats 1000000 in
theorem may_any (W : World) (B : Nat) (v : Value) (S : List UInt8) (p : Nat) (c : UInt8) (h : RdI W B v (bs S) p) (hp : p ≤ S.length) (hS : S.length ≤ 140737488355328) : Calls Tryz.prog 24 #[.pointer (some ⟨B, 0, none⟩), .string ⟨#[c]⟩] W (fun e W' => e = .returned (.bool (decide ((S.drop p).head? = some c))) ∧ stepC W B v (bs S) (if (S.drop p).head? = some c then p + 1 else p) W') := by
  have hlt := h.lt
  have HI := Lib.hid h
  have c2 := h.c2
  have z2 := h.z2
  have RS : Hid (∀ w', Below W.heap.size W w' → Calls Tryz.prog 23 #[.pointer (some ⟨B, 0, none⟩)] w' (Gives w' (.string (bs (S.drop p))))) := fun w' hb => rest_any w' B v S p (h.below hb) hp hS
  have PR := Lib.hid (prefix_any (S.drop p) c)
  obtain ⟨R, hR⟩ : ∃ R, R = bs (S.drop p) := ⟨_, rfl⟩
  rw [← hR] at RS PR
  have hw : wrap64 ((p : Int) + 1) = (p : Int) + 1 := wrap64_id (by omega) (by omega)
  have hc1 : (ByteArray.mk #[c]).size = 1 := rfl
  clear h hp hS hR
  by_cases hh : (S.drop p).head? = some c
  · rw [decide_eq_true hh] at PR
    rw [decide_eq_true hh, if_pos hh]
    clear hh
    go_enter Tryz.func24, Tryz.ntmps24
    go_wp2_with (fail)
    refine (RS.out _ (by (repeat' (first | (with_reducible assumption) | (with_reducible exact Below.refl _ _) | (with_reducible refine below_wov ?_ ?_ _) | (with_reducible refine below_drewN ?_ _) | (with_reducible refine Below.drew ?_) | (with_reducible refine Below.alloc ?_ ?_ _) | (with_reducible refine Below.setCell ?_ ?_ _) | (with_reducible exact Nat.le_refl _) | omega | (simp only [World.size_alloc, World.size_setCell, World.size_drew, Wov_size, World.heap_drewN]; omega))))).mono ?_; rintro e w' ⟨rfl, q1, rfl⟩
    go_wp2_with (fail)
    refine (PR.out _).mono ?_; rintro e w' ⟨rfl, q2, rfl⟩
    go_wp2_with (fail)
    go_ret
    refine ⟨rfl, RdI.move (p := p) (HI.out.below ?_) (p + 1), ?_⟩
    · (repeat' (first | (with_reducible assumption) | (with_reducible exact Below.refl _ _) | (with_reducible refine below_wov ?_ ?_ _) | (with_reducible refine below_drewN ?_ _) | (with_reducible refine Below.drew ?_) | (with_reducible refine Below.alloc ?_ ?_ _) | (with_reducible refine Below.setCell ?_ ?_ _) | (with_reducible exact Nat.le_refl _) | omega | (simp only [World.size_alloc, World.size_setCell, World.size_drew, Wov_size, World.heap_drewN]; omega)))
    · refine Turn.put (Turn.of ?_) _ _
      (repeat' (first | (with_reducible assumption) | (with_reducible exact Below.refl _ _) | (with_reducible refine below_wov ?_ ?_ _) | (with_reducible refine below_drewN ?_ _) | (with_reducible refine Below.drew ?_) | (with_reducible refine Below.alloc ?_ ?_ _) | (with_reducible refine Below.setCell ?_ ?_ _) | (with_reducible exact Nat.le_refl _) | omega | (simp only [World.size_alloc, World.size_setCell, World.size_drew, Wov_size, World.heap_drewN]; omega)))
  · rw [decide_eq_false hh] at PR
    rw [decide_eq_false hh, if_neg hh]
    clear hh
    go_enter Tryz.func24, Tryz.ntmps24
    go_wp2_with (fail)
    refine (RS.out _ (by (repeat' (first | (with_reducible assumption) | (with_reducible exact Below.refl _ _) | (with_reducible refine below_wov ?_ ?_ _) | (with_reducible refine below_drewN ?_ _) | (with_reducible refine Below.drew ?_) | (with_reducible refine Below.alloc ?_ ?_ _) | (with_reducible refine Below.setCell ?_ ?_ _) | (with_reducible exact Nat.le_refl _) | omega | (simp only [World.size_alloc, World.size_setCell, World.size_drew, Wov_size, World.heap_drewN]; omega))))).mono ?_; rintro e w' ⟨rfl, q1, rfl⟩
    go_wp2_with (fail)
    refine (PR.out _).mono ?_; rintro e w' ⟨rfl, q2, rfl⟩
    go_wp2_with (fail)
    go_ret
    exact ⟨rfl, HI.out.below (by (repeat' (first | (with_reducible assumption) | (with_reducible exact Below.refl _ _) | (with_reducible refine below_wov ?_ ?_ _) | (with_reducible refine below_drewN ?_ _) | (with_reducible refine Below.drew ?_) | (with_reducible refine Below.alloc ?_ ?_ _) | (with_reducible refine Below.setCell ?_ ?_ _) | (with_reducible exact Nat.le_refl _) | omega | (simp only [World.size_alloc, World.size_setCell, World.size_drew, Wov_size, World.heap_drewN]; omega)))), Turn.of (by (repeat' (first | (with_reducible assumption) | (with_reducible exact Below.refl _ _) | (with_reducible refine below_wov ?_ ?_ _) | (with_reducible refine below_drewN ?_ _) | (with_reducible refine Below.drew ?_) | (with_reducible refine Below.alloc ?_ ?_ _) | (with_reducible refine Below.setCell ?_ ?_ _) | (with_reducible exact Nat.le_refl _) | omega | (simp only [World.size_alloc, World.size_setCell, World.size_drew, Wov_size, World.heap_drewN]; omega))))⟩
/-- An error's value: none, or a fault in memory. -/
def ErrIs (b0 : Nat) (W : World) (v : Value) (e p : Nat) : Prop := (e = 0 ∧ v = .nilIface) ∨ (e ≠ 0 ∧ ∃ N, v = .iface 44 (.pointer (some ⟨N, 0, none⟩)) ∧ b0 ≤ N ∧ N < W.heap.size ∧ W.cell? ⟨N, 0, none⟩ = some (.int .i64 e) ∧ W.cell? ⟨N, 1, none⟩ = some (.int .i64 p))
theorem ErrIs.mono {b0 b1 : Nat} {W : World} {v : Value} {e p : Nat} (h : ErrIs b1 W v e p) (hb : b0 ≤ b1) : ErrIs b0 W v e p := by
  rcases h with h | ⟨h0, N, h1, h2, h3⟩
  · exact .inl h
  · exact .inr ⟨h0, N, h1, Nat.le_trans hb h2, h3⟩
theorem syntax_any (W : World) (p : Nat) : Calls Tryz.prog 25 #[.int .i64 p] W (fun e W' => Below W.heap.size W W' ∧ ∃ v, e = .returned v ∧ ErrIs W.heap.size W' v 170 p) := by
  go_enter Tryz.func25, Tryz.ntmps25
  go_wp2_with (fail)
  go_ret
  exact ⟨by (repeat' (first | (with_reducible assumption) | (with_reducible exact Below.refl _ _) | (with_reducible refine below_wov ?_ ?_ _) | (with_reducible refine below_drewN ?_ _) | (with_reducible refine Below.drew ?_) | (with_reducible refine Below.alloc ?_ ?_ _) | (with_reducible refine Below.setCell ?_ ?_ _) | (with_reducible exact Nat.le_refl _) | omega | (simp only [World.size_alloc, World.size_setCell, World.size_drew, Wov_size, World.heap_drewN]; omega))), _, rfl, .inr ⟨by decide, _, rfl, by simp, by simp, by simp [go_sem], by simp [go_sem]⟩⟩
#print axioms syntax_any
end Go.Proofs.YtccbhblklhmcpaaGreatDoor
