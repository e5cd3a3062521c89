/- Zones' texts: contracts of strings.Cut at a comma, text.interval, end.bound. No condition but on size, and that strconv.ErrRange lies. -/
import Derived.Test.YtpmpapenjcemjaaGreatDoorU3
namespace Go.Proofs.YtpmpapenjcemjaaGreatDoor
set_option linter.unusedSimpArgs false
set_option linter.unusedVariables false
open Go Go.RowKit Go.Shelf
attribute [local go_sem] Nat.add_assoc Nat.add_lt_add_iff_left lit_lt_add

def cutV (l : List UInt8) : Value := match cutC 44 l with
  | none => .tuple #[.string (bs l), .string ⟨#[]⟩, .bool false]
  | some (a, b) => .tuple #[.string (bs a), .string (bs b), .bool true]
set_option maxRecDepth 10000 in
set_option maxHeartbeats 2000000 in
theorem scut_any (l : List UInt8) (hl : l.length ≤ 140737488355328) : Pure Tryz.prog 159 #[.string (bs l), .string ⟨#[44]⟩] (cutV l) := by
  intro w
  have IX := Lib.hid (sindex_any l 44)
  have sz := bs_size l
  unfold cutV
  rcases cut_comma l with ⟨h1, h2⟩ | ⟨a, b, h1, h2, h3, h4⟩
  · rw [h1]
    rw [h2] at IX
    obtain ⟨S, hS⟩ : ∃ S, S = bs l := ⟨_, rfl⟩
    rw [← hS] at IX sz ⊢
    clear h1 h2 hS
    go_enter Tryz.func159, Tryz.ntmps159
    go_wp2_with (fail)
    refine (IX.out _).mono ?_; rintro e w' ⟨rfl, q1, rfl⟩
    go_wp2
    refine bodyPost_ret (by simp [results, Tryz.results159, go_sem]; try rfl) rfl ?_
    exact gives_end rfl (by (repeat' (first | (with_reducible assumption) | (with_reducible exact Below.refl _ _) | (with_reducible refine below_wov ?_ ?_ _) | (with_reducible refine below_drewN ?_ _) | (with_reducible refine Below.drew ?_) | (with_reducible refine Below.alloc ?_ ?_ _) | (with_reducible refine Below.setCell ?_ ?_ _) | (with_reducible exact Nat.le_refl _) | omega | (simp only [World.size_alloc, World.size_setCell, World.size_drew, Wov_size, World.heap_drewN]; omega))))
  · rw [h1]
    rw [h2] at IX
    have hal : a.length < l.length := by
      have := congrArg List.length h3
      have h5 := (cutC_some h1).1
      rw [h5]; simp
    have e1 : (bs l).extract 0 a.length = bs a := by rw [Lib.extract_eq, bs_list]; simp [h3]
    have e2 : (bs l).extract (a.length + 1) (bs l).size = bs b := by
      rw [Lib.extract_eq, bs_list, bs_size]
      congr 1
      rw [h4, List.take_of_length_le (by rw [← h4, List.length_drop]; omega)]
    obtain ⟨n, hn⟩ : ∃ n, n = a.length := ⟨_, rfl⟩
    rw [← hn] at IX hal e1 e2
    obtain ⟨S, hS⟩ : ∃ S, S = bs l := ⟨_, rfl⟩
    rw [← hS] at IX sz e1 e2 ⊢
    rw [← sz] at hal hl
    have e3 : S.extract (1 + n) S.size = bs b := by rw [Nat.add_comm 1 n]; exact e2
    have n0 : (0 : Int) ≤ (n : Int) := by omega
    have k1 : ¬ S.size < n := by omega
    have k2 : n + 1 ≤ S.size := by omega
    clear h1 h2 h3 h4 hn hS sz
    go_enter Tryz.func159, Tryz.ntmps159
    go_wp2_with (fail)
    refine (IX.out _).mono ?_; rintro e w' ⟨rfl, q1, rfl⟩
    go_wp2
    go_region
    go_wp2
    refine bodyPost_ret (by simp [results, Tryz.results159, go_sem]; try rfl) rfl ?_
    exact gives_end rfl (by (repeat' (first | (with_reducible assumption) | (with_reducible exact Below.refl _ _) | (with_reducible refine below_wov ?_ ?_ _) | (with_reducible refine below_drewN ?_ _) | (with_reducible refine Below.drew ?_) | (with_reducible refine Below.alloc ?_ ?_ _) | (with_reducible refine Below.setCell ?_ ?_ _) | (with_reducible exact Nat.le_refl _) | omega | (simp only [World.size_alloc, World.size_setCell, World.size_drew, Wov_size, World.heap_drewN]; omega))))
set_option maxRecDepth 10000 in
set_option maxHeartbeats 2000000 in
theorem cut_any (l : List UInt8) (hl : l.length ≤ 140737488355328) : Pure Tryz.prog 112 #[.string (bs l), .string ⟨#[44]⟩] (cutV l) := by
  intro w
  obtain ⟨a, b, c, h⟩ : ∃ a b c, cutV l = .tuple #[.string a, .string b, .bool c] := by
    unfold cutV; split <;> exact ⟨_, _, _, rfl⟩
  have C := Lib.hid (scut_any l hl)
  rw [h] at C
  rw [h]
  clear h
  go_enter Tryz.func112, Tryz.ntmps112
  go_wp2_with (fail)
  refine (C.out _).mono ?_; rintro e w' ⟨rfl, q1, rfl⟩
  go_wp2_with (fail)
  refine bodyPost_ret (by simp [results, Tryz.results112, go_sem]; try rfl) rfl ?_
  exact gives_end rfl (by (repeat' (first | (with_reducible assumption) | (with_reducible exact Below.refl _ _) | (with_reducible refine below_wov ?_ ?_ _) | (with_reducible refine below_drewN ?_ _) | (with_reducible refine Below.drew ?_) | (with_reducible refine Below.alloc ?_ ?_ _) | (with_reducible refine Below.setCell ?_ ?_ _) | (with_reducible exact Nat.le_refl _) | omega | (simp only [World.size_alloc, World.size_setCell, World.size_drew, Wov_size, World.heap_drewN]; omega))))
#print axioms cut_any
end Go.Proofs.YtpmpapenjcemjaaGreatDoor
