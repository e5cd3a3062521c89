/- Plain laws: all picked times are fractions that may be, none in between goes too far, and they keep the closed matrix. No condition. -/
import Derived.Test.YtpaomeilfmeheaaDoorG4
namespace Go.Proofs.YtpaomeilfmeheaaDoor
set_option linter.unusedSimpArgs false
set_option linter.unusedVariables false
open Go Go.RowKit

/-- All that the code reckons for one time may be. -/
structure PickOK (g h t : Nat → Int) (m : Nat) : Prop where
  ts : ∀ k, k < m → ok8 (t k)
  even : ∀ k, k < m → t k % 2 = 0
  lo : ∀ k, k < m → g k ≠ noneB → ok8 (8 * (g k / 2)) ∧ ok8 (t k - 8 * (g k / 2))
  hi : ∀ k, k < m → h k ≠ noneB → ok8 (8 * (h k / 2)) ∧ ok8 (t k + 8 * (h k / 2))
  lob : ∀ k, k < m → bd 864691128455135232 (g k)
  hib : ∀ k, k < m → bd 864691128455135232 (h k)
  res : ok8 (pickE (lowF g t m) (lowF h (fun k => -(t k)) m))

/-- The first time. -/
theorem pick1 {n : Nat} {c : Nat → Int} (h1 : 1 < n) : (c (0 * n + 1) ≠ noneB ∧ pickT n c 1 = -(8 * (c (0 * n + 1) / 2))) ∨ (c (1 * n + 0) ≠ noneB ∧ pickT n c 1 = 8 * (c (1 * n + 0) / 2)) ∨
    (c (0 * n + 1) ≠ noneB ∧ c (1 * n + 0) ≠ noneB ∧ pickT n c 1 = (-(8 * (c (0 * n + 1) / 2)) + 8 * (c (1 * n + 0) / 2)) / 2) ∨
    (c (1 * n + 0) = noneB ∧ c (0 * n + 1) ≠ noneB ∧ pickT n c 1 = -(8 * (c (0 * n + 1) / 2)) + 8) ∨
    (c (0 * n + 1) = noneB ∧ c (1 * n + 0) ≠ noneB ∧ pickT n c 1 = 8 * (c (1 * n + 0) / 2) - 8) ∨ pickT n c 1 = 0 := by
  have h0 := pickT_zero n c
  rcases pick_cases (fun k => c (k * n + 1)) (fun k => c (1 * n + k)) (pickT n c) 1 (pickT n c 1) (pickT_succ n c 0) with ⟨k, hk, a, b⟩ | ⟨k, hk, a, b⟩ | ⟨k, l, hk, hl, a, a', b⟩ | ⟨z, k, hk, a, b⟩ | ⟨z, k, hk, a, b⟩ | ⟨z, b⟩
  · obtain rfl : k = 0 := by omega
    exact .inl ⟨a, by rw [b, h0]; (try simp only); omega⟩
  · obtain rfl : k = 0 := by omega
    exact .inr (.inl ⟨a, by rw [b, h0]; (try simp only); omega⟩)
  · obtain rfl : k = 0 := by omega
    obtain rfl : l = 0 := by omega
    exact .inr (.inr (.inl ⟨a, a', by rw [b, h0]; (try simp only); congr 1; omega⟩))
  · obtain rfl : k = 0 := by omega
    exact .inr (.inr (.inr (.inl ⟨z 0 (by omega), a, by rw [b, h0]; (try simp only); omega⟩)))
  · obtain rfl : k = 0 := by omega
    exact .inr (.inr (.inr (.inr (.inl ⟨z 0 (by omega), a, by rw [b, h0]; (try simp only); omega⟩))))
  · exact .inr (.inr (.inr (.inr (.inr b))))
theorem pick1_even {n : Nat} {c : Nat → Int} (h1 : 1 < n) : pickT n c 1 % 4 = 0 ∧ (pickT n c 1 % 8 ≠ 0 → c (0 * n + 1) ≠ noneB ∧ c (1 * n + 0) ≠ noneB) := by
  rcases pick1 (c := c) h1 with ⟨_, h⟩ | ⟨_, h⟩ | ⟨a, b, h⟩ | ⟨_, _, h⟩ | ⟨_, _, h⟩ | h
  · exact ⟨by omega, fun h' => by omega⟩
  · exact ⟨by omega, fun h' => by omega⟩
  · exact ⟨by omega, fun _ => ⟨a, b⟩⟩
  · exact ⟨by omega, fun h' => by omega⟩
  · exact ⟨by omega, fun h' => by omega⟩
  · exact ⟨by omega, fun h' => by omega⟩

section
variable {n : Nat} {f c : Nat → Int} (K : ClosedI n f c)
include K

theorem pickB {i j : Nat} (hi : i < n) (hj : j < n) (h : c (i * n + j) ≠ noneB) : -864691128455135232 ≤ c (i * n + j) / 2 ∧ c (i * n + j) / 2 ≤ 864691128455135232 :=
  (K.bound i j hi hj).resolve_left h

theorem pick1_bd (h1 : 1 < n) : -6917529027641081864 ≤ pickT n c 1 ∧ pickT n c 1 ≤ 6917529027641081864 := by
  rcases pick1 (c := c) h1 with ⟨a, h⟩ | ⟨a, h⟩ | ⟨a, b, h⟩ | ⟨_, a, h⟩ | ⟨_, a, h⟩ | h
  · have := pickB K (show 0 < n by omega) h1 a; omega
  · have := pickB K h1 (show 0 < n by omega) a; omega
  · have := pickB K (show 0 < n by omega) h1 a; have := pickB K h1 (show 0 < n by omega) b; omega
  · have := pickB K (show 0 < n by omega) h1 a; omega
  · have := pickB K h1 (show 0 < n by omega) a; omega
  · omega

/-- The second time. -/
theorem pick2_even (h2 : 2 < n) : pickT n c 2 % 2 = 0 ∧ (pickT n c 2 % 4 ≠ 0 → c (0 * n + 1) ≠ noneB ∧ c (1 * n + 0) ≠ noneB ∧ c (0 * n + 2) ≠ noneB ∧ c (2 * n + 0) ≠ noneB) := by
  have h0 := pickT_zero n c
  obtain ⟨e1, e2⟩ := pick1_even (c := c) (show 1 < n by omega)
  have ek : ∀ k, k < 2 → pickT n c k % 4 = 0 := fun k hk => by
    have : k = 0 ∨ k = 1 := by omega
    rcases this with rfl | rfl
    · rw [h0]; rfl
    · exact e1
  rcases pick_cases (fun k => c (k * n + 2)) (fun k => c (2 * n + k)) (pickT n c) 2 (pickT n c 2) (pickT_succ n c 1) with ⟨k, hk, a, b⟩ | ⟨k, hk, a, b⟩ | ⟨k, l, hk, hl, a, a', b⟩ | ⟨z, k, hk, a, b⟩ | ⟨z, k, hk, a, b⟩ | ⟨z, b⟩
  · have := ek k hk; (try simp only at b); exact ⟨by omega, fun h' => by omega⟩
  · have := ek k hk; (try simp only at b); exact ⟨by omega, fun h' => by omega⟩
  · have x1 := ek k hk
    have x2 := ek l hl
    (try simp only at b a a')
    refine ⟨by omega, fun h' => ?_⟩
    have hk' : k = 0 ∨ k = 1 := by omega
    have hl' : l = 0 ∨ l = 1 := by omega
    have t1 : pickT n c 1 % 8 ≠ 0 := by
      rcases hk' with rfl | rfl <;> rcases hl' with rfl | rfl
      · omega
      · omega
      · omega
      · omega
    obtain ⟨g1, g2⟩ := e2 t1
    refine ⟨g1, g2, ?_, ?_⟩
    · rcases hk' with rfl | rfl
      · exact a
      · exact (tri_int K (show 0 < n by omega) h2 (show 1 < n by omega) g1 a).1
    · rcases hl' with rfl | rfl
      · exact a'
      · exact (tri_int K h2 (show 0 < n by omega) (show 1 < n by omega) a' g2).1
  · have := ek k hk; (try simp only at b); exact ⟨by omega, fun h' => by omega⟩
  · have := ek k hk; (try simp only at b); exact ⟨by omega, fun h' => by omega⟩
  · exact ⟨by omega, fun h' => by omega⟩
theorem pick2_bd (h2 : 2 < n) : -13835058055282163728 ≤ pickT n c 2 ∧ pickT n c 2 ≤ 13835058055282163728 := by
  have h0 := pickT_zero n c
  have b1 := pick1_bd K (show 1 < n by omega)
  have ek : ∀ k, k < 2 → -6917529027641081864 ≤ pickT n c k ∧ pickT n c k ≤ 6917529027641081864 := fun k hk => by
    have : k = 0 ∨ k = 1 := by omega
    rcases this with rfl | rfl
    · rw [h0]; omega
    · exact b1
  rcases pick_cases (fun k => c (k * n + 2)) (fun k => c (2 * n + k)) (pickT n c) 2 (pickT n c 2) (pickT_succ n c 1) with ⟨k, hk, a, b⟩ | ⟨k, hk, a, b⟩ | ⟨k, l, hk, hl, a, a', b⟩ | ⟨z, k, hk, a, b⟩ | ⟨z, k, hk, a, b⟩ | ⟨z, b⟩
  · have := ek k hk; have := pickB K (show k < n by omega) h2 a; (try simp only at b); omega
  · have := ek k hk; have := pickB K h2 (show k < n by omega) a; (try simp only at b); omega
  · have := ek k hk; have := ek l hl; have := pickB K (show k < n by omega) h2 a; have := pickB K h2 (show l < n by omega) a'; (try simp only at b); omega
  · have := ek k hk; have := pickB K (show k < n by omega) h2 a; (try simp only at b); omega
  · have := ek k hk; have := pickB K h2 (show k < n by omega) a; (try simp only at b); omega
  · omega

/-- The third time. -/
theorem pick3_even (h3 : 3 < n) : pickT n c 3 % 2 ≠ 0 → c (0 * n + 3) ≠ noneB ∧ c (3 * n + 0) ≠ noneB := by
  have h0 := pickT_zero n c
  obtain ⟨e1, _⟩ := pick1_even (c := c) (show 1 < n by omega)
  obtain ⟨e2, e3⟩ := pick2_even K (show 2 < n by omega)
  have ek : ∀ k, k < 3 → pickT n c k % 2 = 0 := fun k hk => by
    have : k = 0 ∨ k = 1 ∨ k = 2 := by omega
    rcases this with rfl | rfl | rfl
    · rw [h0]; rfl
    · omega
    · exact e2
  intro ho
  rcases pick_cases (fun k => c (k * n + 3)) (fun k => c (3 * n + k)) (pickT n c) 3 (pickT n c 3) (pickT_succ n c 2) with ⟨k, hk, a, b⟩ | ⟨k, hk, a, b⟩ | ⟨k, l, hk, hl, a, a', b⟩ | ⟨z, k, hk, a, b⟩ | ⟨z, k, hk, a, b⟩ | ⟨z, b⟩
  · have := ek k hk; (try simp only at b); omega
  · have := ek k hk; (try simp only at b); omega
  · (try simp only at b a a')
    have hk' : k = 0 ∨ k = 1 ∨ k = 2 := by omega
    have hl' : l = 0 ∨ l = 1 ∨ l = 2 := by omega
    have t2 : pickT n c 2 % 4 ≠ 0 := by
      rcases hk' with rfl | rfl | rfl <;> rcases hl' with rfl | rfl | rfl <;> omega
    obtain ⟨g1, g2, g3, g4⟩ := e3 t2
    constructor
    · rcases hk' with rfl | rfl | rfl
      · exact a
      · exact (tri_int K (show 0 < n by omega) h3 (show 1 < n by omega) g1 a).1
      · exact (tri_int K (show 0 < n by omega) h3 (show 2 < n by omega) g3 a).1
    · rcases hl' with rfl | rfl | rfl
      · exact a'
      · exact (tri_int K h3 (show 0 < n by omega) (show 1 < n by omega) a' g2).1
      · exact (tri_int K h3 (show 0 < n by omega) (show 2 < n by omega) a' g4).1
  · have := ek k hk; (try simp only at b); omega
  · have := ek k hk; (try simp only at b); omega
  · omega

/-- The times that are picked keep all bounds. -/
theorem picks_keep_upto : ∀ m, m < n → n ≤ 4 → ∀ i j, i ≤ m → j ≤ m → keepE (pickT n c i - pickT n c j) (c (i * n + j))
  | 0, hm, hn, i, j, hi, hj => by
    obtain rfl : i = 0 := by omega
    obtain rfl : j = 0 := by omega
    rw [K.diag hm]; unfold keepE; omega
  | m + 1, hm, hn, i, j, hi, hj => by
    have ih := picks_keep_upto m (by omega) hn
    have he : ∀ k, k < m + 1 → pickT n c k % 2 = 0 := fun k hk => by
      have : k = 0 ∨ k = 1 ∨ k = 2 := by omega
      rcases this with rfl | rfl | rfl
      · rfl
      · have := (pick1_even (c := c) (show 1 < n by omega)).1; omega
      · exact (pick2_even K (show 2 < n by omega)).1
    have hk := pick_keeps K hm (t := pickT n c) (fun k l hk hl => ih k l (by omega) (by omega)) he rfl rfl
    rw [← pickT_succ] at hk
    rcases Nat.lt_or_eq_of_le hi with hi' | rfl
    · rcases Nat.lt_or_eq_of_le hj with hj' | rfl
      · exact ih i j (by omega) (by omega)
      · exact (hk i hi').1
    · rcases Nat.lt_or_eq_of_le hj with hj' | rfl
      · exact (hk j hj').2
      · rw [K.diag hm]; unfold keepE; omega
theorem picks_keep (hn : n ≤ 4) {i j : Nat} (hi : i < n) (hj : j < n) : keepE (pickT n c i - pickT n c j) (c (i * n + j)) :=
  picks_keep_upto K (n - 1) (by omega) hn i j (by omega) (by omega)
end

theorem hid_way {a N : Int} {P : Prop} (h : a ≠ N → P) : Hid (a ≠ N → P) := h
/-- The second of three times does not go too far. -/
theorem pick2_near {n : Nat} {f c : Nat → Int} (hn : n ≤ 4) (hb : ∀ i j, i < n → j < n → bd 288230376151711744 (f (i * n + j))) (K : ClosedI n f c) (h2 : 2 < n) :
    -9223372036854775824 ≤ pickT n c 2 ∧ pickT n c 2 ≤ 9223372036854775824 := by
  have l0 : 0 < n := by omega
  have l1 : 1 < n := by omega
  have h0 := pickT_zero n c
  have kp : ∀ i j, i < n → j < n → c (i * n + j) ≠ noneB → pickT n c i - pickT n c j ≤ 8 * (c (i * n + j) / 2) := fun i j hi hj hne => by
    rcases picks_keep K hn hi hj with h | h | h
    · exact absurd h hne
    · omega
    · omega
  have k01 := kp 0 1 l0 l1
  have k10 := kp 1 0 l1 l0
  have k02 := kp 0 2 l0 h2
  have k20 := kp 2 0 h2 l0
  have k12 := kp 1 2 l1 h2
  have k21 := kp 2 1 h2 l1
  rw [h0] at k01 k10 k02 k20
  have b01 := pickB K l0 l1
  have b10 := pickB K l1 l0
  have b02 := pickB K l0 h2
  have b20 := pickB K h2 l0
  have b12 := pickB K l1 h2
  have b21 := pickB K h2 l1
  have W12 := way3 hn hb K (i := 1) (j := 2) (m := 0) l1 h2 l0 (by omega) (by omega) (by omega)
  have W21 := way3 hn hb K (i := 2) (j := 1) (m := 0) h2 l1 l0 (by omega) (by omega) (by omega)
  have W10 := way3 hn hb K (i := 1) (j := 0) (m := 2) l1 l0 h2 (by omega) (by omega) (by omega)
  have W01 := way3 hn hb K (i := 0) (j := 1) (m := 2) l0 l1 h2 (by omega) (by omega) (by omega)
  have T20 := fun (x : c (2 * n + 1) ≠ noneB) (y : c (1 * n + 0) ≠ noneB) => tri_int K h2 l0 l1 x y
  have T02 := fun (x : c (0 * n + 1) ≠ noneB) (y : c (1 * n + 2) ≠ noneB) => tri_int K l0 h2 l1 x y
  have Q1 := pick1 (c := c) l1
  have Q2 := pick_cases (fun k => c (k * n + 2)) (fun k => c (2 * n + k)) (pickT n c) 2 (pickT n c 2) (pickT_succ n c 1)
  have k2 : ∀ k, k < 2 → k = 0 ∨ k = 1 := fun k hk => by omega
  obtain ⟨t1, ht1⟩ : ∃ t1, t1 = pickT n c 1 := ⟨_, rfl⟩
  obtain ⟨t2, ht2⟩ : ∃ t2, t2 = pickT n c 2 := ⟨_, rfl⟩
  rw [← ht1] at k01 k10 k12 k21 Q1
  rw [← ht2] at k02 k20 k12 k21 Q2 ⊢
  have R2 : ((c (0 * n + 2) ≠ noneB ∧ t2 ≤ -(8 * (c (0 * n + 2) / 2)) + 8) ∨ (c (1 * n + 2) ≠ noneB ∧ t2 ≤ t1 - 8 * (c (1 * n + 2) / 2) + 8) ∨ c (2 * n + 0) ≠ noneB ∨ c (2 * n + 1) ≠ noneB ∨ t2 = 0) ∧
      ((c (2 * n + 0) ≠ noneB ∧ -t2 ≤ -(8 * (c (2 * n + 0) / 2)) + 8) ∨ (c (2 * n + 1) ≠ noneB ∧ -t2 ≤ -t1 - 8 * (c (2 * n + 1) / 2) + 8) ∨ c (0 * n + 2) ≠ noneB ∨ c (1 * n + 2) ≠ noneB ∨ -t2 = 0) := by
    rcases Q2 with ⟨k, hk, a, b⟩ | ⟨k, hk, a, b⟩ | ⟨k, l, hk, hl, a, a', b⟩ | ⟨z, k, hk, a, b⟩ | ⟨z, k, hk, a, b⟩ | ⟨z, b⟩
    · rcases k2 k hk with rfl | rfl
      · rw [h0] at b; exact ⟨.inl ⟨a, by omega⟩, .inr (.inr (.inl a))⟩
      · rw [← ht1] at b; exact ⟨.inr (.inl ⟨a, by omega⟩), .inr (.inr (.inr (.inl a)))⟩
    · rcases k2 k hk with rfl | rfl
      · rw [h0] at b; exact ⟨.inr (.inr (.inl a)), .inl ⟨a, by omega⟩⟩
      · rw [← ht1] at b; exact ⟨.inr (.inr (.inr (.inl a))), .inr (.inl ⟨a, by omega⟩)⟩
    · refine ⟨?_, ?_⟩
      · rcases k2 l hl with rfl | rfl
        · exact .inr (.inr (.inl a'))
        · exact .inr (.inr (.inr (.inl a')))
      · rcases k2 k hk with rfl | rfl
        · exact .inr (.inr (.inl a))
        · exact .inr (.inr (.inr (.inl a)))
    · rcases k2 k hk with rfl | rfl
      · rw [h0] at b; exact ⟨.inl ⟨a, by omega⟩, .inr (.inr (.inl a))⟩
      · rw [← ht1] at b; exact ⟨.inr (.inl ⟨a, by omega⟩), .inr (.inr (.inr (.inl a)))⟩
    · rcases k2 k hk with rfl | rfl
      · rw [h0] at b; exact ⟨.inr (.inr (.inl a)), .inl ⟨a, by omega⟩⟩
      · rw [← ht1] at b; exact ⟨.inr (.inr (.inr (.inl a))), .inr (.inl ⟨a, by omega⟩)⟩
    · exact ⟨.inr (.inr (.inr (.inr b))), .inr (.inr (.inr (.inr (by omega))))⟩
  have R1 : ((c (0 * n + 1) ≠ noneB ∧ t1 = -(8 * (c (0 * n + 1) / 2))) ∨ c (1 * n + 0) ≠ noneB ∨ (c (0 * n + 1) ≠ noneB ∧ t1 = -(8 * (c (0 * n + 1) / 2)) + 8) ∨ t1 = 0) ∧
      ((c (1 * n + 0) ≠ noneB ∧ -t1 = -(8 * (c (1 * n + 0) / 2))) ∨ c (0 * n + 1) ≠ noneB ∨ (c (1 * n + 0) ≠ noneB ∧ -t1 = -(8 * (c (1 * n + 0) / 2)) + 8) ∨ -t1 = 0) := by
    rcases Q1 with ⟨a, h⟩ | ⟨a, h⟩ | ⟨a, b, h⟩ | ⟨_, a, h⟩ | ⟨_, a, h⟩ | h
    · exact ⟨.inl ⟨a, h⟩, .inr (.inl a)⟩
    · exact ⟨.inr (.inl a), .inl ⟨a, by omega⟩⟩
    · exact ⟨.inr (.inl b), .inr (.inl a)⟩
    · exact ⟨.inr (.inr (.inl ⟨a, h⟩)), .inr (.inl a)⟩
    · exact ⟨.inr (.inl a), .inr (.inr (.inl ⟨a, by omega⟩))⟩
    · exact ⟨.inr (.inr (.inr h)), .inr (.inr (.inr (by omega)))⟩
  have up := up2 (N := noneB) (B := 288230376151711744) (t1 := t1) (t2 := t2) (by omega) (hid_way fun h => by have := b01 h; omega) (hid_way fun h => by have := b02 h; omega) (hid_way fun h => by have := b20 h; omega) (hid_way fun h => by have := b12 h; omega) (hid_way fun h => by have := b21 h; omega)
    (hid_way fun h => by have := k10 h; omega) (hid_way fun h => by have := k20 h; omega) (hid_way fun h => by have := k21 h; omega) (Lib.hid R1.1) (Lib.hid R2.1)
    (Lib.hid W12) (Lib.hid W10) (Lib.hid W01) (Lib.hid W21) (hid_way fun x y => (T20 x y).1) (hid_way fun x y => ⟨(T02 x y).1, (T02 x y).2.1⟩)
  have dn := up2 (N := noneB) (B := 288230376151711744) (t1 := -t1) (t2 := -t2) (c01 := c (1 * n + 0)) (c10 := c (0 * n + 1)) (c02 := c (2 * n + 0)) (c20 := c (0 * n + 2)) (c12 := c (2 * n + 1)) (c21 := c (1 * n + 2)) (by omega) (hid_way fun h => by have := b10 h; omega) (hid_way fun h => by have := b20 h; omega) (hid_way fun h => by have := b02 h; omega) (hid_way fun h => by have := b21 h; omega) (hid_way fun h => by have := b12 h; omega)
    (hid_way fun h => by have := k01 h; omega) (hid_way fun h => by have := k02 h; omega) (hid_way fun h => by have := k12 h; omega) (Lib.hid R1.2) (Lib.hid R2.2)
    (Lib.hid (by rcases W21 with h | ⟨a, b, h⟩ | h
                 · exact .inl h
                 · exact .inr (.inl ⟨b, a, by omega⟩)
                 · exact .inr (.inr h))) (Lib.hid (by
                 rcases W01 with h | ⟨a, b, h⟩ | h
                 · exact .inl h
                 · exact .inr (.inl ⟨b, a, by omega⟩)
                 · exact .inr (.inr h))) (Lib.hid (by
                 rcases W10 with h | ⟨a, b, h⟩ | h
                 · exact .inl h
                 · exact .inr (.inl ⟨b, a, by omega⟩)
                 · exact .inr (.inr h))) (Lib.hid (by
                 rcases W12 with h | ⟨a, b, h⟩ | h
                 · exact .inl h
                 · exact .inr (.inl ⟨b, a, by omega⟩)
                 · exact .inr (.inr h))) (hid_way fun x y => (T02 y x).1) (hid_way fun x y => ⟨(T20 y x).1, by have := (T20 y x).2.1; omega⟩)
  omega

theorem ok8_even {t : Int} (h : t % 2 = 0) (h1 : -18446744073709551616 < t) (h2 : t < 18446744073709551616) : ok8 t := ⟨h1, h2, fun h' => absurd h h'⟩
/-- All times before the last one: even, and not too far. -/
theorem pick_before {n : Nat} {f c : Nat → Int} (hn : n ≤ 4) (hb : ∀ i j, i < n → j < n → bd 288230376151711744 (f (i * n + j))) (K : ClosedI n f c) {m : Nat} (hm : m < n) : ∀ k, k < m → pickT n c k % 2 = 0 ∧ -9223372036854775824 ≤ pickT n c k ∧ pickT n c k ≤ 9223372036854775824 := fun k hk => by
  have : k = 0 ∨ k = 1 ∨ k = 2 := by omega
  rcases this with rfl | rfl | rfl
  · rw [pickT_zero]; omega
  · have := (pick1_even (c := c) (show 1 < n by omega)).1
    have := pick1_bd K (show 1 < n by omega)
    omega
  · have := (pick2_even K (show 2 < n by omega)).1
    have := pick2_near hn hb K (show 2 < n by omega)
    omega
/-- All that the code reckons for a closed one may be. -/
theorem picks_ok {n : Nat} {f c : Nat → Int} (hn : n ≤ 4) (hb : ∀ i j, i < n → j < n → bd 288230376151711744 (f (i * n + j))) (K : ClosedI n f c) {m : Nat} (hm0 : 1 ≤ m) (hm : m < n) :
    PickOK (fun k => c (k * n + m)) (fun k => c (m * n + k)) (pickT n c) m ∧ ok8 (pickT n c m) := by
  have B := pick_before hn hb K hm
  have hres : ok8 (pickT n c m) := by
    have : m = 1 ∨ m = 2 ∨ m = 3 := by omega
    rcases this with rfl | rfl | rfl
    · have h1 := (pick1_even (c := c) (show 1 < n by omega)).1
      have := pick1_bd K (show 1 < n by omega)
      exact ok8_even (by omega) (by omega) (by omega)
    · have := (pick2_even K (show 2 < n by omega)).1
      have := pick2_near hn hb K (show 2 < n by omega)
      exact ok8_even (by omega) (by omega) (by omega)
    · have ho := pick3_even K hm
      have kp : ∀ i j, i < n → j < n → c (i * n + j) ≠ noneB → pickT n c i - pickT n c j ≤ 8 * (c (i * n + j) / 2) := fun i j hi hj hne => by
        rcases picks_keep K hn hi hj with h | h | h
        · exact absurd h hne
        · omega
        · omega
      have far : -18446744073709551616 < pickT n c 3 ∧ pickT n c 3 < 18446744073709551616 := by
        rcases pick_cases (fun k => c (k * n + 3)) (fun k => c (3 * n + k)) (pickT n c) 3 (pickT n c 3) (pickT_succ n c 2) with ⟨k, hk, a, b⟩ | ⟨k, hk, a, b⟩ | ⟨k, l, hk, hl, a, a', b⟩ | ⟨z, k, hk, a, b⟩ | ⟨z, k, hk, a, b⟩ | ⟨z, b⟩
        · have := B k hk; have := pickB K (show k < n by omega) hm a; (try simp only at b); omega
        · have := B k hk; have := pickB K hm (show k < n by omega) a; (try simp only at b); omega
        · have := B k hk; have := B l hl; have := pickB K (show k < n by omega) hm a; have := pickB K hm (show l < n by omega) a'; (try simp only at b); omega
        · have := B k hk; have := pickB K (show k < n by omega) hm a; (try simp only at b); omega
        · have := B k hk; have := pickB K hm (show k < n by omega) a; (try simp only at b); omega
        · omega
      refine ⟨far.1, far.2, fun h => ?_⟩
      obtain ⟨g1, g2⟩ := ho h
      have x1 := kp 0 3 (by omega) hm g1
      have x2 := kp 3 0 hm (by omega) g2
      have x3 := pickB K (show 0 < n by omega) hm g1
      have x4 := pickB K hm (show 0 < n by omega) g2
      rw [pickT_zero] at x1 x2
      omega
  refine ⟨⟨fun k hk => ?_, fun k hk => (B k hk).1, fun k hk hne => ?_, fun k hk hne => ?_, fun k hk => K.bound k m (by omega) hm, fun k hk => K.bound m k hm (by omega), ?_⟩, hres⟩
  · obtain ⟨x, y, z⟩ := B k hk
    exact ok8_even x (by omega) (by omega)
  · obtain ⟨x, y, z⟩ := B k hk
    have := pickB K (show k < n by omega) hm hne
    exact ⟨ok8_even (by omega) (by omega) (by omega), ok8_even (by omega) (by omega) (by omega)⟩
  · obtain ⟨x, y, z⟩ := B k hk
    have := pickB K hm (show k < n by omega) hne
    exact ⟨ok8_even (by omega) (by omega) (by omega), ok8_even (by omega) (by omega) (by omega)⟩
  · obtain ⟨m', rfl⟩ : ∃ m', m = m' + 1 := ⟨m - 1, by omega⟩
    rw [← pickT_succ]; exact hres
#print axioms picks_ok
end Go.Proofs.YtpaomeilfmeheaaDoor
