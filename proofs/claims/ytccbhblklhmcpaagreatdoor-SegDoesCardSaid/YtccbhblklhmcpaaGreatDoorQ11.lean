/- strconv.ParseUint at base 10 and 62 bits: the number, or an error. No condition but on size, and that strconv's errors lie as they are laid. -/
import Derived.Test.YtccbhblklhmcpaaGreatDoorQ10
import Derived.Lib.ConvBytes
import Derived.Laws.BytesArg
namespace Go.Proofs.YtccbhblklhmcpaaGreatDoor
set_option linter.unusedSimpArgs false
set_option linter.unusedVariables false
open Go Go.RowKit Go.Shelf
attribute [local go_sem] Nat.add_assoc Nat.add_lt_add_iff_left lit_lt_add

theorem valD_cat : ∀ (a b : List UInt8) (acc : Nat), valD acc (a ++ b) = valD (valD acc a) b
  | [], b, acc => rfl
  | c :: a, b, acc => by
    show valD (acc * 10 + (c.toNat - 48)) (a ++ b) = valD (valD (acc * 10 + (c.toNat - 48)) a) b
    exact valD_cat a b _
theorem valD_mono : ∀ (l : List UInt8) (acc : Nat), acc ≤ valD acc l
  | [], acc => Nat.le_refl _
  | c :: l, acc => by
    show acc ≤ valD (acc * 10 + (c.toNat - 48)) l
    have := valD_mono l (acc * 10 + (c.toNat - 48))
    omega
/-- Is a text a number below 2^62? -/
def num62 (s : List UInt8) : Prop := s.all isD = true ∧ valD 0 s < 4611686018427387904
theorem num_take {s : List UInt8} {k : Nat} {c : UInt8} (h : s[k]? = some c) : valD 0 (s.take (k + 1)) = valD 0 (s.take k) * 10 + (c.toNat - 48) ∧ valD 0 (s.take (k + 1)) ≤ valD 0 s := by
  refine ⟨?_, ?_⟩
  · rw [List.take_add_one, h]
    exact valD_app _ _ _
  · have e := List.take_append_drop (k + 1) s
    conv => rhs; rw [← e]
    rw [valD_cat]
    exact valD_mono _ _
theorem num_no {s : List UInt8} {k : Nat} {c : UInt8} (h : s[k]? = some c) (hc : ¬ (48 ≤ c.toNat ∧ c.toNat ≤ 57)) : ¬ num62 s := fun hn => by
  have := List.all_eq_true.1 hn.1 c (List.mem_of_getElem? h)
  unfold isD at this
  exact hc (of_decide_eq_true this)
theorem num_wraps (a d : Int) (h0 : 0 ≤ a) (h1 : a < 1844674407370955162) (h2 : 0 ≤ d) (h3 : d ≤ 9) : IntKind.u64.wrap (a * 10) = a * 10 ∧ IntKind.u64.wrap d = d ∧ (a * 10 + d < 18446744073709551616 → IntKind.u64.wrap (a * 10 + d) = a * 10 + d) ∧ (18446744073709551616 ≤ a * 10 + d → IntKind.u64.wrap (a * 10 + d) = a * 10 + d - 18446744073709551616) := by
  rw [IntKind.wrap_u64, IntKind.wrap_u64, IntKind.wrap_u64]
  omega
theorem num_byte (x : Int) (h0 : 48 ≤ x) (h1 : x ≤ 57) : IntKind.u8.wrap (x - 48) = x - 48 := by
  rw [IntKind.wrap_u8]; omega
/-- What the inner function hands back. -/
def puR (s : List UInt8) (w : World) (e : Ending) (w' : World) : Prop :=
  (num62 s ∧ Gives w (.tuple #[.int .u64 (valD 0 s), .nilIface]) e w') ∨ (¬ num62 s ∧ ∃ n c : Int, (c = 1 ∨ c = 2) ∧ Gives w (.tuple #[.int .u64 n, .iface 120 (.int .i64 c)]) e w')
set_option maxRecDepth 100000 in
set_option maxHeartbeats 8000000 in
theorem puintI_any (s : List UInt8) (hs : s ≠ []) (hl : s.length ≤ 140737488355328) (w : World) : Calls Tryz.prog 93 #[.string (bs s), .int .i64 10, .int .i64 62] w (puR s w) := by
  have hemp : (bs s).toList.isEmpty = false := by
    rw [Lib.toList_data, bs_list]
    cases s with
    | nil => exact absurd rfl hs
    | cons => rfl
  have hcv := Lib.run_convert_string_bytes (P := Tryz.prog) w 9 72 5 (bs s) (u := .string) Tryz.underlying9 Tryz.underlying72 Tryz.underlying5
  have hB : Hid (∀ j x, s[j]? = some x → (Lib.bytesWorld w 5 (bs s)).cell? ⟨w.heap.size, j, none⟩ = some (.int .u8 (x.toNat : Int))) := fun j x hx => by
    have hj : j < (bs s).size := by rw [bs_size]; exact (List.getElem?_eq_some_iff.1 hx).1
    rw [Lib.bytesWorld_cell w 5 (bs s) j hj, bs_list, List.getD_eq_getElem?_getD, hx]
    rfl
  have hBl : Hid (Below w.heap.size w (Lib.bytesWorld w 5 (bs s))) := Go.Joins.below_bytesWorld _ _ _ _ (Nat.le_refl _)
  obtain ⟨W1, hW1⟩ : ∃ W1, W1 = Lib.bytesWorld w 5 (bs s) := ⟨_, rfl⟩
  rw [← hW1] at hcv hB hBl
  clear hW1
  have hsz := bs_size s
  obtain ⟨S, hS⟩ : ∃ S, S = bs s := ⟨_, rfl⟩
  obtain ⟨n, hn⟩ : ∃ n, n = s.length := ⟨_, rfl⟩
  rw [← hS] at hcv hsz hemp ⊢
  have Hn := Lib.hid hn
  rw [← hn] at hsz hl
  rw [hsz] at hcv
  clear hS hn hs
  have LW : Hid (∀ (x : Int) w', Calls Tryz.prog 105 #[.int .u8 x] w' (fun e w'' => e = .returned (.int .u8 (bits .or .u8 x 32)) ∧ w'' = w')) := fun x w' => Any.internal_strconv_lower Tryz.lays321 x w'
  have hmv : IntKind.u64.wrap (IntKind.u64.wrap 4611686018427387904 - 1) = 4611686018427387903 := by
    rw [IntKind.wrap_u64, IntKind.wrap_u64]
    decide
  go_enter Tryz.func93, Tryz.ntmps93
  go_wp2_with (fail)
  go_loopw [12, 13, 101] (fun vu vn vi wr => ∃ (k : Nat) (a : Int), vu = .bool false ∧ vn = .int .u64 a ∧ vi = .int .i64 k ∧ k ≤ n ∧ 0 ≤ a ∧ a < 4611686018427387904 ∧ wr = W1 ∧ Hid (a = (valD 0 (s.take k) : Int) ∧ ∀ j x, j < k → s[j]? = some x → isD x = true))
    (fun _ _ vi _ => n - (intOf vi).toNat)
  case atStart => exact ⟨0, 0, rfl, rfl, rfl, Nat.zero_le _, by omega, by omega, rfl, rfl, fun j x h => absurd h (Nat.not_lt_zero _)⟩
  case round =>
    obtain ⟨k, a, rfl, rfl, rfl, hk, a0, a1, rfl, hI⟩ := hrel
    by_cases hkn : k < n
    · obtain ⟨c, hc⟩ : ∃ c, s[k]? = some c := ⟨_, List.getElem?_eq_getElem (by rw [← Hn.out]; exact hkn)⟩
      have hcell := hB.out k c hc
      have hc256 := c.toNat_lt
      have j0 : (0 : Int) ≤ (k : Int) := by omega
      have j1 : (k : Int) < (n : Int) := by omega
      by_cases hdig : 48 ≤ c.toNat ∧ c.toNat ≤ 57
      · obtain ⟨t1, t2⟩ := num_take hc
        obtain ⟨x, hx⟩ : ∃ x : Int, x = (c.toNat : Int) := ⟨_, rfl⟩
        rw [← hx] at hcell
        have x0 : 48 ≤ x := by omega
        have x1 : x ≤ 57 := by omega
        have hb := num_byte x x0 x1
        by_cases hcut : 1844674407370955162 ≤ a
        · have HN : Hid (¬ num62 s) := fun hn => by
            have h1 := hI.out.1
            have h2 := hn.2
            omega
          clear hdig t1 t2 hI hc hx hB
          go_wp2_with (fail)
          go_ret2
          exact .inr ⟨HN.out, _, 1, .inl rfl, gives_below rfl hBl.out⟩
        · have icut : a < 1844674407370955162 := by omega
          obtain ⟨w1, w2, w3, w4⟩ := num_wraps a (x - 48) a0 icut (by omega) (by omega)
          by_cases hov : 18446744073709551616 ≤ a * 10 + (x - 48)
          · have HN : Hid (¬ num62 s) := fun hn => by
              have h1 := hI.out.1
              have h2 := hn.2
              omega
            have w5 := w4 hov
            have lt : a * 10 + (x - 48) - 18446744073709551616 < a * 10 := by omega
            clear hdig t1 t2 hI hc hx hB w3 w4 hcut hov
            go_wp2_with (fail)
            go_ret2
            exact .inr ⟨HN.out, _, 1, .inl rfl, gives_below rfl hBl.out⟩
          · have w5 := w3 (by omega)
            have nlt : a * 10 ≤ a * 10 + (x - 48) := by omega
            by_cases hmx : 4611686018427387903 < a * 10 + (x - 48)
            · have HN : Hid (¬ num62 s) := fun hn => by
                have h1 := hI.out.1
                have h2 := hn.2
                omega
              clear hdig t1 t2 hI hc hx hB w3 w4 hcut hov
              go_wp2_with (fail)
              all_goals
                go_ret2
                exact .inr ⟨HN.out, _, 1, .inl rfl, gives_below rfl hBl.out⟩
            · have HI : Hid (a * 10 + (x - 48) = (valD 0 (s.take (k + 1)) : Int) ∧ ∀ j x, j < k + 1 → s[j]? = some x → isD x = true) := by
                refine ⟨?_, fun j y hj hy => ?_⟩
                · rw [t1]; have := hI.out.1; omega
                · by_cases e : j = k
                  · rw [e, hc] at hy; rw [← Option.some.inj hy]; unfold isD; exact decide_eq_true hdig
                  · exact hI.out.2 j y (by omega) hy
              have b0 : 0 ≤ a * 10 + (x - 48) := by omega
              have b1 : a * 10 + (x - 48) < 4611686018427387904 := by omega
              have b2 : a * 10 + (x - 48) ≤ 4611686018427387903 := by omega
              clear hdig t1 t2 hI hc hx hB w3 w4 hcut hov hmx
              obtain ⟨y, hy⟩ : ∃ y, y = a * 10 + (x - 48) := ⟨_, rfl⟩
              rw [← hy] at w5 nlt HI b0 b1 b2
              go_wp2_with (fail)
              go_roundw
              case rel => exact ⟨k + 1, y, rfl, by first | rfl | (congr 1; omega), by go_num, hkn, b0, b1, by trivial, HI⟩
              case measure => simp [intOf]; omega
      · have HN : Hid (¬ num62 s) := num_no hc hdig
        obtain ⟨x, hx⟩ : ∃ x : Int, x = (c.toNat : Int) := ⟨_, rfl⟩
        rw [← hx] at hcell
        have hdg : x < 48 ∨ 57 < x := by omega
        have x0 : 0 ≤ x := by omega
        have x1 : x < 256 := by omega
        clear hdig hI hc hx hB hc256
        have hv0 := bits_lo_u8 .or x 32
        have hv1 := bits_hi_u8 .or x 32
        have hu0 := bits_lo_u8 .or 95 32
        have hu1 := bits_hi_u8 .or 95 32
        go_wp2_with (fail)
        iterate 3 (all_goals (try (refine (LW.out _ _).mono ?_; rintro e w' ⟨rfl, rfl⟩; go_wp2_with (fail))))
        all_goals go_ret2
        all_goals exact .inr ⟨HN.out, _, 2, .inr rfl, gives_below rfl hBl.out⟩
    · obtain rfl : k = n := by omega
      have HN : Hid (num62 s) := by
        have h1 := hI.out.1
        rw [List.take_of_length_le (by rw [← Hn.out]; exact Nat.le_refl _)] at h1
        refine ⟨?_, by omega⟩
        rw [List.all_eq_true]
        intro x hx
        obtain ⟨j, hj, rfl⟩ := List.getElem_of_mem hx
        exact hI.out.2 j _ (by rw [Hn.out]; exact hj) (List.getElem?_eq_getElem hj)
      have HA : Hid (a = (valD 0 s : Int)) := by
        have h1 := hI.out.1
        rwa [List.take_of_length_le (by rw [← Hn.out]; exact Nat.le_refl _)] at h1
      obtain rfl := HA.out
      clear hI hB
      go_wp2_with (fail)
      go_ret2
      exact .inl ⟨HN.out, gives_below rfl hBl.out⟩
#print axioms puintI_any
end Go.Proofs.YtccbhblklhmcpaaGreatDoor
