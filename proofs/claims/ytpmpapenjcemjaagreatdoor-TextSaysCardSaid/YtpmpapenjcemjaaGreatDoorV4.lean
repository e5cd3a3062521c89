/- The document's zones' texts: contracts of number and bound. No condition but that the text is a number's as it is written, and on size. -/
import Derived.Test.YtpmpapenjcemjaaGreatDoorMV
import Derived.Laws.Bits64
import Derived.Laws.BitsLemmas
namespace Go.Proofs.YtpmpapenjcemjaaGreatDoor
set_option linter.unusedSimpArgs false
set_option linter.unusedVariables false
open Go Go.RowKit Go.Shelf
attribute [local go_sem] Nat.add_assoc Nat.add_lt_add_iff_left lit_lt_add

theorem valD_mono (l : List UInt8) : ∀ acc : Nat, acc * 10 ^ l.length ≤ valD acc l := by
  induction l with
  | nil => intro acc; show acc * 10 ^ 0 ≤ acc; rw [Nat.pow_zero, Nat.mul_one]; exact Nat.le_refl _
  | cons c r ih =>
    intro acc
    have h := ih (acc * 10 + (c.toNat - 48))
    show acc * 10 ^ (r.length + 1) ≤ valD (acc * 10 + (c.toNat - 48)) r
    rw [Nat.pow_succ]
    obtain ⟨P, hP⟩ : ∃ P, P = 10 ^ r.length := ⟨_, rfl⟩
    rw [← hP] at h ⊢
    refine Nat.le_trans ?_ h
    rw [Nat.mul_comm P 10, ← Nat.mul_assoc]
    exact Nat.mul_le_mul_right _ (Nat.le_add_right _ _)
theorem valD_lt (l : List UInt8) : ∀ acc : Nat, l.all isD = true → valD acc l < (acc + 1) * 10 ^ l.length := by
  induction l with
  | nil => intro acc _; show acc < (acc + 1) * 10 ^ 0; rw [Nat.pow_zero, Nat.mul_one]; exact Nat.lt_succ_self _
  | cons c r ih =>
    intro acc h
    simp only [List.all_cons, Bool.and_eq_true] at h
    have hc := of_decide_eq_true (show decide (48 ≤ c.toNat ∧ c.toNat ≤ 57) = true from h.1)
    have h2 := ih (acc * 10 + (c.toNat - 48)) h.2
    show valD (acc * 10 + (c.toNat - 48)) r < (acc + 1) * 10 ^ (r.length + 1)
    rw [Nat.pow_succ]
    obtain ⟨P, hP⟩ : ∃ P, P = 10 ^ r.length := ⟨_, rfl⟩
    rw [← hP] at h2 ⊢
    refine Nat.lt_of_lt_of_le h2 ?_
    rw [Nat.mul_comm P 10, ← Nat.mul_assoc]
    exact Nat.mul_le_mul_right _ (by omega)
/-- A number of more than nineteen digits is too great. -/
theorem canon_long {D : List UInt8} (h : canonD D = true) (hl : 19 < D.length) : 2305843009213693952 < valD 0 D := by
  obtain ⟨hne, hall⟩ := canonD_ne h
  cases D with
  | nil => exact absurd rfl hne
  | cons c r =>
    have h48 : c ≠ 48 := by
      intro e
      unfold canonD at h
      simp only [Bool.and_eq_true, Bool.or_eq_true, decide_eq_true_eq] at h
      rcases h.2 with h2 | ⟨_, h2⟩
      · rw [h2] at hl; simp at hl
      · rw [e] at h2; simp at h2
    simp only [List.all_cons, Bool.and_eq_true] at hall
    have hc := of_decide_eq_true (show decide (48 ≤ c.toNat ∧ c.toNat ≤ 57) = true from hall.1)
    have hc2 : c.toNat ≠ 48 := fun e => h48 (UInt8.toNat_inj.1 e)
    have := valD_mono r (0 * 10 + (c.toNat - 48))
    unfold valD
    have hp : 10 ^ 19 ≤ 10 ^ r.length := Nat.pow_le_pow_right (by omega) (by simp at hl; omega)
    have h1 : 1 * 10 ^ r.length ≤ (0 * 10 + (c.toNat - 48)) * 10 ^ r.length := Nat.mul_le_mul_right _ (by omega)
    have : (10 : Nat) ^ 19 = 10000000000000000000 := by decide
    omega
theorem valD_short {D : List UInt8} (h : D.all isD = true) {i : Nat} (hi : i ≤ D.length) (hl : D.length ≤ 19) : valD 0 (D.take i) < 10 ^ i := by
  have h1 := valD_lt (D.take i) 0 (by
    rw [List.all_eq_true] at h ⊢
    exact fun x hx => h x (List.mem_of_mem_take hx))
  rw [List.length_take, Nat.min_eq_left hi, Nat.zero_add, Nat.one_mul] at h1
  exact h1
theorem valD_next {D : List UInt8} {i : Nat} {x : UInt8} (hx : D[i]? = some x) : valD 0 (D.take (i + 1)) = valD 0 (D.take i) * 10 + (x.toNat - 48) := by
  rw [List.take_add_one, hx]
  exact valD_app _ _ _
theorem pow_18 {v i : Nat} (h : v < 10 ^ i) (hi : i < 19) : v < 1000000000000000000 := by
  have : 10 ^ i ≤ 10 ^ 18 := Nat.pow_le_pow_right (by omega) (by omega)
  have : (10 : Nat) ^ 18 = 1000000000000000000 := by decide
  omega
/-- A number, and an error. -/
def numR (l : List UInt8) : Int × Int := (if numE l = 0 then valT l else 0, numE l)
theorem num_nums (v d : Nat) (hv : v < 1000000000000000000) (h1 : 48 ≤ d) (h2 : d ≤ 57) :
    (IntKind.u8.wrap ((d : Int) - 48) = ((d - 48 : Nat) : Int)) ∧ (IntKind.u64.wrap (10 * (v : Int)) = ((10 * v : Nat) : Int)) ∧ (IntKind.u64.wrap (10 * (v : Int) + ((d - 48 : Nat) : Int)) = ((v * 10 + (d - 48) : Nat) : Int)) ∧ IntKind.u64.wrap ((d - 48 : Nat) : Int) = ((d - 48 : Nat) : Int) := by
  refine ⟨?_, ?_, ?_, ?_⟩
  · rw [IntKind.wrap_u8]; omega
  · rw [IntKind.wrap_u64]; omega
  · rw [IntKind.wrap_u64]; omega
  · rw [IntKind.wrap_u64]; omega
theorem wrap64_id' {a b : Int} (h : a = b) (h1 : -9223372036854775808 ≤ b) (h2 : b ≤ 9223372036854775807) : wrap64 a = b := by rw [h]; exact wrap64_id h1 h2
set_option maxRecDepth 10000 in
set_option maxHeartbeats 4000000 in
theorem number31_any (l : List UInt8) (hc : canonT l = true) (hl : l.length ≤ 900000) (w : World) : Calls Tryz.prog 115 #[.string (bs l)] w (Gives w (.tuple #[.int .i64 (numR l).1, .int .i64 (numR l).2])) := by
  obtain ⟨R1, hR1⟩ : ∃ R, R = (numR l).1 := ⟨_, rfl⟩
  obtain ⟨R2, hR2⟩ : ∃ R, R = (numR l).2 := ⟨_, rfl⟩
  rw [← hR1, ← hR2]
  by_cases h45 : l.head? = some 45
  · obtain ⟨D, rfl⟩ : ∃ r, l = 45 :: r := by
      cases l with
      | nil => cases h45
      | cons x r => simp only [List.head?_cons, Option.some.injEq] at h45; exact ⟨r, by rw [h45]⟩
    rw [canonT_neg, Bool.and_eq_true] at hc
    have HA : Hid (D.all isD = true) := (canonD_ne hc.1).2
    have HL : Hid (19 < D.length → 2305843009213693952 < valD 0 D) := canon_long hc.1
    have hv : valT (45 :: D) = -(valD 0 D : Int) := valT_neg D
    have e0 : ∀ h, (bs (45 :: D))[0]'h = 45 := fun h => rfl
    have e1 : (bs (45 :: D)).extract 1 (bs (45 :: D)).size = bs D := by rw [bs_end]; rfl
    have szl : (bs (45 :: D)).size = 1 + D.length := by rw [bs_size, List.length_cons, Nat.add_comm]
    have szD : (bs D).size = D.length := bs_size D
    have gD := Lib.hid (bs_at D)
    obtain ⟨n, hn⟩ : ∃ n, n = D.length := ⟨_, rfl⟩
    rw [← hn] at szl szD HL
    rw [szl] at e1
    have hl2 : n ≤ 900000 := by rw [hn]; simp at hl; omega
    have Hn := Lib.hid hn
    have HR1 := Lib.hid hR1
    have HR2 := Lib.hid hR2
    have HV := Lib.hid hv
    clear hn hl hR1 hR2 hv hc h45
    by_cases h19 : n ≤ 19
    · have d19 : decide ((19 : Int) < (n : Int)) = false := decide_eq_false (by omega)
      go_enter Tryz.func115, Tryz.ntmps115
      go_wp2_with (fail)
      clear e0 e1 szl d19
      go_loopw [5, 6] (fun s5 s6 wr => ∃ i : Nat, s5 = .int .u64 (valD 0 (D.take i) : Nat) ∧ s6 = .int .i64 i ∧ i ≤ n ∧ Below w.heap.size w wr)
        (fun _ s6 _ => n - (intOf s6).toNat)
      case atStart => exact ⟨0, rfl, rfl, Nat.zero_le _, Below.refl _ _⟩
      case round =>
        obtain ⟨i, rfl, rfl, hin, hBl⟩ := hrel
        by_cases hlt : i < n
        · obtain ⟨x, hx⟩ : ∃ x, D[i]? = some x := ⟨_, List.getElem?_eq_getElem (by rw [← Hn.out]; exact hlt)⟩
          have gx := gD.out i x hx
          have i0 : (0 : Int) ≤ (i : Int) := by omega
          have i1 : (i : Int) < (n : Int) := by omega
          have hd := List.all_eq_true.1 HA.out x (List.mem_of_getElem? hx)
          have hd := of_decide_eq_true (show decide (48 ≤ x.toNat ∧ x.toNat ≤ 57) = true from hd)
          have hv := pow_18 (valD_short HA.out (i := i) (by rw [← Hn.out]; exact hin) (by rw [← Hn.out]; exact h19)) (by omega)
          have hnx := valD_next hx
          obtain ⟨v, hv0⟩ : ∃ v, v = valD 0 (D.take i) := ⟨_, rfl⟩
          rw [← hv0] at hv hnx ⊢
          obtain ⟨a1, a2, a3, a4⟩ := num_nums v x.toNat hv hd.1 hd.2
          have HNX := Lib.hid hnx
          clear hnx hv0 hx hv hd
          go_wp2_with (fail)
          go_roundw
          case rel => exact ⟨i + 1, by rw [HNX.out]; first | rfl | (congr 1; omega), by go_num, hlt, by (repeat' (first | (with_reducible assumption) | (with_reducible exact Below.refl _ _) | (with_reducible refine below_wov ?_ ?_ _) | (with_reducible refine below_drewN ?_ _) | (with_reducible refine Below.drew ?_) | (with_reducible refine Below.alloc ?_ ?_ _) | (with_reducible refine Below.setCell ?_ ?_ _) | (with_reducible exact Nat.le_refl _) | omega | (simp only [World.size_alloc, World.size_setCell, World.size_drew, Wov_size, World.heap_drewN]; omega)))⟩
          case measure => simp [intOf]; omega
        · obtain rfl : i = n := by omega
          have ht : D.take i = D := List.take_of_length_le (by rw [Hn.out]; exact Nat.le_refl _)
          rw [ht]
          obtain ⟨V, hV⟩ : ∃ V, V = valD 0 D := ⟨_, rfl⟩
          rw [← hV] at HV ⊢
          clear ht hV hin hlt
          by_cases hbig : 2305843009213693952 < V
          · have d1 : decide ((2305843009213693952 : Int) < (V : Int)) = true := decide_eq_true (by omega)
            have hE : numE (45 :: D) = 151 := by unfold numE; rw [HV.out, if_neg (by omega)]
            have hR1 : R1 = 0 := by rw [HR1.out]; unfold numR; rw [hE]; rfl
            have hR2 : R2 = 151 := by rw [HR2.out]; unfold numR; exact hE
            clear hbig hE HR1 HR2 HV
            subst hR1 hR2
            go_wp2_with (fail)
            go_ret2
            exact gives_end rfl (by (repeat' (first | (with_reducible assumption) | (with_reducible exact Below.refl _ _) | (with_reducible refine below_wov ?_ ?_ _) | (with_reducible refine below_drewN ?_ _) | (with_reducible refine Below.drew ?_) | (with_reducible refine Below.alloc ?_ ?_ _) | (with_reducible refine Below.setCell ?_ ?_ _) | (with_reducible exact Nat.le_refl _) | omega | (simp only [World.size_alloc, World.size_setCell, World.size_drew, Wov_size, World.heap_drewN]; omega))))
          · have d1 : decide ((2305843009213693952 : Int) < (V : Int)) = false := decide_eq_false (by omega)
            have hE : numE (45 :: D) = 0 := by unfold numE; rw [HV.out, if_pos (by omega)]
            have hR1 : R1 = -(V : Int) := by rw [HR1.out]; unfold numR; rw [if_pos hE, HV.out]
            have hR2 : R2 = 0 := by rw [HR2.out]; unfold numR; exact hE
            have w1 : wrap64 (V : Int) = (V : Int) := wrap64_id (by omega) (by omega)
            have w2 : wrap64 (-(V : Int)) = -(V : Int) := wrap64_id (by omega) (by omega)
            have w3 : wrap64 (-1 * (V : Int)) = -(V : Int) := wrap64_id' (by omega) (by omega) (by omega)
            clear hbig hE HR1 HR2 HV
            subst hR1 hR2
            have W1 := Lib.hid w1
            have W2 := Lib.hid w2
            clear w1 w2 w3
            go_wp2_with (fail)
            go_ret2
            refine gives_end ?_ (by (repeat' (first | (with_reducible assumption) | (with_reducible exact Below.refl _ _) | (with_reducible refine below_wov ?_ ?_ _) | (with_reducible refine below_drewN ?_ _) | (with_reducible refine Below.drew ?_) | (with_reducible refine Below.alloc ?_ ?_ _) | (with_reducible refine Below.setCell ?_ ?_ _) | (with_reducible exact Nat.le_refl _) | omega | (simp only [World.size_alloc, World.size_setCell, World.size_drew, Wov_size, World.heap_drewN]; omega))))
            first | (show Value.tuple #[.int .i64 (wrap64 (-wrap64 (V : Int))), .int .i64 0] = _; rw [W1.out, W2.out]) | (show Value.tuple #[.int .i64 (wrap64 (wrap64 (V : Int))), .int .i64 0] = _; rw [W1.out, W1.out])
    · have d19 : decide ((19 : Int) < (n : Int)) = true := decide_eq_true (by omega)
      have hb := HL.out (by omega)
      have hE : numE (45 :: D) = 151 := by unfold numE; rw [HV.out, if_neg (by omega)]
      have hR1' : R1 = 0 := by rw [HR1.out]; unfold numR; rw [hE]; rfl
      have hR2' : R2 = 151 := by rw [HR2.out]; unfold numR; exact hE
      clear hb hE HR1 HR2 HV HL HA gD Hn
      subst hR1' hR2'
      go_enter Tryz.func115, Tryz.ntmps115
      go_wp2_with (fail)
      go_ret2
      exact gives_end rfl (by (repeat' (first | (with_reducible assumption) | (with_reducible exact Below.refl _ _) | (with_reducible refine below_wov ?_ ?_ _) | (with_reducible refine below_drewN ?_ _) | (with_reducible refine Below.drew ?_) | (with_reducible refine Below.alloc ?_ ?_ _) | (with_reducible refine Below.setCell ?_ ?_ _) | (with_reducible exact Nat.le_refl _) | omega | (simp only [World.size_alloc, World.size_setCell, World.size_drew, Wov_size, World.heap_drewN]; omega))))
  · rw [canonT_pos h45] at hc
    have HA : Hid (l.all isD = true) := (canonD_ne hc).2
    have HL : Hid (19 < l.length → 2305843009213693952 < valD 0 l) := canon_long hc
    have hv : valT l = (valD 0 l : Int) := valT_pos h45
    have szD : (bs l).size = l.length := bs_size l
    have gD := Lib.hid (bs_at l)
    cases hh : l.head? with
    | none =>
      have hnil : l = [] := by simpa using hh
      exact absurd hnil (canonD_ne hc).1
    | some x =>
      have hx0 : l[0]? = some x := by rw [← List.head?_eq_getElem?]; exact hh
      have e0 := gD.out 0 x hx0
      have dx : ((x.toNat : Int) == 45) = false := by
        rw [beq_eq_false_iff_ne]; intro h; exact h45 (by rw [hh, show x = 45 from UInt8.toNat_inj.1 (by show x.toNat = 45; omega)])
      have s0' := (List.getElem?_eq_some_iff.1 hx0).1
      obtain ⟨n, hn⟩ : ∃ n, n = l.length := ⟨_, rfl⟩
      rw [← hn] at szD HL s0' hl
      have s1 : (0 : Int) < (n : Int) := by omega
      have Hn := Lib.hid hn
      have HR1 := Lib.hid hR1
      have HR2 := Lib.hid hR2
      have HV := Lib.hid hv
      clear hn hR1 hR2 hv hc h45 hh hx0
      by_cases h19 : n ≤ 19
      · have d19 : decide ((19 : Int) < (n : Int)) = false := decide_eq_false (by omega)
        go_enter Tryz.func115, Tryz.ntmps115
        go_wp2_with (fail)
        clear e0 dx d19 s1
        go_loopw [5, 6] (fun s5 s6 wr => ∃ i : Nat, s5 = .int .u64 (valD 0 (l.take i) : Nat) ∧ s6 = .int .i64 i ∧ i ≤ n ∧ Below w.heap.size w wr)
          (fun _ s6 _ => n - (intOf s6).toNat)
        case atStart => exact ⟨0, rfl, rfl, Nat.zero_le _, Below.refl _ _⟩
        case round =>
          obtain ⟨i, rfl, rfl, hin, hBl⟩ := hrel
          by_cases hlt : i < n
          · obtain ⟨x, hx⟩ : ∃ x, l[i]? = some x := ⟨_, List.getElem?_eq_getElem (by rw [← Hn.out]; exact hlt)⟩
            have gx := gD.out i x hx
            have i0 : (0 : Int) ≤ (i : Int) := by omega
            have i1 : (i : Int) < (n : Int) := by omega
            have hd := List.all_eq_true.1 HA.out x (List.mem_of_getElem? hx)
            have hd := of_decide_eq_true (show decide (48 ≤ x.toNat ∧ x.toNat ≤ 57) = true from hd)
            have hv := pow_18 (valD_short HA.out (i := i) (by rw [← Hn.out]; exact hin) (by rw [← Hn.out]; exact h19)) (by omega)
            have hnx := valD_next hx
            obtain ⟨v, hv0⟩ : ∃ v, v = valD 0 (l.take i) := ⟨_, rfl⟩
            rw [← hv0] at hv hnx ⊢
            obtain ⟨a1, a2, a3, a4⟩ := num_nums v x.toNat hv hd.1 hd.2
            have HNX := Lib.hid hnx
            clear hnx hv0 hx hv hd
            go_wp2_with (fail)
            go_roundw
            case rel => exact ⟨i + 1, by rw [HNX.out]; first | rfl | (congr 1; omega), by go_num, hlt, by (repeat' (first | (with_reducible assumption) | (with_reducible exact Below.refl _ _) | (with_reducible refine below_wov ?_ ?_ _) | (with_reducible refine below_drewN ?_ _) | (with_reducible refine Below.drew ?_) | (with_reducible refine Below.alloc ?_ ?_ _) | (with_reducible refine Below.setCell ?_ ?_ _) | (with_reducible exact Nat.le_refl _) | omega | (simp only [World.size_alloc, World.size_setCell, World.size_drew, Wov_size, World.heap_drewN]; omega)))⟩
            case measure => simp [intOf]; omega
          · obtain rfl : i = n := by omega
            have ht : l.take i = l := List.take_of_length_le (by rw [Hn.out]; exact Nat.le_refl _)
            rw [ht]
            obtain ⟨V, hV⟩ : ∃ V, V = valD 0 l := ⟨_, rfl⟩
            rw [← hV] at HV ⊢
            clear ht hV hin hlt
            by_cases hbig : 2305843009213693952 < V
            · have d1 : decide ((2305843009213693952 : Int) < (V : Int)) = true := decide_eq_true (by omega)
              have hE : numE l = 151 := by unfold numE; rw [HV.out, if_neg (by omega)]
              have hR1 : R1 = 0 := by rw [HR1.out]; unfold numR; rw [hE]; rfl
              have hR2 : R2 = 151 := by rw [HR2.out]; unfold numR; exact hE
              clear hbig hE HR1 HR2 HV
              subst hR1 hR2
              go_wp2_with (fail)
              go_ret2
              exact gives_end rfl (by (repeat' (first | (with_reducible assumption) | (with_reducible exact Below.refl _ _) | (with_reducible refine below_wov ?_ ?_ _) | (with_reducible refine below_drewN ?_ _) | (with_reducible refine Below.drew ?_) | (with_reducible refine Below.alloc ?_ ?_ _) | (with_reducible refine Below.setCell ?_ ?_ _) | (with_reducible exact Nat.le_refl _) | omega | (simp only [World.size_alloc, World.size_setCell, World.size_drew, Wov_size, World.heap_drewN]; omega))))
            · have d1 : decide ((2305843009213693952 : Int) < (V : Int)) = false := decide_eq_false (by omega)
              have hE : numE l = 0 := by unfold numE; rw [HV.out, if_pos (by omega)]
              have hR1 : R1 = (V : Int) := by rw [HR1.out]; unfold numR; rw [if_pos hE, HV.out]
              have hR2 : R2 = 0 := by rw [HR2.out]; unfold numR; exact hE
              have w1 : wrap64 (V : Int) = (V : Int) := wrap64_id (by omega) (by omega)
              have w2 : wrap64 (-(V : Int)) = -(V : Int) := wrap64_id (by omega) (by omega)
              have w3 : wrap64 (-1 * (V : Int)) = -(V : Int) := wrap64_id' (by omega) (by omega) (by omega)
              clear hbig hE HR1 HR2 HV
              subst hR1 hR2
              have W1 := Lib.hid w1
              have W2 := Lib.hid w2
              clear w1 w2 w3
              go_wp2_with (fail)
              go_ret2
              refine gives_end ?_ (by (repeat' (first | (with_reducible assumption) | (with_reducible exact Below.refl _ _) | (with_reducible refine below_wov ?_ ?_ _) | (with_reducible refine below_drewN ?_ _) | (with_reducible refine Below.drew ?_) | (with_reducible refine Below.alloc ?_ ?_ _) | (with_reducible refine Below.setCell ?_ ?_ _) | (with_reducible exact Nat.le_refl _) | omega | (simp only [World.size_alloc, World.size_setCell, World.size_drew, Wov_size, World.heap_drewN]; omega))))
              first | (show Value.tuple #[.int .i64 (wrap64 (-wrap64 (V : Int))), .int .i64 0] = _; rw [W1.out, W2.out]) | (show Value.tuple #[.int .i64 (wrap64 (wrap64 (V : Int))), .int .i64 0] = _; rw [W1.out, W1.out])
      · have d19 : decide ((19 : Int) < (n : Int)) = true := decide_eq_true (by omega)
        have hb := HL.out (by omega)
        have hE : numE l = 151 := by unfold numE; rw [HV.out, if_neg (by omega)]
        have hR1' : R1 = 0 := by rw [HR1.out]; unfold numR; rw [hE]; rfl
        have hR2' : R2 = 151 := by rw [HR2.out]; unfold numR; exact hE
        clear hb hE HR1 HR2 HV HL HA gD Hn
        subst hR1' hR2'
        go_enter Tryz.func115, Tryz.ntmps115
        go_wp2_with (fail)
        go_ret2
        exact gives_end rfl (by (repeat' (first | (with_reducible assumption) | (with_reducible exact Below.refl _ _) | (with_reducible refine below_wov ?_ ?_ _) | (with_reducible refine below_drewN ?_ _) | (with_reducible refine Below.drew ?_) | (with_reducible refine Below.alloc ?_ ?_ _) | (with_reducible refine Below.setCell ?_ ?_ _) | (with_reducible exact Nat.le_refl _) | omega | (simp only [World.size_alloc, World.size_setCell, World.size_drew, Wov_size, World.heap_drewN]; omega))))
theorem bnd_nums (s n : Int) (hs : s = 1 ∨ s = -1) (h1 : -2305843009213693952 ≤ n) (h2 : n ≤ 2305843009213693952) :
    wrap64 (2 * s) = 2 * s ∧ wrap64 (2 * s * n) = 2 * s * n ∧ wrap64 (2 * s * n + 1) = 2 * s * n + 1 := by
  rcases hs with rfl | rfl
  · exact ⟨wrap64_id (by omega) (by omega), wrap64_id (by omega) (by omega), wrap64_id (by omega) (by omega)⟩
  · exact ⟨wrap64_id (by omega) (by omega), wrap64_id (by omega) (by omega), wrap64_id (by omega) (by omega)⟩
theorem numR_fits (l : List UInt8) : -2305843009213693952 ≤ (numR l).1 ∧ (numR l).1 ≤ 2305843009213693952 := by
  unfold numR
  simp only
  split
  · rename_i h; exact numE_zero h
  · omega
set_option maxRecDepth 10000 in
set_option maxHeartbeats 4000000 in
theorem bound31_any (l : List UInt8) (hc : synT l) (s : Int) (hs : s = 1 ∨ s = -1) (i : Bool) (hl : l.length ≤ 900000) (w : World) : Calls Tryz.prog 72 #[.string (bs l), .int .i64 s, .bool i] w (Gives w (.tuple #[.int .i64 (bndD l s i).1, .int .i64 (bndD l s i).2])) := by
  obtain ⟨R1, hR1⟩ : ∃ R, R = (bndD l s i).1 := ⟨_, rfl⟩
  obtain ⟨R2, hR2⟩ : ∃ R, R = (bndD l s i).2 := ⟨_, rfl⟩
  rw [← hR1, ← hR2]
  unfold bndD at hR1 hR2
  by_cases h1 : l = [111, 111]
  · rw [if_pos (.inl h1)] at hR1 hR2
    have q1 : (l == [111, 111]) = true := by rw [beq_iff_eq]; exact h1
    simp only at hR1 hR2
    rw [noneB_val] at hR1
    subst hR1 hR2
    clear h1 hc hs hl
    go_enter Tryz.func72, Tryz.ntmps72
    go_wp2_with (fail)
    all_goals
      go_ret2
      exact gives_end rfl (by (repeat' (first | (with_reducible assumption) | (with_reducible exact Below.refl _ _) | (with_reducible refine below_wov ?_ ?_ _) | (with_reducible refine below_drewN ?_ _) | (with_reducible refine Below.drew ?_) | (with_reducible refine Below.alloc ?_ ?_ _) | (with_reducible refine Below.setCell ?_ ?_ _) | (with_reducible exact Nat.le_refl _) | omega | (simp only [World.size_alloc, World.size_setCell, World.size_drew, Wov_size, World.heap_drewN]; omega))))
  · have q1 : (l == [111, 111]) = false := by rw [beq_eq_false_iff_ne]; exact h1
    by_cases h2 : l = [45, 111, 111]
    · rw [if_pos (.inr h2)] at hR1 hR2
      have q2 : (l == [45, 111, 111]) = true := by rw [beq_iff_eq]; exact h2
      simp only at hR1 hR2
      rw [noneB_val] at hR1
      subst hR1 hR2
      clear h1 h2 hc hs hl
      go_enter Tryz.func72, Tryz.ntmps72
      go_wp2_with (fail)
      all_goals
        go_ret2
        exact gives_end rfl (by (repeat' (first | (with_reducible assumption) | (with_reducible exact Below.refl _ _) | (with_reducible refine below_wov ?_ ?_ _) | (with_reducible refine below_drewN ?_ _) | (with_reducible refine Below.drew ?_) | (with_reducible refine Below.alloc ?_ ?_ _) | (with_reducible refine Below.setCell ?_ ?_ _) | (with_reducible exact Nat.le_refl _) | omega | (simp only [World.size_alloc, World.size_setCell, World.size_drew, Wov_size, World.heap_drewN]; omega))))
    · have q2 : (l == [45, 111, 111]) = false := by rw [beq_eq_false_iff_ne]; exact h2
      rw [if_neg (fun h => h.elim h1 h2)] at hR1 hR2
      have hcn : canonT l = true := by
        rcases hc with h | h | h
        · exact h
        · exact absurd h h1
        · exact absurd h h2
      have NB := Lib.hid (number31_any l hcn hl)
      have hf := numR_fits l
      have e1 : (numR l).1 = (if numE l = 0 then valT l else 0) := rfl
      have e2 : (numR l).2 = numE l := rfl
      rw [← e1] at hR1
      rw [← e2] at hR2
      simp only at hR1 hR2
      obtain ⟨⟨n, e⟩, hn⟩ : ∃ r, r = numR l := ⟨_, rfl⟩
      rw [← hn] at NB hf hR1 hR2
      simp only at hf hR1 hR2
      obtain ⟨b1, b2, b3⟩ := bnd_nums s n hs hf.1 hf.2
      subst hR2
      clear e1 e2 hn hcn h1 h2 hc hs hl hf
      cases i
      · have hR : R1 = 2 * s * n := by rw [hR1]; simp
        clear hR1 b3
        subst hR
        go_enter Tryz.func72, Tryz.ntmps72
        go_wp2_with (fail)
        refine (NB.out _).mono ?_; rintro e' w' ⟨rfl, p1, rfl⟩
        go_wp2_with (fail)
        go_ret2
        exact gives_end (by show Value.tuple #[.int .i64 (wrap64 (2 * s * n)), .int .i64 R2] = _; rw [b2]) (by (repeat' (first | (with_reducible assumption) | (with_reducible exact Below.refl _ _) | (with_reducible refine below_wov ?_ ?_ _) | (with_reducible refine below_drewN ?_ _) | (with_reducible refine Below.drew ?_) | (with_reducible refine Below.alloc ?_ ?_ _) | (with_reducible refine Below.setCell ?_ ?_ _) | (with_reducible exact Nat.le_refl _) | omega | (simp only [World.size_alloc, World.size_setCell, World.size_drew, Wov_size, World.heap_drewN]; omega))))
      · have hR : R1 = 2 * s * n + 1 := by rw [hR1]; simp
        clear hR1
        subst hR
        go_enter Tryz.func72, Tryz.ntmps72
        go_wp2_with (fail)
        refine (NB.out _).mono ?_; rintro e' w' ⟨rfl, p1, rfl⟩
        go_wp2_with (fail)
        go_ret2
        exact gives_end (by show Value.tuple #[.int .i64 (wrap64 (2 * s * n + 1)), .int .i64 R2] = _; rw [b3]) (by (repeat' (first | (with_reducible assumption) | (with_reducible exact Below.refl _ _) | (with_reducible refine below_wov ?_ ?_ _) | (with_reducible refine below_drewN ?_ _) | (with_reducible refine Below.drew ?_) | (with_reducible refine Below.alloc ?_ ?_ _) | (with_reducible refine Below.setCell ?_ ?_ _) | (with_reducible exact Nat.le_refl _) | omega | (simp only [World.size_alloc, World.size_setCell, World.size_drew, Wov_size, World.heap_drewN]; omega))))
#print axioms bound31_any
end Go.Proofs.YtpmpapenjcemjaaGreatDoor
