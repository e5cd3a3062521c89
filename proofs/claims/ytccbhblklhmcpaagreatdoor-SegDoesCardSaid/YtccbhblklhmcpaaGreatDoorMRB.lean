/- The document's signals: contracts of its 'fits' and 'Same'. No condition but on sizes. The document's signals: contract of its 'Same' where both are the same. No condition but on sizes. -/
import Derived.Test.YtccbhblklhmcpaaGreatDoorMRA
import Derived.Test.YtccbhblklhmcpaaGreatDoorQB
namespace Go.Proofs.YtccbhblklhmcpaaGreatDoor
set_option linter.unusedSimpArgs false
set_option linter.unusedVariables false
open Go Go.RowKit
attribute [local go_sem] Nat.add_assoc Nat.add_lt_add_iff_left lit_lt_add

theorem shr_yes {b n : Nat} (h : 2 ^ n ≤ b) : (0 : Int) < (b : Int) / 2 ^ n := by
  have h1 : 0 < b / 2 ^ n := Nat.div_pos h (Nat.pow_pos (by decide))
  have : ((b / 2 ^ n : Nat) : Int) = (b : Int) / 2 ^ n := by rw [Int.natCast_ediv, Int.natCast_pow]; rfl
  omega
theorem shr_no {b n : Nat} (h : ¬ 2 ^ n ≤ b) : (b : Int) / 2 ^ n = 0 := by
  have h1 : b / 2 ^ n = 0 := Nat.div_eq_of_lt (by omega)
  have : ((b / 2 ^ n : Nat) : Int) = (b : Int) / 2 ^ n := by rw [Int.natCast_ediv, Int.natCast_pow]; rfl
  omega
theorem farL_drop {L : List Sg} {i : Nat} {y : Sg} (h : L[i]? = some y) (left : Int) : farL left (L.drop i) = (decide (left ≤ y.1) || farL (left - y.1) (L.drop (i + 1))) := by
  have hi := (List.getElem?_eq_some_iff.1 h).1
  rw [List.drop_eq_getElem_cons hi]
  rw [List.getElem?_eq_getElem hi] at h
  rw [Option.some.inj h]
  rfl
set_option maxRecDepth 10000 in
set_option maxHeartbeats 2000000 in
theorem fits21_any (w : World) (n : Nat) (p : Option Addr) (c : Nat) (L : List Sg) (hS : SlK sgD w p L) (hn : n ≤ 8) (h8 : ∀ s, s ∈ L → s.2 < 256) (hf : ∀ s, s ∈ L → -9223372036854775808 ≤ s.1 ∧ s.1 ≤ 9223372036854775807) (hL : L.length ≤ 140737488355328) :
    Calls Tryz.prog 15 #[.int .i64 n, .slice p L.length c] w (Gives w (.int .i64 (checkS n L))) := by
  have HS := Lib.hid hS.seg
  have H8 := Lib.hid h8
  have HF := Lib.hid hf
  obtain ⟨m, hm⟩ : ∃ m, m = L.length := ⟨_, rfl⟩
  obtain ⟨R, hR⟩ : ∃ R : Nat, R = checkS n L := ⟨_, rfl⟩
  rw [← hm] at hL ⊢
  rw [← hR]
  have Hm := Lib.hid hm
  have HR := Lib.hid hR
  clear hS h8 hf hm hR
  by_cases h1024 : 1024 < m
  · obtain rfl : R = 4 := by rw [HR.out]; unfold checkS; rw [if_pos (by rw [← Hm.out]; exact h1024)]
    have i1 : (1024 : Int) < (m : Int) := by omega
    clear HR h1024
    go_enter Tryz.func15, Tryz.ntmps15
    go_wp2_with (fail)
    go_ret
    exact gives_end rfl (by (repeat' (first | (with_reducible assumption) | (with_reducible exact Below.refl _ _) | (with_reducible refine below_wov ?_ ?_ _) | (with_reducible refine below_drewN ?_ _) | (with_reducible refine Below.drew ?_) | (with_reducible refine Below.alloc ?_ ?_ _) | (with_reducible refine Below.setCell ?_ ?_ _) | (with_reducible exact Nat.le_refl _) | omega | (simp only [World.size_alloc, World.size_setCell, World.size_drew, Wov_size, World.heap_drewN]; omega))))
  · have i1 : (m : Int) ≤ 1024 := by omega
    have HC : Hid (∀ y, y ∈ L → oddS n y = true → R = 8) := fun y hy ho => by
      rw [HR.out]; unfold checkS
      rw [if_neg (by rw [← Hm.out]; exact h1024), if_pos (List.any_eq_true.2 ⟨y, hy, ho⟩)]
    have HN : Hid ((∀ y, y ∈ L → oddS n y = false) → R = if farL 288230376151711744 L then 220 else 0) := fun h => by
      rw [HR.out]; unfold checkS
      rw [if_neg (by rw [← Hm.out]; exact h1024), if_neg]
      intro ha
      obtain ⟨y, hy, ho⟩ := List.any_eq_true.1 ha
      rw [h y hy] at ho; cases ho
    clear HR
    go_enter Tryz.func15, Tryz.ntmps15
    go_wp2_with (fail)
    go_loopw [5, 6, 7] (fun s5 s6 s7 wr => ∃ (i : Nat) (t : Int) (F : Bool), s7 = .int .i64 i ∧ s5 = .int .i64 t ∧ s6 = .bool F ∧ i ≤ m ∧ 0 ≤ t ∧ t < 288230376151711744 ∧ Below w.heap.size w wr ∧ Hid (farL 288230376151711744 L = (F || farL (288230376151711744 - t) (L.drop i))) ∧ Hid (∀ k y, k < i → L[k]? = some y → oddS n y = false))
      (fun _ _ s7 _ => m - (intOf s7).toNat)
    case atStart => exact ⟨0, 0, false, rfl, rfl, rfl, Nat.zero_le _, by omega, by omega, Below.refl _ _, by show _ = _; rfl, fun k y h => absurd h (Nat.not_lt_zero _)⟩
    case round =>
      obtain ⟨i, t, F, rfl, rfl, rfl, hin, t0, t1, hBw, HFR, HI⟩ := hrel
      have szr := hBw.size
      by_cases hlt : i < m
      · have hil : i < L.length := by rw [← Hm.out]; exact hlt
        obtain ⟨A, o, rfl, hA, hv⟩ := HS.out.resolve_left (fun h => by rw [h] at hil; simp at hil)
        obtain ⟨y, hy⟩ : ∃ y, L[i]? = some y := ⟨_, List.getElem?_eq_getElem hil⟩
        have cy0 := (hBw.cell (p := ⟨A, o + i * 2, none⟩) hA).trans (hv i y hy).1
        have cy1 := (hBw.cell (p := ⟨A, o + (i * 2 + 1), none⟩) hA).trans (hv i y hy).2
        have hA' : A < wr.heap.size := Nat.lt_of_lt_of_le hA szr
        have j0 : (0 : Int) ≤ (i : Int) := by omega
        have j1 : (i : Int) < (m : Int) := by omega
        have hym := List.mem_of_getElem? hy
        have y8 := H8.out y hym
        have yf := HF.out y hym
        have HY := Lib.hid hy
        have HYM := Lib.hid hym
        have sYes := shr_yes (b := y.2) (n := n)
        have sNo := shr_no (b := y.2) (n := n)
        obtain ⟨ya, hya⟩ : ∃ ya, ya = y.1 := ⟨_, rfl⟩
        obtain ⟨yb, hyb⟩ : ∃ yb : Int, yb = (y.2 : Int) := ⟨_, rfl⟩
        rw [← hya] at cy0 yf
        rw [← hyb] at cy1 sYes sNo
        have HYA := Lib.hid hya
        have HYB := Lib.hid hyb
        have hb0 : 0 ≤ yb ∧ yb < 256 := by omega
        have SY := Lib.hid sYes
        have SN := Lib.hid sNo
        have n0 : (0 : Int) ≤ (n : Int) := by omega
        clear hv hy hya hyb hym sYes sNo y8 hil
        by_cases ho1 : ya < 1
        · obtain rfl : R = 8 := HC.out y HYM.out (by unfold oddS; rw [← HYA.out, decide_eq_true ho1]; rfl)
          clear HFR HI HN HC
          go_wp2_with (fail)
          go_ret
          exact gives_end rfl (by (repeat' (first | (with_reducible assumption) | (with_reducible exact Below.refl _ _) | (with_reducible refine below_wov ?_ ?_ _) | (with_reducible refine below_drewN ?_ _) | (with_reducible refine Below.drew ?_) | (with_reducible refine Below.alloc ?_ ?_ _) | (with_reducible refine Below.setCell ?_ ?_ _) | (with_reducible exact Nat.le_refl _) | omega | (simp only [World.size_alloc, World.size_setCell, World.size_drew, Wov_size, World.heap_drewN]; omega))))
        · have ho1' : 1 ≤ ya := by omega
          clear ho1
          by_cases ho2 : 2 ^ n ≤ y.2
          · obtain rfl : R = 8 := HC.out y HYM.out (by unfold oddS; rw [decide_eq_true ho2, Bool.or_true])
            have sh := SY.out ho2
            clear HFR HI HN HC ho2
            go_wp2_with (fail)
            go_ret
            exact gives_end rfl (by (repeat' (first | (with_reducible assumption) | (with_reducible exact Below.refl _ _) | (with_reducible refine below_wov ?_ ?_ _) | (with_reducible refine below_drewN ?_ _) | (with_reducible refine Below.drew ?_) | (with_reducible refine Below.alloc ?_ ?_ _) | (with_reducible refine Below.setCell ?_ ?_ _) | (with_reducible exact Nat.le_refl _) | omega | (simp only [World.size_alloc, World.size_setCell, World.size_drew, Wov_size, World.heap_drewN]; omega))))
          · have sh := SN.out ho2
            have HI2 : Hid (∀ k y, k < i + 1 → L[k]? = some y → oddS n y = false) := fun k z hk hz => by
              by_cases ek : k = i
              · rw [ek, HY.out] at hz; rw [← Option.some.inj hz]; unfold oddS; rw [← HYA.out, decide_eq_false (by omega), decide_eq_false ho2]; rfl
              · exact HI.out k z (by omega) hz
            have hfd := farL_drop HY.out (288230376151711744 - t)
            have HFD := Lib.hid hfd
            clear ho2 HI hfd
            cases F
            · obtain ⟨lf, hlf⟩ : ∃ lf : Int, lf = 288230376151711744 - t := ⟨_, rfl⟩
              have hw1 : wrap64 (288230376151711744 - t) = lf := by rw [hlf]; exact wrap64_id (by omega) (by omega)
              have HLF := Lib.hid hlf
              by_cases hfar : lf ≤ ya
              · have HFR2 : Hid (farL 288230376151711744 L = (true || farL (288230376151711744 - t) (L.drop (i + 1)))) := by
                  show _ = _
                  rw [HFR.out, HFD.out, decide_eq_true (by rw [← HLF.out, ← HYA.out]; exact hfar)]; rfl
                have d1 : decide (288230376151711744 - t ≤ ya) = true := decide_eq_true (by omega)
                clear hlf HFR hfar hw1
                go_wp2_with (fail)
                go_roundw
                case rel => exact ⟨i + 1, t, true, by go_num, rfl, rfl, hlt, t0, t1, by (repeat' (first | (with_reducible assumption) | (with_reducible exact Below.refl _ _) | (with_reducible refine below_wov ?_ ?_ _) | (with_reducible refine below_drewN ?_ _) | (with_reducible refine Below.drew ?_) | (with_reducible refine Below.alloc ?_ ?_ _) | (with_reducible refine Below.setCell ?_ ?_ _) | (with_reducible exact Nat.le_refl _) | omega | (simp only [World.size_alloc, World.size_setCell, World.size_drew, Wov_size, World.heap_drewN]; omega))), HFR2, HI2⟩
                case measure => simp [intOf]; omega
              · have hfar' : ya < lf := by omega
                have ht1 : t + ya < 288230376151711744 := by omega
                have HFR2 : Hid (farL 288230376151711744 L = (false || farL (288230376151711744 - (t + ya)) (L.drop (i + 1)))) := by
                  show _ = _
                  rw [HFR.out, HFD.out, decide_eq_false (by rw [← HLF.out, ← HYA.out]; exact hfar), Bool.false_or, Bool.false_or, Bool.false_or, ← HYA.out, Int.sub_sub]
                have hw2 : wrap64 (t + ya) = t + ya := wrap64_id (by omega) (by omega)
                have ht0 : 0 ≤ t + ya := by omega
                have d1 : decide (288230376151711744 - t ≤ ya) = false := decide_eq_false (by omega)
                clear hlf HFR hfar hfar' hw1
                go_wp2_with (fail)
                go_roundw
                case rel => exact ⟨i + 1, t + ya, false, by go_num, rfl, rfl, hlt, ht0, ht1, by (repeat' (first | (with_reducible assumption) | (with_reducible exact Below.refl _ _) | (with_reducible refine below_wov ?_ ?_ _) | (with_reducible refine below_drewN ?_ _) | (with_reducible refine Below.drew ?_) | (with_reducible refine Below.alloc ?_ ?_ _) | (with_reducible refine Below.setCell ?_ ?_ _) | (with_reducible exact Nat.le_refl _) | omega | (simp only [World.size_alloc, World.size_setCell, World.size_drew, Wov_size, World.heap_drewN]; omega))), HFR2, HI2⟩
                case measure => simp [intOf]; omega
            · have HFR2 : Hid (farL 288230376151711744 L = (true || farL (288230376151711744 - t) (L.drop (i + 1)))) := by
                show _ = _
                rw [HFR.out]; rfl
              clear HFR
              go_wp2_with (fail)
              go_roundw
              case rel => exact ⟨i + 1, t, true, by go_num, rfl, rfl, hlt, t0, t1, by (repeat' (first | (with_reducible assumption) | (with_reducible exact Below.refl _ _) | (with_reducible refine below_wov ?_ ?_ _) | (with_reducible refine below_drewN ?_ _) | (with_reducible refine Below.drew ?_) | (with_reducible refine Below.alloc ?_ ?_ _) | (with_reducible refine Below.setCell ?_ ?_ _) | (with_reducible exact Nat.le_refl _) | omega | (simp only [World.size_alloc, World.size_setCell, World.size_drew, Wov_size, World.heap_drewN]; omega))), HFR2, HI2⟩
              case measure => simp [intOf]; omega
      · obtain rfl : i = m := by omega
        have hr := HN.out (fun y hy => by
          obtain ⟨k, hk, rfl⟩ := List.getElem_of_mem hy
          exact HI.out k _ (by rw [Hm.out]; exact hk) (List.getElem?_eq_getElem hk))
        have hfr : farL 288230376151711744 L = F := by
          rw [HFR.out, List.drop_eq_nil_of_le (by rw [Hm.out]; exact Nat.le_refl _)]
          cases F <;> rfl
        rw [hfr] at hr
        clear HFR HI HN HC hfr hlt
        cases F
        · obtain rfl : R = 0 := hr
          go_wp2_with (fail)
          go_ret
          exact gives_end rfl (by (repeat' (first | (with_reducible assumption) | (with_reducible exact Below.refl _ _) | (with_reducible refine below_wov ?_ ?_ _) | (with_reducible refine below_drewN ?_ _) | (with_reducible refine Below.drew ?_) | (with_reducible refine Below.alloc ?_ ?_ _) | (with_reducible refine Below.setCell ?_ ?_ _) | (with_reducible exact Nat.le_refl _) | omega | (simp only [World.size_alloc, World.size_setCell, World.size_drew, Wov_size, World.heap_drewN]; omega))))
        · obtain rfl : R = 220 := hr
          go_wp2_with (fail)
          go_ret
          exact gives_end rfl (by (repeat' (first | (with_reducible assumption) | (with_reducible exact Below.refl _ _) | (with_reducible refine below_wov ?_ ?_ _) | (with_reducible refine below_drewN ?_ _) | (with_reducible refine Below.drew ?_) | (with_reducible refine Below.alloc ?_ ?_ _) | (with_reducible refine Below.setCell ?_ ?_ _) | (with_reducible exact Nat.le_refl _) | omega | (simp only [World.size_alloc, World.size_setCell, World.size_drew, Wov_size, World.heap_drewN]; omega))))
#print axioms fits21_any
end Go.Proofs.YtccbhblklhmcpaaGreatDoor

namespace Go.Proofs.YtccbhblklhmcpaaGreatDoor
set_option linter.unusedSimpArgs false
set_option linter.unusedVariables false
open Go Go.RowKit
attribute [local go_sem] Nat.add_assoc Nat.add_lt_add_iff_left lit_lt_add
set_option maxRecDepth 10000 in
set_option maxHeartbeats 1000000 in
theorem same21_any (w : World) (p p2 : Option Addr) (c c2 : Nat) (L : List Sg) (hS : SlK sgD w p L) (hS2 : SlK sgD w p2 L) (hL : L.length ≤ 140737488355328) :
    Calls Tryz.prog 9 #[.slice p L.length c, .slice p2 L.length c2] w (Gives w (.bool true)) := by
  have HS := Lib.hid hS.seg
  have HSL := Lib.hid hS2.seg
  obtain ⟨m, hm⟩ : ∃ m, m = L.length := ⟨_, rfl⟩
  rw [← hm] at hL ⊢
  have Hm := Lib.hid hm
  clear hS hS2 hm
  go_enter Tryz.func9, Tryz.ntmps9
  go_wp2_with (fail)
  go_loopw [5] (fun s5 wr => ∃ i : Nat, s5 = .int .i64 i ∧ i ≤ m ∧ Below w.heap.size w wr) (fun s5 _ => m - (intOf s5).toNat)
  case atStart => exact ⟨0, rfl, Nat.zero_le _, Below.refl _ _⟩
  case round =>
    obtain ⟨i, rfl, hin, hBw⟩ := hrel
    have szr := hBw.size
    by_cases hlt : i < m
    · have hil : i < L.length := by rw [← Hm.out]; exact hlt
      obtain ⟨A, o, rfl, hA, hv⟩ := HS.out.resolve_left (fun h => by rw [h] at hil; simp at hil)
      obtain ⟨A2, o2, rfl, hA2, hv2⟩ := HSL.out.resolve_left (fun h => by rw [h] at hil; simp at hil)
      obtain ⟨y, hy⟩ : ∃ y, L[i]? = some y := ⟨_, List.getElem?_eq_getElem hil⟩
      have cy0 := (hBw.cell (p := ⟨A, o + i * 2, none⟩) hA).trans (hv i y hy).1
      have cy1 := (hBw.cell (p := ⟨A, o + (i * 2 + 1), none⟩) hA).trans (hv i y hy).2
      have cz0 := (hBw.cell (p := ⟨A2, o2 + i * 2, none⟩) hA2).trans (hv2 i y hy).1
      have cz1 := (hBw.cell (p := ⟨A2, o2 + (i * 2 + 1), none⟩) hA2).trans (hv2 i y hy).2
      obtain ⟨ya, hya⟩ : ∃ ya, ya = y.1 := ⟨_, rfl⟩
      obtain ⟨yb, hyb⟩ : ∃ yb : Int, yb = (y.2 : Int) := ⟨_, rfl⟩
      rw [← hya] at cy0 cz0
      rw [← hyb] at cy1 cz1
      have j0 : (0 : Int) ≤ (i : Int) := by omega
      have j1 : (i : Int) < (m : Int) := by omega
      clear hv hv2 hy hya hyb
      go_wp2_with (fail)
      refine wp_region_wov (by kernel_rfl) (by kernel_rfl) ?_
      repeat (go_big_quiet_step (fail))
      refine wpQuiet_nil ?_
      rintro _ ⟨pq, rfl⟩
      go_wp2_with (fail)
      go_roundw
      case rel => exact ⟨i + 1, by go_num, hlt, by (repeat' (first | (with_reducible assumption) | (with_reducible exact Below.refl _ _) | (with_reducible refine below_wov ?_ ?_ _) | (with_reducible refine below_drewN ?_ _) | (with_reducible refine Below.drew ?_) | (with_reducible refine Below.alloc ?_ ?_ _) | (with_reducible refine Below.setCell ?_ ?_ _) | (with_reducible exact Nat.le_refl _) | omega | (simp only [World.size_alloc, World.size_setCell, World.size_drew, Wov_size, World.heap_drewN]; omega)))⟩
      case measure => simp [intOf]; omega
    · obtain rfl : i = m := by omega
      go_wp2_with (fail)
      go_ret
      exact gives_end rfl (by (repeat' (first | (with_reducible assumption) | (with_reducible exact Below.refl _ _) | (with_reducible refine below_wov ?_ ?_ _) | (with_reducible refine below_drewN ?_ _) | (with_reducible refine Below.drew ?_) | (with_reducible refine Below.alloc ?_ ?_ _) | (with_reducible refine Below.setCell ?_ ?_ _) | (with_reducible exact Nat.le_refl _) | omega | (simp only [World.size_alloc, World.size_setCell, World.size_drew, Wov_size, World.heap_drewN]; omega))))
#print axioms same21_any
end Go.Proofs.YtccbhblklhmcpaaGreatDoor
