/- seg.checked: the error of a signal. No condition but on sizes. -/
import Derived.Test.YtccbhblklhmcpaaGreatDoorQ28
namespace Go.Proofs.YtccbhblklhmcpaaGreatDoor
set_option linter.unusedSimpArgs false
set_option linter.unusedVariables false
open Go Go.RowKit Go.Shelf
attribute [local go_sem] Nat.add_assoc Nat.add_lt_add_iff_left lit_lt_add

set_option maxRecDepth 10000 in
set_option maxHeartbeats 4000000 in
theorem sfind_any (W : World) (q : Option Addr) (c D n : Nat) (L : List Sg) (hS : SlK sgD W q L) (hn : n ≤ 8) (h8 : ∀ s, s ∈ L → s.2 < 256) (hD : D < W.heap.size) (hc : W.cell? ⟨D, 0, none⟩ = some (.int .i64 n)) (hL : L.length ≤ 100000) :
    Calls Tryz.prog 44 #[.slice q L.length c, .func (.func 27) #[] #[.pointer (some ⟨D, 0, none⟩)]] W (fun e W' => (∃ r : Int, e = .returned (.int .i64 r) ∧ decide (0 ≤ r) = L.any (oddS n)) ∧ Below W.heap.size W W') := by
  have HS := Lib.hid hS.seg
  have OD : Hid (∀ (s : Sg) W', s ∈ L → Below W.heap.size W W' → Calls Tryz.prog 27 #[.agg #[.int .i64 s.1, .int .u8 s.2], .pointer (some ⟨D, 0, none⟩)] W' (Gives W' (.bool (oddS n s)))) := fun s W' h1 h2 =>
    odds_any W' D n s hn (h8 s h1) (Nat.lt_of_lt_of_le hD h2.size) ((h2.cell (p := ⟨D, 0, none⟩) hD).trans hc)
  obtain ⟨m, hm⟩ : ∃ m, m = L.length := ⟨_, rfl⟩
  obtain ⟨G, hG⟩ : ∃ G, G = L.any (oddS n) := ⟨_, rfl⟩
  rw [← hm] at hL ⊢
  rw [← hG]
  have Hm := Lib.hid hm
  have HG := Lib.hid hG
  clear hS hm hG h8 hc
  go_enter Tryz.func44, Tryz.ntmps44
  go_wp2_with (fail)
  go_loopw [8] (fun s8 wr => ∃ i : Nat, s8 = .int .i64 i ∧ i ≤ m ∧ Below W.heap.size W wr ∧ Hid (∀ k y, k < i → L[k]? = some y → oddS n y = false)) (fun s8 _ => m - (intOf s8).toNat)
  case atStart => exact ⟨0, rfl, Nat.zero_le _, Below.refl _ _, fun k y h => absurd h (Nat.not_lt_zero _)⟩
  case round =>
    obtain ⟨i, rfl, hin, hBw, hI⟩ := hrel
    have szr := hBw.size
    by_cases hlt : i < m
    · have hil : i < L.length := by rw [← Hm.out]; exact hlt
      obtain ⟨A, o, rfl, hA, hv⟩ := HS.out.resolve_left (fun h => by rw [h] at hil; simp at hil)
      obtain ⟨y, hy⟩ : ∃ y, L[i]? = some y := ⟨_, List.getElem?_eq_getElem hil⟩
      have cy0 := (hBw.cell (p := ⟨A, o + i * 2, none⟩) hA).trans (hv i y hy).1
      have cy1 := (hBw.cell (p := ⟨A, o + (i * 2 + 1), none⟩) hA).trans (hv i y hy).2
      have j0 : (0 : Int) ≤ (i : Int) := by omega
      have j1 : (i : Int) < (m : Int) := by omega
      have OY := Lib.hid (OD.out y wr (List.mem_of_getElem? hy) hBw)
      obtain ⟨ya, hya⟩ : ∃ ya, ya = y.1 := ⟨_, rfl⟩
      obtain ⟨yb, hyb⟩ : ∃ yb : Int, yb = (y.2 : Int) := ⟨_, rfl⟩
      rw [← hya] at cy0 OY
      rw [← hyb] at cy1 OY
      have HY := Lib.hid hy
      clear hv hy hya hyb
      cases hb : oddS n y
      · have HI : Hid (∀ k y, k < i + 1 → L[k]? = some y → oddS n y = false) := fun k z hk hz => by
          by_cases ek : k = i
          · rw [ek, HY.out] at hz; rw [← Option.some.inj hz]; exact hb
          · exact hI.out k z (by omega) hz
        rw [hb] at OY
        clear hb hI
        go_wp2_with (fail)
        refine OY.out.mono ?_; rintro e w' ⟨rfl, q1, rfl⟩
        go_wp2_with (fail)
        go_roundw
        case rel => exact ⟨i + 1, by go_num, hlt, by (repeat' (first | (with_reducible assumption) | (with_reducible exact Below.refl _ _) | (with_reducible refine below_wov ?_ ?_ _) | (with_reducible refine below_drewN ?_ _) | (with_reducible refine Below.drew ?_) | (with_reducible refine Below.alloc ?_ ?_ _) | (with_reducible refine Below.setCell ?_ ?_ _) | (with_reducible exact Nat.le_refl _) | omega | (simp only [World.size_alloc, World.size_setCell, World.size_drew, Wov_size, World.heap_drewN]; omega))), HI⟩
        case measure => simp [intOf]; omega
      · have hg : G = true := by rw [HG.out, List.any_eq_true]; exact ⟨y, List.mem_of_getElem? HY.out, hb⟩
        have HGG := Lib.hid hg
        rw [hb] at OY
        clear hb hI hg
        go_wp2_with (fail)
        refine OY.out.mono ?_; rintro e w' ⟨rfl, q1, rfl⟩
        go_wp2_with (fail)
        go_ret
        exact ⟨⟨_, rfl, by rw [HGG.out]; simp⟩, by (repeat' (first | (with_reducible assumption) | (with_reducible exact Below.refl _ _) | (with_reducible refine below_wov ?_ ?_ _) | (with_reducible refine below_drewN ?_ _) | (with_reducible refine Below.drew ?_) | (with_reducible refine Below.alloc ?_ ?_ _) | (with_reducible refine Below.setCell ?_ ?_ _) | (with_reducible exact Nat.le_refl _) | omega | (simp only [World.size_alloc, World.size_setCell, World.size_drew, Wov_size, World.heap_drewN]; omega)))⟩
    · obtain rfl : i = m := by omega
      have hg : G = false := by
        rw [HG.out, Bool.eq_false_iff]
        intro ha
        obtain ⟨y, hy, ho⟩ := List.any_eq_true.1 ha
        obtain ⟨k, hk, rfl⟩ := List.getElem_of_mem hy
        rw [hI.out k _ (by rw [Hm.out]; exact hk) (List.getElem?_eq_getElem hk)] at ho; cases ho
      have HGG := Lib.hid hg
      clear hI hg
      go_wp2_with (fail)
      go_ret
      exact ⟨⟨_, rfl, by rw [HGG.out]; decide⟩, hBw⟩
set_option maxRecDepth 10000 in
set_option maxHeartbeats 4000000 in
theorem scont_any (W : World) (q : Option Addr) (c D n : Nat) (L : List Sg) (hS : SlK sgD W q L) (hn : n ≤ 8) (h8 : ∀ s, s ∈ L → s.2 < 256) (hD : D < W.heap.size) (hc : W.cell? ⟨D, 0, none⟩ = some (.int .i64 n)) (hL : L.length ≤ 100000) :
    Calls Tryz.prog 26 #[.slice q L.length c, .func (.func 27) #[] #[.pointer (some ⟨D, 0, none⟩)]] W (Gives W (.bool (L.any (oddS n)))) := by
  have NF := Lib.hid (sfind_any W q c D n L hS hn h8 hD hc hL)
  obtain ⟨m, hm⟩ : ∃ m, m = L.length := ⟨_, rfl⟩
  obtain ⟨G, hG⟩ : ∃ G, G = L.any (oddS n) := ⟨_, rfl⟩
  rw [← hm, ← hG] at NF
  rw [← hm, ← hG]
  clear hS hm hG h8 hc hL
  go_enter Tryz.func26, Tryz.ntmps26
  go_wp2_with (fail)
  refine NF.out.mono ?_; rintro e w' ⟨⟨r, rfl, hr⟩, hB2⟩
  have HR := Lib.hid hr
  clear hr
  go_wp2_with (fail)
  go_ret
  exact gives_end (by rw [← HR.out]; rfl) hB2
set_option maxRecDepth 10000 in
set_option maxHeartbeats 4000000 in
theorem segChecked_any (W : World) (q : Option Addr) (c n : Nat) (L : List Sg) (hS : SlK sgD W q L) (hn : n ≤ 8) (h8 : ∀ s, s ∈ L → s.2 < 256) (hf : ∀ s, s ∈ L → -9223372036854775808 ≤ s.1 ∧ s.1 ≤ 9223372036854775807) (hL : L.length ≤ 100000) :
    Calls Tryz.prog 12 #[.int .i64 n, .slice q L.length c] W (Gives W (.int .i64 (checkS n L))) := by
  have HS := Lib.hid hS.seg
  have CF : Hid (∀ W' D, Below W.heap.size W W' → D < W'.heap.size → W'.cell? ⟨D, 0, none⟩ = some (.int .i64 n) → Calls Tryz.prog 26 #[.slice q L.length c, .func (.func 27) #[] #[.pointer (some ⟨D, 0, none⟩)]] W' (Gives W' (.bool (L.any (oddS n))))) := fun W' D h1 h2 h3 => scont_any W' q c D n L (hS.below h1) hn h8 h2 h3 hL
  obtain ⟨m, hm⟩ : ∃ m, m = L.length := ⟨_, rfl⟩
  rw [← hm] at CF hL ⊢
  have Hm := Lib.hid hm
  obtain ⟨nn, hnn⟩ : ∃ nn : Int, nn = (n : Int) := ⟨_, rfl⟩
  rw [← hnn] at CF ⊢
  by_cases hbig : 1024 < m
  · have e : checkS n L = 4 := by unfold checkS; rw [if_pos (by rw [← hm]; exact hbig)]
    rw [e]
    have j : (1024 : Int) < (m : Int) := by omega
    clear hS hm h8 hf e hnn hbig
    go_enter Tryz.func12, Tryz.ntmps12
    go_wp2_with (fail)
    go_ret
    exact gives_end rfl (by (repeat' (first | (with_reducible assumption) | (with_reducible exact Below.refl _ _) | (with_reducible refine below_wov ?_ ?_ _) | (with_reducible refine below_drewN ?_ _) | (with_reducible refine Below.drew ?_) | (with_reducible refine Below.alloc ?_ ?_ _) | (with_reducible refine Below.setCell ?_ ?_ _) | (with_reducible exact Nat.le_refl _) | omega | (simp only [World.size_alloc, World.size_setCell, World.size_drew, Wov_size, World.heap_drewN]; omega))))
  · have j : (m : Int) ≤ 1024 := by omega
    obtain ⟨G, hG⟩ : ∃ G, G = L.any (oddS n) := ⟨_, rfl⟩
    rw [← hG] at CF
    cases G
    · have e : checkS n L = if farL 288230376151711744 L then 220 else 0 := by unfold checkS; rw [if_neg (by omega), if_neg (by rw [← hG]; simp)]
      rw [e]
      have hpos : Hid (∀ y, y ∈ L → 1 ≤ y.1) := fun y hy => by
        have : oddS n y = false := by
          rw [Bool.eq_false_iff]; intro ho
          have := List.any_eq_true.2 ⟨y, hy, ho⟩
          rw [← hG] at this; cases this
        unfold oddS at this
        rw [Bool.or_eq_false_iff, decide_eq_false_iff_not] at this
        omega
      obtain ⟨R, hR⟩ : ∃ R, R = farL 288230376151711744 L := ⟨_, rfl⟩
      rw [← hR]
      have HR := Lib.hid hR
      obtain ⟨RV, hRV⟩ : ∃ RV : Int, RV = ((if R = true then 220 else 0 : Nat) : Int) := ⟨_, rfl⟩
      rw [← hRV]
      have HRV := Lib.hid hRV
      clear hS hm h8 hf e hnn hbig hG hR hRV
      go_enter Tryz.func12, Tryz.ntmps12
      go_wp2_with (fail)
      refine (CF.out _ W.heap.size (by (repeat' (first | (with_reducible assumption) | (with_reducible exact Below.refl _ _) | (with_reducible refine below_wov ?_ ?_ _) | (with_reducible refine below_drewN ?_ _) | (with_reducible refine Below.drew ?_) | (with_reducible refine Below.alloc ?_ ?_ _) | (with_reducible refine Below.setCell ?_ ?_ _) | (with_reducible exact Nat.le_refl _) | omega | (simp only [World.size_alloc, World.size_setCell, World.size_drew, Wov_size, World.heap_drewN]; omega)))) (by simp) (by simp [go_sem])).mono ?_; rintro e w' ⟨rfl, q1, rfl⟩
      go_wp2_with (fail)
      go_loopw [5, 16] (fun s5 s16 wr => ∃ (i : Nat) (left : Int), s5 = .int .i64 left ∧ s16 = .int .i64 i ∧ i ≤ m ∧ 1 ≤ left ∧ left ≤ 288230376151711744 ∧ Below W.heap.size W wr ∧ Hid (R = farL left (L.drop i))) (fun _ s16 _ => m - (intOf s16).toNat)
      case atStart => exact ⟨0, 288230376151711744, rfl, rfl, Nat.zero_le _, by omega, by omega, by (repeat' (first | (with_reducible assumption) | (with_reducible exact Below.refl _ _) | (with_reducible refine below_wov ?_ ?_ _) | (with_reducible refine below_drewN ?_ _) | (with_reducible refine Below.drew ?_) | (with_reducible refine Below.alloc ?_ ?_ _) | (with_reducible refine Below.setCell ?_ ?_ _) | (with_reducible exact Nat.le_refl _) | omega | (simp only [World.size_alloc, World.size_setCell, World.size_drew, Wov_size, World.heap_drewN]; omega))), HR.out⟩
      case round =>
        obtain ⟨i, left, rfl, rfl, hin, l1, l2, hBw, hI⟩ := hrel
        have szr := hBw.size
        by_cases hlt : i < m
        · have hil : i < L.length := by rw [← Hm.out]; exact hlt
          obtain ⟨A, o, rfl, hA, hv⟩ := HS.out.resolve_left (fun h => by rw [h] at hil; simp at hil)
          obtain ⟨y, hy⟩ : ∃ y, L[i]? = some y := ⟨_, List.getElem?_eq_getElem hil⟩
          have cy0 := (hBw.cell (p := ⟨A, o + i * 2, none⟩) hA).trans (hv i y hy).1
          have cy1 := (hBw.cell (p := ⟨A, o + (i * 2 + 1), none⟩) hA).trans (hv i y hy).2
          have hA' : A < wr.heap.size := Nat.lt_of_lt_of_le hA szr
          have j0 : (0 : Int) ≤ (i : Int) := by omega
          have j1 : (i : Int) < (m : Int) := by omega
          have hdr : L.drop i = y :: L.drop (i + 1) := by
            obtain ⟨hi, e⟩ := List.getElem?_eq_some_iff.1 hy
            rw [List.drop_eq_getElem_cons hi, e]
          have hr : R = (decide (left ≤ y.1) || farL (left - y.1) (L.drop (i + 1))) := by rw [hI.out, hdr]; rfl
          have hy1 := hpos.out y (List.mem_of_getElem? hy)
          obtain ⟨ya, hya⟩ : ∃ ya, ya = y.1 := ⟨_, rfl⟩
          obtain ⟨yb, hyb⟩ : ∃ yb : Int, yb = (y.2 : Int) := ⟨_, rfl⟩
          rw [← hya] at cy0 hr hy1
          rw [← hyb] at cy1
          have HRR := Lib.hid hr
          clear hv hy hya hyb hdr hr hI
          by_cases hfar : left ≤ ya
          · obtain rfl : R = true := by rw [HRR.out, decide_eq_true hfar]; rfl
            obtain rfl : RV = 220 := HRV.out
            go_wp2_with (fail)
            go_ret
            exact gives_end rfl (by (repeat' (first | (with_reducible assumption) | (with_reducible exact Below.refl _ _) | (with_reducible refine below_wov ?_ ?_ _) | (with_reducible refine below_drewN ?_ _) | (with_reducible refine Below.drew ?_) | (with_reducible refine Below.alloc ?_ ?_ _) | (with_reducible refine Below.setCell ?_ ?_ _) | (with_reducible exact Nat.le_refl _) | omega | (simp only [World.size_alloc, World.size_setCell, World.size_drew, Wov_size, World.heap_drewN]; omega))))
          · have HI : Hid (R = farL (left - ya) (L.drop (i + 1))) := by have := HRR.out; rw [decide_eq_false hfar, Bool.false_or] at this; exact this
            have hw : wrap64 (left - ya) = left - ya := wrap64_id (by omega) (by omega)
            have k1 : 1 ≤ left - ya := by omega
            have k2 : left - ya ≤ 288230376151711744 := by omega
            clear HRR
            go_wp2_with (fail)
            go_roundw
            case rel => exact ⟨i + 1, left - ya, rfl, by go_num, hlt, k1, k2, by (repeat' (first | (with_reducible assumption) | (with_reducible exact Below.refl _ _) | (with_reducible refine below_wov ?_ ?_ _) | (with_reducible refine below_drewN ?_ _) | (with_reducible refine Below.drew ?_) | (with_reducible refine Below.alloc ?_ ?_ _) | (with_reducible refine Below.setCell ?_ ?_ _) | (with_reducible exact Nat.le_refl _) | omega | (simp only [World.size_alloc, World.size_setCell, World.size_drew, Wov_size, World.heap_drewN]; omega))), HI⟩
            case measure => simp [intOf]; omega
        · obtain rfl : i = m := by omega
          obtain rfl : R = false := by
            have := hI.out
            rw [List.drop_of_length_le (by rw [← Hm.out]; exact Nat.le_refl _)] at this
            exact this
          obtain rfl : RV = 0 := HRV.out
          clear hI
          go_wp2_with (fail)
          go_ret
          exact gives_end rfl hBw
    · have e : checkS n L = 8 := by unfold checkS; rw [if_neg (by omega), if_pos (by rw [← hG])]
      rw [e]
      clear hS hm h8 hf e hnn hbig hG
      go_enter Tryz.func12, Tryz.ntmps12
      go_wp2_with (fail)
      refine (CF.out _ W.heap.size (by (repeat' (first | (with_reducible assumption) | (with_reducible exact Below.refl _ _) | (with_reducible refine below_wov ?_ ?_ _) | (with_reducible refine below_drewN ?_ _) | (with_reducible refine Below.drew ?_) | (with_reducible refine Below.alloc ?_ ?_ _) | (with_reducible refine Below.setCell ?_ ?_ _) | (with_reducible exact Nat.le_refl _) | omega | (simp only [World.size_alloc, World.size_setCell, World.size_drew, Wov_size, World.heap_drewN]; omega)))) (by simp) (by simp [go_sem])).mono ?_; rintro e w' ⟨rfl, q1, rfl⟩
      go_wp2_with (fail)
      go_ret
      exact gives_end rfl (by (repeat' (first | (with_reducible assumption) | (with_reducible exact Below.refl _ _) | (with_reducible refine below_wov ?_ ?_ _) | (with_reducible refine below_drewN ?_ _) | (with_reducible refine Below.drew ?_) | (with_reducible refine Below.alloc ?_ ?_ _) | (with_reducible refine Below.setCell ?_ ?_ _) | (with_reducible exact Nat.le_refl _) | omega | (simp only [World.size_alloc, World.size_setCell, World.size_drew, Wov_size, World.heap_drewN]; omega))))
#print axioms segChecked_any
end Go.Proofs.YtccbhblklhmcpaaGreatDoor
