/- The document's signals: contract of its 'Text'. No condition but on sizes, and what some package variables hold. -/
import Derived.Test.YtccbhblklhmcpaaGreatDoorMRB
import Derived.Test.YtccbhblklhmcpaaGreatDoorQ33
namespace Go.Proofs.YtccbhblklhmcpaaGreatDoor
set_option linter.unusedSimpArgs false
set_option linter.unusedVariables false
open Go Go.RowKit Go.Shelf
attribute [local go_sem] Nat.add_assoc Nat.add_lt_add_iff_left lit_lt_add

theorem join_snoc (sep x : List UInt8) : ∀ xs : List (List UInt8), xs ≠ [] → Lib.join (xs ++ [x]) sep = Lib.join xs sep ++ (sep ++ x)
  | [], h => absurd rfl h
  | [y], _ => by rw [List.singleton_append, join_two, Lib.join_one, Lib.join_one]
  | y :: z :: r, _ => by
    have ih := join_snoc sep x (z :: r) (by simp)
    rw [List.cons_append, List.cons_append, join_two, join_two, ← List.cons_append, ih, List.append_assoc, List.append_assoc]
theorem segT_len {N : List (List UInt8)} (hm : mayNames N = true) (s : Sg) (h1 : -9223372036854775808 ≤ s.1 ∧ s.1 ≤ 9223372036854775807) : (segT N s).length ≤ 100 := by
  have h2 := Lib.itoa_length_le s.1 h1.1 h1.2
  have h3 := onJoin_len hm s.2 N.length (mayNames_len hm).1
  rw [onTo_all] at h3
  unfold segT
  split <;> simp only [List.length_append, List.length_cons, List.length_nil] <;> omega
set_option maxRecDepth 10000 in
set_option maxHeartbeats 4000000 in
theorem text21_any (W : World) (q p : Option Addr) (c cl : Nat) (N : List (List UInt8)) (L : List Sg) (hQ : SlS W q N) (hS : SlK sgD W p L) (hL : Laid W) (hm : mayNames N = true) (h8 : ∀ s, s ∈ L → s.2 < 256) (hf : ∀ s, s ∈ L → -9223372036854775808 ≤ s.1 ∧ s.1 ≤ 9223372036854775807) (hLn : L.length ≤ 1024) :
    Calls Tryz.prog 18 #[.slice q N.length c, .slice p L.length cl] W (Gives W (.string (bs (Lib.join (L.map (segT N)) [59])))) := by
  obtain ⟨h8N, hxN⟩ := mayNames_len hm
  have HQ := Lib.hid hQ
  have HS := Lib.hid hS
  have HLD := Lib.hid hL
  have HF := Lib.hid hf
  have H8 := Lib.hid h8
  have HX8 := Lib.hid hxN
  have HJL : Hid (∀ i, (Lib.join ((L.take i).map (segT N)) [59]).length ≤ i * 101) := fun i => by
    have := join_le [59] 100 ((L.take i).map (segT N)) fun x hx => by
      obtain ⟨s, hs, rfl⟩ := List.mem_map.1 hx
      exact segT_len hm s (hf s (List.mem_of_mem_take hs))
    rw [List.length_map, List.length_take] at this
    have h2 : min i L.length * (100 + [(59 : UInt8)].length) ≤ i * 101 := Nat.mul_le_mul (by omega) (Nat.le_refl _)
    omega
  obtain ⟨m, hm2⟩ : ∃ m, m = L.length := ⟨_, rfl⟩
  obtain ⟨n, hn⟩ : ∃ n, n = N.length := ⟨_, rfl⟩
  obtain ⟨J, hJ⟩ : ∃ J, J = bs (Lib.join (L.map (segT N)) [59]) := ⟨_, rfl⟩
  rw [← hm2] at hLn ⊢
  rw [← hn] at h8N ⊢
  rw [← hJ]
  have Hm := Lib.hid hm2
  have Hn := Lib.hid hn
  have HJ := Lib.hid hJ
  have hc58 : (ByteArray.mk #[58]).size = 1 := rfl
  have hc59 : (ByteArray.mk #[59]).size = 1 := rfl
  have hc44 : (ByteArray.mk #[44]).size = 1 := rfl
  have hc45 : (ByteArray.mk #[45]).size = 1 := rfl
  clear hQ hS hL h8 hf hm hxN hm2 hn hJ
  go_enter Tryz.func18, Tryz.ntmps18
  go_wp2_with (fail)
  go_loopw [5, 6] (fun s5 s6 wr => ∃ (i : Nat) (T : ByteArray), s6 = .int .i64 i ∧ s5 = .string T ∧ i ≤ m ∧ T.size ≤ i * 101 ∧ Below W.heap.size W wr ∧ Hid (T = bs (Lib.join ((L.take i).map (segT N)) [59]))) (fun _ s6 _ => m - (intOf s6).toNat)
  case atStart => exact ⟨0, _, rfl, rfl, Nat.zero_le _, Nat.zero_le _, Below.refl _ _, by show _ = _; rfl⟩
  case round =>
    obtain ⟨i, T, rfl, rfl, hin, hTs, hBw, HT⟩ := hrel
    have szr := hBw.size
    by_cases hlt : i < m
    · have hil : i < L.length := by rw [← Hm.out]; exact hlt
      obtain ⟨A, o, rfl, hA, hv⟩ := HS.out.seg.resolve_left (fun h => by rw [h] at hil; simp at hil)
      obtain ⟨y, hy⟩ : ∃ y, L[i]? = some y := ⟨_, List.getElem?_eq_getElem hil⟩
      have cy0 := (hBw.cell (p := ⟨A, o + i * 2, none⟩) hA).trans (hv i y hy).1
      have cy1 := (hBw.cell (p := ⟨A, o + (i * 2 + 1), none⟩) hA).trans (hv i y hy).2
      have hA' : A < wr.heap.size := Nat.lt_of_lt_of_le hA szr
      have j0 : (0 : Int) ≤ (i : Int) := by omega
      have j1 : (i : Int) < (m : Int) := by omega
      have y8 := H8.out y (List.mem_of_getElem? hy)
      have yf := HF.out y (List.mem_of_getElem? hy)
      have htk : (L.take (i + 1)).map (segT N) = (L.take i).map (segT N) ++ [segT N y] := by rw [List.take_add_one, hy, List.map_append]; rfl
      have HTK := Lib.hid htk
      have HY := Lib.hid hy
      have hjl := HJL.out i
      obtain ⟨ya, hya⟩ : ∃ ya, ya = y.1 := ⟨_, rfl⟩
      obtain ⟨yb, hyb⟩ : ∃ yb, yb = y.2 := ⟨_, rfl⟩
      rw [← hya] at cy0 yf
      rw [← hyb] at cy1 y8
      have HYA := Lib.hid hya
      have HYB := Lib.hid hyb
      have IT : Hid (∀ W', Below wr.heap.size wr W' → Calls Tryz.prog 16 #[.int .i64 ya] W' (Gives W' (.string (bs (Lib.itoa ya))))) := fun W' h => itoa_any ya yf.1 yf.2 W' ((HLD.out.below hBw).below h).tab
      clear hv hy hya hyb htk hil
      by_cases hi0 : i = 0
      · have hz0 : decide (0 < i) = false := decide_eq_false (by omega)
        have HI0 := Lib.hid hi0
        clear hi0
        go_wp2_with (fail)
        obtain ⟨T1, hT1⟩ : ∃ T1, T1 = T := ⟨_, rfl⟩
        rw [← hT1]
        obtain ⟨tb, htb⟩ : ∃ tb : List UInt8, tb = [] := ⟨_, rfl⟩
        have HT1 : Hid (T1 = bs tb) := by show _ = _; rw [hT1, HT.out, htb, HI0.out]; rfl
        have HTB : Hid (Lib.join ((L.take (i + 1)).map (segT N)) [59] = tb ++ segT N y) := by
          show _ = _
          rw [HTK.out, htb, HI0.out]; exact Lib.join_one _ _
        have hT1s : T1.size ≤ 200000 := by rw [hT1]; omega
        clear hT1 htb HT hz0
        have hA : (bs (Lib.itoa ya)).size ≤ 21 := by rw [bs_size]; exact Lib.itoa_length_le ya yf.1 yf.2
        obtain ⟨A0, hA0⟩ : ∃ A0, A0 = bs (Lib.itoa ya) := ⟨_, rfl⟩
        rw [← hA0] at IT hA
        have hTA : (T1 ++ A0).size ≤ 200021 := by rw [ByteArray.size_append]; omega
        have HX0 : Hid (T1 ++ A0 ++ ByteArray.mk #[58] = bs (tb ++ Lib.itoa ya ++ [58])) := by
          show _ = _
          rw [HT1.out, hA0, show (⟨#[58]⟩ : ByteArray) = bs [58] from rfl, bs_app, bs_app]
        have hXs : (T1 ++ A0 ++ ByteArray.mk #[58]).size ≤ 200022 := by rw [ByteArray.size_append, hc58]; omega
        clear hA0
        refine (IT.out _ (by (repeat' (first | (with_reducible assumption) | (with_reducible exact Below.refl _ _) | (with_reducible refine below_wov ?_ ?_ _) | (with_reducible refine below_drewN ?_ _) | (with_reducible refine Below.drew ?_) | (with_reducible refine Below.alloc ?_ ?_ _) | (with_reducible refine Below.setCell ?_ ?_ _) | (with_reducible exact Nat.le_refl _) | omega | (simp only [World.size_alloc, World.size_setCell, World.size_drew, Wov_size, World.heap_drewN]; omega))))).mono ?_; rintro e w' ⟨rfl, q3, rfl⟩
        go_wp2_with (fail)
        go_loopw [5, 7, 8] (fun s5 s7 s8 ww => ∃ (k : Nat) (X : ByteArray) (F : Bool), s8 = .int .i64 k ∧ s5 = .string X ∧ s7 = .bool F ∧ k ≤ n ∧ X.size ≤ 200022 + k * 9 ∧ Below wr.heap.size wr ww ∧ Hid (X = bs (tb ++ Lib.itoa ya ++ [58] ++ Lib.join (onTo N yb k) [44])) ∧ Hid (F = !(onTo N yb k).isEmpty)) (fun _ _ s8 _ => n - (intOf s8).toNat)
        case atStart => exact ⟨0, _, false, rfl, rfl, rfl, Nat.zero_le _, hXs, by (repeat' (first | (with_reducible assumption) | (with_reducible exact Below.refl _ _) | (with_reducible refine below_wov ?_ ?_ _) | (with_reducible refine below_drewN ?_ _) | (with_reducible refine Below.drew ?_) | (with_reducible refine Below.alloc ?_ ?_ _) | (with_reducible refine Below.setCell ?_ ?_ _) | (with_reducible exact Nat.le_refl _) | omega | (simp only [World.size_alloc, World.size_setCell, World.size_drew, Wov_size, World.heap_drewN]; omega))), by show _ = _; rw [HX0.out]; congr 1; rw [onTo_zero, Lib.join_nil, List.append_nil], by show _ = _; rw [onTo_zero]; rfl⟩
        case round =>
          obtain ⟨k, X, F, rfl, rfl, rfl, hkn, hXk, hBi, HX, HFF⟩ := hrel
          have szi := hBi.size
          have dy0 := (hBi.cell (p := ⟨A, o + i * 2, none⟩) hA').trans cy0
          have dy1 := (hBi.cell (p := ⟨A, o + (i * 2 + 1), none⟩) hA').trans cy1
          by_cases hkl : k < n
          · have hkl' : k < N.length := by rw [← Hn.out]; exact hkl
            obtain ⟨Aq, oq, rfl, hAq, hvq⟩ := HQ.out.get.resolve_left (fun h => by rw [h] at hkl'; simp at hkl')
            obtain ⟨x, hx⟩ : ∃ x, N[k]? = some x := ⟨_, List.getElem?_eq_getElem hkl'⟩
            have cx := (hBi.cell (p := ⟨Aq, oq + k, none⟩) (Nat.lt_of_lt_of_le hAq szr)).trans ((hBw.cell (p := ⟨Aq, oq + k, none⟩) hAq).trans (hvq k x hx))
            have k0 : (0 : Int) ≤ (k : Int) := by omega
            have k1 : (k : Int) < (n : Int) := by omega
            have hx8 := HX8.out x (List.mem_of_getElem? hx)
            have HXX := Lib.hid hx
            clear hvq hx hkl'
            cases hb : yb.testBit k
            · have HX2 : Hid (X = bs (tb ++ Lib.itoa ya ++ [58] ++ Lib.join (onTo N yb (k + 1)) [44])) := by show _ = _; rw [onTo_no hb]; exact HX.out
              have HF2 : Hid (F = !(onTo N yb (k + 1)).isEmpty) := by show _ = _; rw [onTo_no hb]; exact HFF.out
              have hbt := bit_test (on := yb) (k := k) y8 (by omega)
              rw [hb, if_neg (by decide)] at hbt
              clear HX HFF hb
              go_wp2_with (fail)
              go_roundw
              case rel => exact ⟨k + 1, X, F, by go_num, rfl, rfl, hkl, by omega, hBi, HX2, HF2⟩
              case measure => simp [intOf]; omega
            · have hbt := bit_test (on := yb) (k := k) y8 (by omega)
              rw [hb, if_pos rfl] at hbt
              have HF2 : Hid (true = !(onTo N yb (k + 1)).isEmpty) := by show _ = _; rw [onTo_yes HXX.out hb]; simp
              obtain ⟨B, hB⟩ : ∃ B, B = bs x := ⟨_, rfl⟩
              have hBs : B.size ≤ 8 := by rw [hB, bs_size]; exact hx8
              rw [← hB] at cx
              cases F
              · have h0 : onTo N yb k = [] := by
                  have := HFF.out
                  cases ho : onTo N yb k with
                  | nil => rfl
                  | cons a r => rw [ho] at this; cases this
                have HX2 : Hid (X ++ B = bs (tb ++ Lib.itoa ya ++ [58] ++ Lib.join (onTo N yb (k + 1)) [44])) := by
                  show _ = _
                  rw [onTo_yes HXX.out hb, h0, List.nil_append, Lib.join_one, HX.out, h0, Lib.join_nil, List.append_nil, hB, bs_app]
                have hXB : (X ++ B).size ≤ 200022 + (k + 1) * 9 := by rw [ByteArray.size_append]; omega
                clear HX HFF hb hB h0
                go_wp2_with (fail)
                go_roundw
                case rel => exact ⟨k + 1, X ++ B, true, by go_num, rfl, rfl, hkl, hXB, hBi, HX2, HF2⟩
                case measure => simp [intOf]; omega
              · have h0 : onTo N yb k ≠ [] := fun ho => by
                  have := HFF.out
                  rw [ho] at this; cases this
                have HX2 : Hid (X ++ ByteArray.mk #[44] ++ B = bs (tb ++ Lib.itoa ya ++ [58] ++ Lib.join (onTo N yb (k + 1)) [44])) := by
                  show _ = _
                  rw [onTo_yes HXX.out hb, join_snoc _ _ _ h0, HX.out, hB, show (⟨#[44]⟩ : ByteArray) = bs [44] from rfl, bs_app, bs_app]
                  congr 1
                  simp only [List.append_assoc]
                have hXC : (X ++ ByteArray.mk #[44]).size ≤ 200023 + k * 9 := by rw [ByteArray.size_append, hc44]; omega
                have hXB : (X ++ ByteArray.mk #[44] ++ B).size ≤ 200022 + (k + 1) * 9 := by rw [ByteArray.size_append]; omega
                clear HX HFF hb hB h0
                go_wp2_with (fail)
                go_roundw
                case rel => exact ⟨k + 1, X ++ ByteArray.mk #[44] ++ B, true, by go_num, rfl, rfl, hkl, hXB, hBi, HX2, HF2⟩
                case measure => simp [intOf]; omega
          · obtain rfl : k = n := by omega
            have hx := HX.out
            have hff := HFF.out
            rw [Hn.out, onTo_all] at hx hff
            have HBz : Hid (Below W.heap.size W wr) := Lib.hid (hBw.trans (hBi.mono szr))
            cases F
            · have h0 : onNames N yb = [] := by
                cases ho : onNames N yb with
                | nil => rfl
                | cons a r => rw [ho] at hff; cases hff
              have HZ : Hid (X ++ ByteArray.mk #[45] = bs (Lib.join ((L.take (i + 1)).map (segT N)) [59])) := by
                show _ = _
                rw [HTB.out, hx, h0, Lib.join_nil, List.append_nil, show (⟨#[45]⟩ : ByteArray) = bs [45] from rfl, bs_app]
                unfold segT
                rw [← HYA.out, ← HYB.out, if_pos h0]
                congr 1
                simp only [List.append_assoc, List.cons_append, List.nil_append]
              have hZs : (X ++ ByteArray.mk #[45]).size ≤ (i + 1) * 101 := by rw [HZ.out, bs_size]; exact HJL.out (i + 1)
              clear HX HFF hx hff h0
              go_wp2_with (fail)
              go_roundw
              case rel => exact ⟨i + 1, _, by go_num, rfl, hlt, hZs, HBz.out, HZ⟩
              case measure => simp [intOf]; omega
            · have h0 : onNames N yb ≠ [] := fun ho => by rw [ho] at hff; cases hff
              have HZ : Hid (X = bs (Lib.join ((L.take (i + 1)).map (segT N)) [59])) := by
                show _ = _
                rw [HTB.out, hx]
                unfold segT
                rw [← HYA.out, ← HYB.out, if_neg h0]
                congr 1
                simp only [List.append_assoc, List.cons_append, List.nil_append]
              have hZs : X.size ≤ (i + 1) * 101 := by rw [HZ.out, bs_size]; exact HJL.out (i + 1)
              clear HX HFF hx hff h0
              go_wp2_with (fail)
              go_roundw
              case rel => exact ⟨i + 1, _, by go_num, rfl, hlt, hZs, HBz.out, HZ⟩
              case measure => simp [intOf]; omega
      · have hz0 : decide (0 < i) = true := decide_eq_true (by omega)
        have HI0 := Lib.hid hi0
        clear hi0
        have hTC : (T ++ ByteArray.mk #[59]).size ≤ 200000 := by rw [ByteArray.size_append, hc59]; omega
        go_wp2_with (fail)
        obtain ⟨T1, hT1⟩ : ∃ T1, T1 = T ++ ByteArray.mk #[59] := ⟨_, rfl⟩
        rw [← hT1] at hTC ⊢
        obtain ⟨tb, htb⟩ : ∃ tb : List UInt8, tb = Lib.join ((L.take i).map (segT N)) [59] ++ [59] := ⟨_, rfl⟩
        have HT1 : Hid (T1 = bs tb) := by show _ = _; rw [hT1, HT.out, htb, show (⟨#[59]⟩ : ByteArray) = bs [59] from rfl, bs_app]
        have HTB : Hid (Lib.join ((L.take (i + 1)).map (segT N)) [59] = tb ++ segT N y) := by
          show _ = _
          rw [HTK.out, htb, join_snoc _ _ _ ?_, List.append_assoc]
          intro he
          have := congrArg List.length he
          rw [List.length_map, List.length_take, ← Hm.out] at this
          simp only [List.length_nil] at this
          have := HI0.out
          omega
        have hT1s : T1.size ≤ 200000 := hTC
        clear hT1 htb HT hz0 hTC
        have hA : (bs (Lib.itoa ya)).size ≤ 21 := by rw [bs_size]; exact Lib.itoa_length_le ya yf.1 yf.2
        obtain ⟨A0, hA0⟩ : ∃ A0, A0 = bs (Lib.itoa ya) := ⟨_, rfl⟩
        rw [← hA0] at IT hA
        have hTA : (T1 ++ A0).size ≤ 200021 := by rw [ByteArray.size_append]; omega
        have HX0 : Hid (T1 ++ A0 ++ ByteArray.mk #[58] = bs (tb ++ Lib.itoa ya ++ [58])) := by
          show _ = _
          rw [HT1.out, hA0, show (⟨#[58]⟩ : ByteArray) = bs [58] from rfl, bs_app, bs_app]
        have hXs : (T1 ++ A0 ++ ByteArray.mk #[58]).size ≤ 200022 := by rw [ByteArray.size_append, hc58]; omega
        clear hA0
        refine (IT.out _ (by (repeat' (first | (with_reducible assumption) | (with_reducible exact Below.refl _ _) | (with_reducible refine below_wov ?_ ?_ _) | (with_reducible refine below_drewN ?_ _) | (with_reducible refine Below.drew ?_) | (with_reducible refine Below.alloc ?_ ?_ _) | (with_reducible refine Below.setCell ?_ ?_ _) | (with_reducible exact Nat.le_refl _) | omega | (simp only [World.size_alloc, World.size_setCell, World.size_drew, Wov_size, World.heap_drewN]; omega))))).mono ?_; rintro e w' ⟨rfl, q3, rfl⟩
        go_wp2_with (fail)
        go_loopw [5, 7, 8] (fun s5 s7 s8 ww => ∃ (k : Nat) (X : ByteArray) (F : Bool), s8 = .int .i64 k ∧ s5 = .string X ∧ s7 = .bool F ∧ k ≤ n ∧ X.size ≤ 200022 + k * 9 ∧ Below wr.heap.size wr ww ∧ Hid (X = bs (tb ++ Lib.itoa ya ++ [58] ++ Lib.join (onTo N yb k) [44])) ∧ Hid (F = !(onTo N yb k).isEmpty)) (fun _ _ s8 _ => n - (intOf s8).toNat)
        case atStart => exact ⟨0, _, false, rfl, rfl, rfl, Nat.zero_le _, hXs, by (repeat' (first | (with_reducible assumption) | (with_reducible exact Below.refl _ _) | (with_reducible refine below_wov ?_ ?_ _) | (with_reducible refine below_drewN ?_ _) | (with_reducible refine Below.drew ?_) | (with_reducible refine Below.alloc ?_ ?_ _) | (with_reducible refine Below.setCell ?_ ?_ _) | (with_reducible exact Nat.le_refl _) | omega | (simp only [World.size_alloc, World.size_setCell, World.size_drew, Wov_size, World.heap_drewN]; omega))), by show _ = _; rw [HX0.out]; congr 1; rw [onTo_zero, Lib.join_nil, List.append_nil], by show _ = _; rw [onTo_zero]; rfl⟩
        case round =>
          obtain ⟨k, X, F, rfl, rfl, rfl, hkn, hXk, hBi, HX, HFF⟩ := hrel
          have szi := hBi.size
          have dy0 := (hBi.cell (p := ⟨A, o + i * 2, none⟩) hA').trans cy0
          have dy1 := (hBi.cell (p := ⟨A, o + (i * 2 + 1), none⟩) hA').trans cy1
          by_cases hkl : k < n
          · have hkl' : k < N.length := by rw [← Hn.out]; exact hkl
            obtain ⟨Aq, oq, rfl, hAq, hvq⟩ := HQ.out.get.resolve_left (fun h => by rw [h] at hkl'; simp at hkl')
            obtain ⟨x, hx⟩ : ∃ x, N[k]? = some x := ⟨_, List.getElem?_eq_getElem hkl'⟩
            have cx := (hBi.cell (p := ⟨Aq, oq + k, none⟩) (Nat.lt_of_lt_of_le hAq szr)).trans ((hBw.cell (p := ⟨Aq, oq + k, none⟩) hAq).trans (hvq k x hx))
            have k0 : (0 : Int) ≤ (k : Int) := by omega
            have k1 : (k : Int) < (n : Int) := by omega
            have hx8 := HX8.out x (List.mem_of_getElem? hx)
            have HXX := Lib.hid hx
            clear hvq hx hkl'
            cases hb : yb.testBit k
            · have HX2 : Hid (X = bs (tb ++ Lib.itoa ya ++ [58] ++ Lib.join (onTo N yb (k + 1)) [44])) := by show _ = _; rw [onTo_no hb]; exact HX.out
              have HF2 : Hid (F = !(onTo N yb (k + 1)).isEmpty) := by show _ = _; rw [onTo_no hb]; exact HFF.out
              have hbt := bit_test (on := yb) (k := k) y8 (by omega)
              rw [hb, if_neg (by decide)] at hbt
              clear HX HFF hb
              go_wp2_with (fail)
              go_roundw
              case rel => exact ⟨k + 1, X, F, by go_num, rfl, rfl, hkl, by omega, hBi, HX2, HF2⟩
              case measure => simp [intOf]; omega
            · have hbt := bit_test (on := yb) (k := k) y8 (by omega)
              rw [hb, if_pos rfl] at hbt
              have HF2 : Hid (true = !(onTo N yb (k + 1)).isEmpty) := by show _ = _; rw [onTo_yes HXX.out hb]; simp
              obtain ⟨B, hB⟩ : ∃ B, B = bs x := ⟨_, rfl⟩
              have hBs : B.size ≤ 8 := by rw [hB, bs_size]; exact hx8
              rw [← hB] at cx
              cases F
              · have h0 : onTo N yb k = [] := by
                  have := HFF.out
                  cases ho : onTo N yb k with
                  | nil => rfl
                  | cons a r => rw [ho] at this; cases this
                have HX2 : Hid (X ++ B = bs (tb ++ Lib.itoa ya ++ [58] ++ Lib.join (onTo N yb (k + 1)) [44])) := by
                  show _ = _
                  rw [onTo_yes HXX.out hb, h0, List.nil_append, Lib.join_one, HX.out, h0, Lib.join_nil, List.append_nil, hB, bs_app]
                have hXB : (X ++ B).size ≤ 200022 + (k + 1) * 9 := by rw [ByteArray.size_append]; omega
                clear HX HFF hb hB h0
                go_wp2_with (fail)
                go_roundw
                case rel => exact ⟨k + 1, X ++ B, true, by go_num, rfl, rfl, hkl, hXB, hBi, HX2, HF2⟩
                case measure => simp [intOf]; omega
              · have h0 : onTo N yb k ≠ [] := fun ho => by
                  have := HFF.out
                  rw [ho] at this; cases this
                have HX2 : Hid (X ++ ByteArray.mk #[44] ++ B = bs (tb ++ Lib.itoa ya ++ [58] ++ Lib.join (onTo N yb (k + 1)) [44])) := by
                  show _ = _
                  rw [onTo_yes HXX.out hb, join_snoc _ _ _ h0, HX.out, hB, show (⟨#[44]⟩ : ByteArray) = bs [44] from rfl, bs_app, bs_app]
                  congr 1
                  simp only [List.append_assoc]
                have hXC : (X ++ ByteArray.mk #[44]).size ≤ 200023 + k * 9 := by rw [ByteArray.size_append, hc44]; omega
                have hXB : (X ++ ByteArray.mk #[44] ++ B).size ≤ 200022 + (k + 1) * 9 := by rw [ByteArray.size_append]; omega
                clear HX HFF hb hB h0
                go_wp2_with (fail)
                go_roundw
                case rel => exact ⟨k + 1, X ++ ByteArray.mk #[44] ++ B, true, by go_num, rfl, rfl, hkl, hXB, hBi, HX2, HF2⟩
                case measure => simp [intOf]; omega
          · obtain rfl : k = n := by omega
            have hx := HX.out
            have hff := HFF.out
            rw [Hn.out, onTo_all] at hx hff
            have HBz : Hid (Below W.heap.size W wr) := Lib.hid (hBw.trans (hBi.mono szr))
            cases F
            · have h0 : onNames N yb = [] := by
                cases ho : onNames N yb with
                | nil => rfl
                | cons a r => rw [ho] at hff; cases hff
              have HZ : Hid (X ++ ByteArray.mk #[45] = bs (Lib.join ((L.take (i + 1)).map (segT N)) [59])) := by
                show _ = _
                rw [HTB.out, hx, h0, Lib.join_nil, List.append_nil, show (⟨#[45]⟩ : ByteArray) = bs [45] from rfl, bs_app]
                unfold segT
                rw [← HYA.out, ← HYB.out, if_pos h0]
                congr 1
                simp only [List.append_assoc, List.cons_append, List.nil_append]
              have hZs : (X ++ ByteArray.mk #[45]).size ≤ (i + 1) * 101 := by rw [HZ.out, bs_size]; exact HJL.out (i + 1)
              clear HX HFF hx hff h0
              go_wp2_with (fail)
              go_roundw
              case rel => exact ⟨i + 1, _, by go_num, rfl, hlt, hZs, HBz.out, HZ⟩
              case measure => simp [intOf]; omega
            · have h0 : onNames N yb ≠ [] := fun ho => by rw [ho] at hff; cases hff
              have HZ : Hid (X = bs (Lib.join ((L.take (i + 1)).map (segT N)) [59])) := by
                show _ = _
                rw [HTB.out, hx]
                unfold segT
                rw [← HYA.out, ← HYB.out, if_neg h0]
                congr 1
                simp only [List.append_assoc, List.cons_append, List.nil_append]
              have hZs : X.size ≤ (i + 1) * 101 := by rw [HZ.out, bs_size]; exact HJL.out (i + 1)
              clear HX HFF hx hff h0
              go_wp2_with (fail)
              go_roundw
              case rel => exact ⟨i + 1, _, by go_num, rfl, hlt, hZs, HBz.out, HZ⟩
              case measure => simp [intOf]; omega
    · obtain rfl : i = m := by omega
      have hj : J = T := by rw [HJ.out, HT.out, Hm.out, List.take_length]
      subst hj
      clear HT
      go_wp2_with (fail)
      go_ret
      exact gives_end rfl (by (repeat' (first | (with_reducible assumption) | (with_reducible exact Below.refl _ _) | (with_reducible refine below_wov ?_ ?_ _) | (with_reducible refine below_drewN ?_ _) | (with_reducible refine Below.drew ?_) | (with_reducible refine Below.alloc ?_ ?_ _) | (with_reducible refine Below.setCell ?_ ?_ _) | (with_reducible exact Nat.le_refl _) | omega | (simp only [World.size_alloc, World.size_setCell, World.size_drew, Wov_size, World.heap_drewN]; omega))))
#print axioms text21_any
end Go.Proofs.YtccbhblklhmcpaaGreatDoor
