/- lex.Cut: the tokens of a text. No condition but on size, and what some package variables hold. -/
import Derived.Test.YtccbhblklhmcpaaGreatDoorQ17
import Derived.Test.YtccbhblklhmcpaaGreatDoorQ18
import Derived.Test.YtccbhblklhmcpaaGreatDoorQ9
namespace Go.Proofs.YtccbhblklhmcpaaGreatDoor
set_option linter.unusedSimpArgs false
set_option linter.unusedVariables false
open Go Go.RowKit Go.Shelf
attribute [local go_sem] Nat.add_assoc Nat.add_lt_add_iff_left lit_lt_add

theorem CutI.iter {nb : Nat} {W : World} {B k p : Nat} {S T : ByteArray} {f : Int} {v : Value} {l : List Tk} (h : CutI nb W B S f v l) (hk : k < nb) (hB : k ≠ B) : CutI nb (W.iterAt k T p) B S f v l := by
  have e : ∀ j, j ≠ k → (W.iterAt k T p).heap[j]? = W.heap[j]? := fun j hj => Lib.iterAt_other W k j T p hj
  have eB := e B (Ne.symm hB)
  have hs : (W.iterAt k T p).heap.size = W.heap.size := by simp [World.iterAt]
  refine ⟨by rw [hs]; exact h.lt, h.ln, by rw [hs]; exact h.nz, (World.cell?_of_block eB).trans h.c0, (World.cell?_of_block eB).trans h.c1, (World.cell?_of_block eB).trans h.c2, (World.frozen?_of_block eB).trans h.z0, (World.frozen?_of_block eB).trans h.z1, (World.frozen?_of_block eB).trans h.z2, ?_⟩
  obtain ⟨h0, h1 | ⟨g, cap, cur, h1, h2, h3, h4⟩⟩ := h.row
  · exact ⟨h0, .inl h1⟩
  · exact ⟨h0, .inr ⟨g, cap, cur, h1, h2, (e g (by omega)).trans h3, h4⟩⟩
theorem below_iterAt {B k : Nat} {w V : World} (hb : Below B w V) (s : ByteArray) (pos : Nat) (h : B ≤ k) : Below B w (V.iterAt k s pos) :=
  Below.trans hb ⟨rfl, rfl, rfl, by simp [World.iterAt], fun j hj => by
    show (V.heap.setIfInBounds k (.stringIter s pos))[j]? = V.heap[j]?
    rw [Array.getElem?_setIfInBounds_ne (by omega)]⟩
theorem cut_start (w : World) (S : ByteArray) (t : TypeId) : CutI (w.heap.size + 2) ((w.alloc (.cells #[.string S, .slice none 0 0, .int .i64 (-1)] t)).alloc (.stringIter S 0)) w.heap.size S (-1) (.slice none 0 0) [] ∧ ((w.alloc (.cells #[.string S, .slice none 0 0, .int .i64 (-1)] t)).alloc (.stringIter S 0)).heap[w.heap.size + 1]? = some (.stringIter S 0) ∧ Below w.heap.size w ((w.alloc (.cells #[.string S, .slice none 0 0, .int .i64 (-1)] t)).alloc (.stringIter S 0)) := by
  have sz : ((w.alloc (.cells #[.string S, .slice none 0 0, .int .i64 (-1)] t)).alloc (.stringIter S 0)).heap.size = w.heap.size + 2 := by rw [World.size_alloc, World.size_alloc]
  refine ⟨⟨by omega, by omega, by omega, ?_, ?_, ?_, ?_, ?_, ?_, RowK.nil _ _⟩, ?_, ((Below.refl _ _).alloc (Nat.le_refl _) _).alloc (by rw [World.size_alloc]; omega) _⟩
  case refine_7 =>
    have := World.iter_heap (w.alloc (.cells #[.string S, .slice none 0 0, .int .i64 (-1)] t)) S 0
    rw [World.size_alloc] at this
    exact this
  all_goals (simp [go_sem]; done)
theorem set_heap (W : World) (a : Addr) (u : Value) (j : Nat) (h : j ≠ a.block) : (W.setCell a u).heap[j]? = W.heap[j]? := by
  simp only [World.setCell, Array.getElem?_modify]
  rw [if_neg (by omega)]
theorem get_list_x {s : List UInt8} {S : ByteArray} (h : ∀ (i : Nat) (x : UInt8), s[i]? = some x → ∀ (h : i < S.size), S[i] = x) {i : Nat} {x : UInt8} (hx : s[i]? = some x) (hi : i < S.size) : S.get! i = x := by
  rw [← h i x hx hi]
  simp [ByteArray.get!, ByteArray.getElem_eq_getElem_data, getElem!_pos, hi]
/-- What lex.Cut hands back. -/
def cutC (w : World) (r : List Tk × Nat × Nat) (e : Ending) (W : World) : Prop := (∃ p c, e = .returned (.tuple #[.slice p r.1.length c, .int .i64 r.2.1, .int .i64 r.2.2]) ∧ (p = none → c = 0) ∧ SlK tkD W p r.1) ∧ ∃ q, W = Wov w q
set_option maxRecDepth 10000 in
set_option maxHeartbeats 8000000 in
theorem cut_any (s : List UInt8) (hs : s.length ≤ 140737488355328) (w : World) (hL : Laid w) : Calls Tryz.prog 51 #[.string (bs s)] w (cutC w (cutT s)) := by
  have hsz := bs_size s
  obtain ⟨n, hn⟩ : ∃ n, n = s.length := ⟨_, rfl⟩
  rw [← hn] at hsz hs
  have Hn := Lib.hid hn
  by_cases hbig : 4096 < n
  · have e : cutT s = ([], 0, 3) := by unfold cutT; rw [if_pos (by rw [← hn]; exact hbig)]
    rw [e]
    obtain ⟨S, hS⟩ : ∃ S, S = bs s := ⟨_, rfl⟩
    rw [← hS] at hsz ⊢
    have hd : (4096 : Int) < (n : Int) := by omega
    clear hS hn e hbig
    go_enter Tryz.func51, Tryz.ntmps51
    go_wp2_with (fail)
    go_step3
    go_wp2_with (fail)
    simp only [Exit.noGoto_ret, go_sem]
    go_returns
    exact ⟨⟨none, 0, rfl, fun _ => rfl, .inl rfl⟩, Wov_of_below (by (repeat' (first | (with_reducible assumption) | (with_reducible exact Below.refl _ _) | (with_reducible refine below_wov ?_ ?_ _) | (with_reducible refine below_drewN ?_ _) | (with_reducible refine Below.drew ?_) | (with_reducible refine Below.alloc ?_ ?_ _) | (with_reducible refine Below.setCell ?_ ?_ _) | (with_reducible exact Nat.le_refl _) | omega | (simp only [World.size_alloc, World.size_setCell, World.size_drew, Wov_size, World.heap_drewN]; omega))))⟩
  · have hd : (n : Int) ≤ 4096 := by omega
    have e : cutT s = cutL s 0 [] [] := by unfold cutT; rw [if_neg (by rw [← hn]; exact hbig)]
    rw [e]
    obtain ⟨R, hR⟩ : ∃ R, R = cutL s 0 [] [] := ⟨_, rfl⟩
    rw [← hR]
    have HR := Lib.hid hR
    have HAT := Lib.hid (bs_at s)
    obtain ⟨S, hS⟩ : ∃ S, S = bs s := ⟨_, rfl⟩
    have HS := Lib.hid hS
    rw [← hS] at hsz HAT ⊢
    have HL := Lib.hid hL
    have hn4 : n ≤ 4096 := by omega
    clear hS hn e hbig hR hL hs
    go_enter Tryz.func51, Tryz.ntmps51
    go_wp2_with (fail)
    go_step3
    go_wp2_with (fail)
    go_step3
    go_wp2_with (fail)
    obtain ⟨B, hB⟩ : ∃ B, w.heap.size = B := ⟨_, rfl⟩
    rw [hB]
    go_loopg [4] n (fun g _ wx => ∃ (i : Nat) (cur : List UInt8) (l : List Tk) (v : Value) (f : Int), i + g = n ∧ Below w.heap.size w wx ∧ Hid (CutI (B + 2) wx B S f v l ∧ wx.heap[B + 1]? = some (.stringIter S i) ∧ CutR s i cur l ∧ f = if cur = [] then -1 else ((i - cur.length : Nat) : Int)))
    case atStart =>
      subst hB
      obtain ⟨h1, h2, h3⟩ := cut_start w S 108
      exact ⟨0, [], [], .slice none 0 0, -1, by omega, h3, ⟨h1, h2, CutR.start s, rfl⟩⟩
    case round =>
      obtain ⟨i, cur, l, v, f, hig, hBl, hI⟩ := hrel
      obtain ⟨hC, hK, hR, hf⟩ := hI.out
      have HR2 := Lib.hid hR
      have hln := hR.len
      have hcl := hR.hl
      clear hI hR
      by_cases hin : i < n
      · have hil : i < s.length := by rw [← Hn.out]; exact hin
        have hiS : i < S.size := by omega
        obtain ⟨x, hx⟩ : ∃ x, s[i]? = some x := ⟨_, List.getElem?_eq_getElem hil⟩
        obtain ⟨iN, hiN⟩ : ∃ iN, iN = i + 1 := ⟨_, rfl⟩
        by_cases h128 : x.toNat < 128
        · have gx := HAT.out i x hx hiS
          have hnx := fun ty => Lib.run_next_ascii_at (P := Tryz.prog) wr (B + 1) S i ty hK hiS (by rw [gx]; exact h128)
          rw [gx, ← hiN] at hnx
          have hCV := hC.iter (k := B + 1) (T := S) (p := iN) (by omega) (by omega)
          have hKV := Lib.iterAt_heap wr (B + 1) S i iN hK
          have hBV := below_iterAt hBl S iN (k := B + 1) (by omega)
          obtain ⟨V, hV⟩ : ∃ V, V = wr.iterAt (B + 1) S iN := ⟨_, rfl⟩
          rw [← hV] at hnx hCV hKV hBV
          have HKX : Hid (∀ X, Below V.heap.size V X → X.heap[B + 1]? = some (.stringIter S iN)) := fun X hX => (hX.block (B + 1) (Array.getElem?_eq_some_iff.1 hKV).1).trans hKV
          have szv := hBV.size
          obtain ⟨kb1, kb2, kb3⟩ := kind_byte x
          have KD := Lib.hid (kind_any (x.toNat : Int))
          obtain ⟨kk, hkk⟩ : ∃ kk, kk = kindI (x.toNat : Int) := ⟨_, rfl⟩
          rw [← hkk] at KD kb1 kb2 kb3
          have HX := Lib.hid hx
          have c2 := hCV.c2
          have z2 := hCV.z2
          have hlt := hCV.lt
          have HC := Lib.hid hCV
          clear hC hK hBl hV gx hx hCV hKV hkk
          cases hw : isW x
          · have k2 : kk < 2 := by
              rcases Int.lt_or_le kk 2 with h | h
              · exact h
              · have := kb1.1 h; rw [hw] at this; cases this
            have kb3 := kb3 hw
            clear kb1 kb2
            by_cases hcur : cur = []
            · skip
              obtain rfl : f = -1 := by rw [hf, if_pos hcur]
              have HN : Hid (¬ (cur ≠ [] ∧ (rowK cur).2 ≠ 0)) := fun h => h.1 hcur
              have HE : Hid (endRow l cur i = l) := by show _ = _; unfold endRow; rw [if_pos hcur]
              cases hb : isB x
              · have hk1 : (kk == 1) = false := by
                  rw [beq_eq_false_iff_ne]; intro e
                  have := kb3.1 e; rw [hb] at this; cases this
                have CR : Hid (∀ w', Calls Tryz.prog 69 #[.string ⟨#[124, 38, 59, 43, 60, 62, 95, 91, 93, 40, 41, 44, 33, 123, 125]⟩, .int .i32 (x.toNat : Int)] w' (Gives w' (.bool (signsT.contains x)))) := fun w' => crune_ascii signsT x h128 w'
                cases hs : signsT.contains x
                · rw [hs] at CR
                  have HRR : Hid (R = ([], i, 150)) := HR.out.trans (HR2.out.odd HX.out hw HN.out hb hs)
                  clear hf hw hb hs kb3 hcur
                  go_wp2_with (fail)
                  refine (KD.out _).mono ?_; rintro e w' ⟨rfl, q1, rfl⟩
                  go_wp2_with (fail)
                  refine (end_none (B + 2) _ B S v l i (HC.out.below (by (repeat' (first | (with_reducible assumption) | (with_reducible exact Below.refl _ _) | (with_reducible refine below_wov ?_ ?_ _) | (with_reducible refine below_drewN ?_ _) | (with_reducible refine Below.drew ?_) | (with_reducible refine Below.alloc ?_ ?_ _) | (with_reducible refine Below.setCell ?_ ?_ _) | (with_reducible exact Nat.le_refl _) | omega | (simp only [World.size_alloc, World.size_setCell, World.size_drew, Wov_size, World.heap_drewN]; omega)))))).mono ?_; rintro e w' ⟨rfl, q2, rfl⟩
                  go_wp2_with (fail)
                  refine (CR.out _).mono ?_; rintro e w' ⟨rfl, q3, rfl⟩
                  go_wp2_with (fail)
                  all_goals
                    (try simp only [Exit.noGoto_ret, go_sem])
                    go_returns
                    refine ⟨⟨none, 0, ?_, fun _ => rfl, .inl ?_⟩, Wov_of_below (by (repeat' (first | (with_reducible assumption) | (with_reducible exact Below.refl _ _) | (with_reducible refine below_wov ?_ ?_ _) | (with_reducible refine below_drewN ?_ _) | (with_reducible refine Below.drew ?_) | (with_reducible refine Below.alloc ?_ ?_ _) | (with_reducible refine Below.setCell ?_ ?_ _) | (with_reducible exact Nat.le_refl _) | omega | (simp only [World.size_alloc, World.size_setCell, World.size_drew, Wov_size, World.heap_drewN]; omega))))⟩
                    · rw [HRR.out]; rfl
                    · rw [HRR.out]
                · rw [hs] at CR
                  have HR3 : Hid (CutR s (i + 1) [] (addSign (endRow l cur i) x i)) := HR2.out.sign HX.out hw HN.out hb hs
                  have hll : l.length ≤ 10000 := by have := endRow_len l cur i; omega
                  clear hf hw hb hs kb3 hcur
                  go_wp2_with (fail)
                  refine (KD.out _).mono ?_; rintro e w' ⟨rfl, q1, rfl⟩
                  go_wp2_with (fail)
                  refine (end_none (B + 2) _ B S v l i (HC.out.below (by (repeat' (first | (with_reducible assumption) | (with_reducible exact Below.refl _ _) | (with_reducible refine below_wov ?_ ?_ _) | (with_reducible refine below_drewN ?_ _) | (with_reducible refine Below.drew ?_) | (with_reducible refine Below.alloc ?_ ?_ _) | (with_reducible refine Below.setCell ?_ ?_ _) | (with_reducible exact Nat.le_refl _) | omega | (simp only [World.size_alloc, World.size_setCell, World.size_drew, Wov_size, World.heap_drewN]; omega)))))).mono ?_; rintro e w' ⟨rfl, q2, rfl⟩
                  go_wp2_with (fail)
                  refine (CR.out _).mono ?_; rintro e w' ⟨rfl, q3, rfl⟩
                  go_wp2_with (fail)
                  refine (sign_any (B + 2) _ B S (-1) v l x i (HC.out.below (by (repeat' (first | (with_reducible assumption) | (with_reducible exact Below.refl _ _) | (with_reducible refine below_wov ?_ ?_ _) | (with_reducible refine below_drewN ?_ _) | (with_reducible refine Below.drew ?_) | (with_reducible refine Below.alloc ?_ ?_ _) | (with_reducible refine Below.setCell ?_ ?_ _) | (with_reducible exact Nat.le_refl _) | omega | (simp only [World.size_alloc, World.size_setCell, World.size_drew, Wov_size, World.heap_drewN]; omega))))) hll h128 (by omega)).mono ?_; rintro e w3 ⟨rfl, hT3, v3, hC3⟩
                  have hK3 := (hT3.block (B + 1) (by omega) (by omega)).trans (HKX.out _ (by (repeat' (first | (with_reducible assumption) | (with_reducible exact Below.refl _ _) | (with_reducible refine below_wov ?_ ?_ _) | (with_reducible refine below_drewN ?_ _) | (with_reducible refine Below.drew ?_) | (with_reducible refine Below.alloc ?_ ?_ _) | (with_reducible refine Below.setCell ?_ ?_ _) | (with_reducible exact Nat.le_refl _) | omega | (simp only [World.size_alloc, World.size_setCell, World.size_drew, Wov_size, World.heap_drewN]; omega)))))
                  have hTb3 := hT3.below (Nat.le_add_right B 2)
                  have hB3 : Below w.heap.size w w3 := by
                    rw [hB]; refine Below.trans ?_ hTb3; rw [← hB]; (repeat' (first | (with_reducible assumption) | (with_reducible exact Below.refl _ _) | (with_reducible refine below_wov ?_ ?_ _) | (with_reducible refine below_drewN ?_ _) | (with_reducible refine Below.drew ?_) | (with_reducible refine Below.alloc ?_ ?_ _) | (with_reducible refine Below.setCell ?_ ?_ _) | (with_reducible exact Nat.le_refl _) | omega | (simp only [World.size_alloc, World.size_setCell, World.size_drew, Wov_size, World.heap_drewN]; omega)))
                  have HC3 : Hid (CutI (B + 2) w3 B S (-1) v3 (addSign (endRow l cur i) x i)) := by rw [HE.out]; exact hC3
                  have HK3 := Lib.hid hK3
                  have HI := Lib.hid hiN
                  clear hT3 hC3 hK3 hiN hTb3
                  go_wp2_with (fail)
                  go_roundg (n - (i + 1))
                  case measure => omega
                  case rel => exact ⟨i + 1, [], addSign (endRow l cur i) x i, v3, -1, by omega, hB3, ⟨HC3.out, by rw [← HI.out]; exact HK3.out, HR3.out, rfl⟩⟩
              · obtain rfl : kk = 1 := kb3.2 hb
                have HR3 : Hid (CutR s (i + 1) [] (endRow l cur i)) := HR2.out.blank HX.out hw HN.out hb
                clear hf hw hb kb3 hcur
                go_wp2_with (fail)
                refine (KD.out _).mono ?_; rintro e w' ⟨rfl, q1, rfl⟩
                go_wp2_with (fail)
                refine (end_none (B + 2) _ B S v l i (HC.out.below (by (repeat' (first | (with_reducible assumption) | (with_reducible exact Below.refl _ _) | (with_reducible refine below_wov ?_ ?_ _) | (with_reducible refine below_drewN ?_ _) | (with_reducible refine Below.drew ?_) | (with_reducible refine Below.alloc ?_ ?_ _) | (with_reducible refine Below.setCell ?_ ?_ _) | (with_reducible exact Nat.le_refl _) | omega | (simp only [World.size_alloc, World.size_setCell, World.size_drew, Wov_size, World.heap_drewN]; omega)))))).mono ?_; rintro e w' ⟨rfl, q2, rfl⟩
                have HI := Lib.hid hiN
                clear hiN
                go_wp2_with (fail)
                go_roundg (n - (i + 1))
                case measure => omega
                case rel => exact ⟨i + 1, [], endRow l cur i, v, -1, by omega, by (repeat' (first | (with_reducible assumption) | (with_reducible exact Below.refl _ _) | (with_reducible refine below_wov ?_ ?_ _) | (with_reducible refine below_drewN ?_ _) | (with_reducible refine Below.drew ?_) | (with_reducible refine Below.alloc ?_ ?_ _) | (with_reducible refine Below.setCell ?_ ?_ _) | (with_reducible exact Nat.le_refl _) | omega | (simp only [World.size_alloc, World.size_setCell, World.size_drew, Wov_size, World.heap_drewN]; omega))), ⟨by rw [HE.out]; exact HC.out.below (by (repeat' (first | (with_reducible assumption) | (with_reducible exact Below.refl _ _) | (with_reducible refine below_wov ?_ ?_ _) | (with_reducible refine below_drewN ?_ _) | (with_reducible refine Below.drew ?_) | (with_reducible refine Below.alloc ?_ ?_ _) | (with_reducible refine Below.setCell ?_ ?_ _) | (with_reducible exact Nat.le_refl _) | omega | (simp only [World.size_alloc, World.size_setCell, World.size_drew, Wov_size, World.heap_drewN]; omega)))), by rw [← HI.out]; exact HKX.out _ (by (repeat' (first | (with_reducible assumption) | (with_reducible exact Below.refl _ _) | (with_reducible refine below_wov ?_ ?_ _) | (with_reducible refine below_drewN ?_ _) | (with_reducible refine Below.drew ?_) | (with_reducible refine Below.alloc ?_ ?_ _) | (with_reducible refine Below.setCell ?_ ?_ _) | (with_reducible exact Nat.le_refl _) | omega | (simp only [World.size_alloc, World.size_setCell, World.size_drew, Wov_size, World.heap_drewN]; omega)))), HR3.out, rfl⟩⟩
            · by_cases hrk : (rowK cur).2 = 0
              · skip
                obtain ⟨k, hk⟩ : ∃ k, k = i - cur.length := ⟨_, rfl⟩
                obtain rfl : f = (k : Int) := by rw [hf, if_neg hcur, hk]
                obtain ⟨hki, hsl⟩ := HR2.out.slice hcur
                rw [← hk] at hki hsl
                have HCS : Hid (CutI (B + 2) V B (bs s) k v l) := by rw [← HS.out]; exact HC.out
                have HLV : Hid (∀ w', Below w.heap.size w w' → Laid w') := fun w' hb => HL.out.below hb
                have HN : Hid (¬ (cur ≠ [] ∧ (rowK cur).2 ≠ 0)) := fun h => h.2 hrk
                have EO : Hid (∀ w', Below V.heap.size V w' → Below w.heap.size w w' → Calls Tryz.prog 66 #[.pointer (some ⟨B, 0, none⟩), .int .i64 i] w' (fun e W' => e = .returned (.int .i64 0) ∧ Turn (B + 2) B w' W' ∧ ∃ v', CutI (B + 2) W' B S (-1) v' (endRow l cur i))) := fun w' h1 h2 => by
                  have hns := Hn.out
                  have e : endRow l cur i = l ++ [⟨(rowK ((s.drop k).take (i - k))).1, (s.drop k).take (i - k), k⟩] := by unfold endRow; rw [if_neg hcur, ← hsl, hk]
                  have := end_ok (B + 2) w' B s v l k i (HCS.out.below h1) hki (by omega) (by omega) (HLV.out _ h2) (by omega) (by rw [← hsl]; exact hrk)
                  rw [← e, ← HS.out] at this
                  exact this
                cases hb : isB x
                · have hk1 : (kk == 1) = false := by
                    rw [beq_eq_false_iff_ne]; intro e
                    have := kb3.1 e; rw [hb] at this; cases this
                  have CR : Hid (∀ w', Calls Tryz.prog 69 #[.string ⟨#[124, 38, 59, 43, 60, 62, 95, 91, 93, 40, 41, 44, 33, 123, 125]⟩, .int .i32 (x.toNat : Int)] w' (Gives w' (.bool (signsT.contains x)))) := fun w' => crune_ascii signsT x h128 w'
                  cases hs : signsT.contains x
                  · rw [hs] at CR
                    have HRR : Hid (R = ([], i, 150)) := HR.out.trans (HR2.out.odd HX.out hw HN.out hb hs)
                    clear hf hw hb hs kb3 hcur hk hki hsl hrk
                    go_wp2_with (fail)
                    refine (KD.out _).mono ?_; rintro e w' ⟨rfl, q1, rfl⟩
                    go_wp2_with (fail)
                    refine (EO.out _ (by (repeat' (first | (with_reducible assumption) | (with_reducible exact Below.refl _ _) | (with_reducible refine below_wov ?_ ?_ _) | (with_reducible refine below_drewN ?_ _) | (with_reducible refine Below.drew ?_) | (with_reducible refine Below.alloc ?_ ?_ _) | (with_reducible refine Below.setCell ?_ ?_ _) | (with_reducible exact Nat.le_refl _) | omega | (simp only [World.size_alloc, World.size_setCell, World.size_drew, Wov_size, World.heap_drewN]; omega)))) (by (repeat' (first | (with_reducible assumption) | (with_reducible exact Below.refl _ _) | (with_reducible refine below_wov ?_ ?_ _) | (with_reducible refine below_drewN ?_ _) | (with_reducible refine Below.drew ?_) | (with_reducible refine Below.alloc ?_ ?_ _) | (with_reducible refine Below.setCell ?_ ?_ _) | (with_reducible exact Nat.le_refl _) | omega | (simp only [World.size_alloc, World.size_setCell, World.size_drew, Wov_size, World.heap_drewN]; omega))))).mono ?_; rintro e w2 ⟨rfl, hT, v2, hC2⟩
                    have hTb := hT.below (Nat.le_add_right B 2)
                    have hB2 : Below w.heap.size w w2 := by
                      rw [hB]; refine Below.trans ?_ hTb; rw [← hB]; (repeat' (first | (with_reducible assumption) | (with_reducible exact Below.refl _ _) | (with_reducible refine below_wov ?_ ?_ _) | (with_reducible refine below_drewN ?_ _) | (with_reducible refine Below.drew ?_) | (with_reducible refine Below.alloc ?_ ?_ _) | (with_reducible refine Below.setCell ?_ ?_ _) | (with_reducible exact Nat.le_refl _) | omega | (simp only [World.size_alloc, World.size_setCell, World.size_drew, Wov_size, World.heap_drewN]; omega)))
                    have hK2 : Hid (w2.heap[B + 1]? = some (.stringIter S iN)) := (hT.block (B + 1) (by omega) (by omega)).trans (HKX.out _ (by (repeat' (first | (with_reducible assumption) | (with_reducible exact Below.refl _ _) | (with_reducible refine below_wov ?_ ?_ _) | (with_reducible refine below_drewN ?_ _) | (with_reducible refine Below.drew ?_) | (with_reducible refine Below.alloc ?_ ?_ _) | (with_reducible refine Below.setCell ?_ ?_ _) | (with_reducible exact Nat.le_refl _) | omega | (simp only [World.size_alloc, World.size_setCell, World.size_drew, Wov_size, World.heap_drewN]; omega)))))
                    have sz2 := hB2.size
                    have HC2 := Lib.hid hC2
                    have c2' := hC2.c2
                    have c1' := hC2.c1
                    have lt2 := hC2.lt
                    clear hT hC2 EO hTb
                    go_wp2_with (fail)
                    refine (CR.out _).mono ?_; rintro e w' ⟨rfl, q3, rfl⟩
                    go_wp2_with (fail)
                    all_goals
                      (try simp only [Exit.noGoto_ret, go_sem])
                      go_returns
                      refine ⟨⟨none, 0, ?_, fun _ => rfl, .inl ?_⟩, Wov_of_below (by (repeat' (first | (with_reducible assumption) | (with_reducible exact Below.refl _ _) | (with_reducible refine below_wov ?_ ?_ _) | (with_reducible refine below_drewN ?_ _) | (with_reducible refine Below.drew ?_) | (with_reducible refine Below.alloc ?_ ?_ _) | (with_reducible refine Below.setCell ?_ ?_ _) | (with_reducible exact Nat.le_refl _) | omega | (simp only [World.size_alloc, World.size_setCell, World.size_drew, Wov_size, World.heap_drewN]; omega))))⟩
                      · rw [HRR.out]; rfl
                      · rw [HRR.out]
                  · rw [hs] at CR
                    have HR3 : Hid (CutR s (i + 1) [] (addSign (endRow l cur i) x i)) := HR2.out.sign HX.out hw HN.out hb hs
                    have hll : (endRow l cur i).length ≤ 10000 := by have := endRow_len l cur i; omega
                    clear hf hw hb hs kb3 hcur hk hki hsl hrk
                    go_wp2_with (fail)
                    refine (KD.out _).mono ?_; rintro e w' ⟨rfl, q1, rfl⟩
                    go_wp2_with (fail)
                    refine (EO.out _ (by (repeat' (first | (with_reducible assumption) | (with_reducible exact Below.refl _ _) | (with_reducible refine below_wov ?_ ?_ _) | (with_reducible refine below_drewN ?_ _) | (with_reducible refine Below.drew ?_) | (with_reducible refine Below.alloc ?_ ?_ _) | (with_reducible refine Below.setCell ?_ ?_ _) | (with_reducible exact Nat.le_refl _) | omega | (simp only [World.size_alloc, World.size_setCell, World.size_drew, Wov_size, World.heap_drewN]; omega)))) (by (repeat' (first | (with_reducible assumption) | (with_reducible exact Below.refl _ _) | (with_reducible refine below_wov ?_ ?_ _) | (with_reducible refine below_drewN ?_ _) | (with_reducible refine Below.drew ?_) | (with_reducible refine Below.alloc ?_ ?_ _) | (with_reducible refine Below.setCell ?_ ?_ _) | (with_reducible exact Nat.le_refl _) | omega | (simp only [World.size_alloc, World.size_setCell, World.size_drew, Wov_size, World.heap_drewN]; omega))))).mono ?_; rintro e w2 ⟨rfl, hT, v2, hC2⟩
                    have hTb := hT.below (Nat.le_add_right B 2)
                    have hB2 : Below w.heap.size w w2 := by
                      rw [hB]; refine Below.trans ?_ hTb; rw [← hB]; (repeat' (first | (with_reducible assumption) | (with_reducible exact Below.refl _ _) | (with_reducible refine below_wov ?_ ?_ _) | (with_reducible refine below_drewN ?_ _) | (with_reducible refine Below.drew ?_) | (with_reducible refine Below.alloc ?_ ?_ _) | (with_reducible refine Below.setCell ?_ ?_ _) | (with_reducible exact Nat.le_refl _) | omega | (simp only [World.size_alloc, World.size_setCell, World.size_drew, Wov_size, World.heap_drewN]; omega)))
                    have hK2 : Hid (w2.heap[B + 1]? = some (.stringIter S iN)) := (hT.block (B + 1) (by omega) (by omega)).trans (HKX.out _ (by (repeat' (first | (with_reducible assumption) | (with_reducible exact Below.refl _ _) | (with_reducible refine below_wov ?_ ?_ _) | (with_reducible refine below_drewN ?_ _) | (with_reducible refine Below.drew ?_) | (with_reducible refine Below.alloc ?_ ?_ _) | (with_reducible refine Below.setCell ?_ ?_ _) | (with_reducible exact Nat.le_refl _) | omega | (simp only [World.size_alloc, World.size_setCell, World.size_drew, Wov_size, World.heap_drewN]; omega)))))
                    have sz2 := hB2.size
                    have HC2 := Lib.hid hC2
                    have c2' := hC2.c2
                    have c1' := hC2.c1
                    have lt2 := hC2.lt
                    clear hT hC2 EO hTb
                    have HK2B : Hid (∀ X, Below w2.heap.size w2 X → X.heap[B + 1]? = some (.stringIter S iN)) := fun X hX => (hX.block (B + 1) (Array.getElem?_eq_some_iff.1 hK2.out).1).trans hK2.out
                    go_wp2_with (fail)
                    refine (CR.out _).mono ?_; rintro e w' ⟨rfl, q3, rfl⟩
                    go_wp2_with (fail)
                    refine (sign_any (B + 2) _ B S (-1) v2 (endRow l cur i) x i (HC2.out.below (by (repeat' (first | (with_reducible assumption) | (with_reducible exact Below.refl _ _) | (with_reducible refine below_wov ?_ ?_ _) | (with_reducible refine below_drewN ?_ _) | (with_reducible refine Below.drew ?_) | (with_reducible refine Below.alloc ?_ ?_ _) | (with_reducible refine Below.setCell ?_ ?_ _) | (with_reducible exact Nat.le_refl _) | omega | (simp only [World.size_alloc, World.size_setCell, World.size_drew, Wov_size, World.heap_drewN]; omega))))) hll h128 (by omega)).mono ?_; rintro e w3 ⟨rfl, hT3, v3, hC3⟩
                    have hK3 := (hT3.block (B + 1) (by omega) (by omega)).trans ((HK2B.out _ (by (repeat' (first | (with_reducible assumption) | (with_reducible exact Below.refl _ _) | (with_reducible refine below_wov ?_ ?_ _) | (with_reducible refine below_drewN ?_ _) | (with_reducible refine Below.drew ?_) | (with_reducible refine Below.alloc ?_ ?_ _) | (with_reducible refine Below.setCell ?_ ?_ _) | (with_reducible exact Nat.le_refl _) | omega | (simp only [World.size_alloc, World.size_setCell, World.size_drew, Wov_size, World.heap_drewN]; omega))))))
                    have hTb3 := hT3.below (Nat.le_add_right B 2)
                    have hB3 : Below w.heap.size w w3 := by
                      rw [hB]; refine Below.trans ?_ hTb3; rw [← hB]; (repeat' (first | (with_reducible assumption) | (with_reducible exact Below.refl _ _) | (with_reducible refine below_wov ?_ ?_ _) | (with_reducible refine below_drewN ?_ _) | (with_reducible refine Below.drew ?_) | (with_reducible refine Below.alloc ?_ ?_ _) | (with_reducible refine Below.setCell ?_ ?_ _) | (with_reducible exact Nat.le_refl _) | omega | (simp only [World.size_alloc, World.size_setCell, World.size_drew, Wov_size, World.heap_drewN]; omega)))
                    have HC3 := Lib.hid hC3
                    have HK3 := Lib.hid hK3
                    have HI := Lib.hid hiN
                    clear hT3 hC3 hK3 hiN hTb3
                    go_wp2_with (fail)
                    go_roundg (n - (i + 1))
                    case measure => omega
                    case rel => exact ⟨i + 1, [], addSign (endRow l cur i) x i, v3, -1, by omega, hB3, ⟨HC3.out, by rw [← HI.out]; exact HK3.out, HR3.out, rfl⟩⟩
                · obtain rfl : kk = 1 := kb3.2 hb
                  have HR3 : Hid (CutR s (i + 1) [] (endRow l cur i)) := HR2.out.blank HX.out hw HN.out hb
                  clear hf hw hb kb3 hcur hk hki hsl hrk
                  go_wp2_with (fail)
                  refine (KD.out _).mono ?_; rintro e w' ⟨rfl, q1, rfl⟩
                  go_wp2_with (fail)
                  refine (EO.out _ (by (repeat' (first | (with_reducible assumption) | (with_reducible exact Below.refl _ _) | (with_reducible refine below_wov ?_ ?_ _) | (with_reducible refine below_drewN ?_ _) | (with_reducible refine Below.drew ?_) | (with_reducible refine Below.alloc ?_ ?_ _) | (with_reducible refine Below.setCell ?_ ?_ _) | (with_reducible exact Nat.le_refl _) | omega | (simp only [World.size_alloc, World.size_setCell, World.size_drew, Wov_size, World.heap_drewN]; omega)))) (by (repeat' (first | (with_reducible assumption) | (with_reducible exact Below.refl _ _) | (with_reducible refine below_wov ?_ ?_ _) | (with_reducible refine below_drewN ?_ _) | (with_reducible refine Below.drew ?_) | (with_reducible refine Below.alloc ?_ ?_ _) | (with_reducible refine Below.setCell ?_ ?_ _) | (with_reducible exact Nat.le_refl _) | omega | (simp only [World.size_alloc, World.size_setCell, World.size_drew, Wov_size, World.heap_drewN]; omega))))).mono ?_; rintro e w2 ⟨rfl, hT, v2, hC2⟩
                  have hTb := hT.below (Nat.le_add_right B 2)
                  have hB2 : Below w.heap.size w w2 := by
                    rw [hB]; refine Below.trans ?_ hTb; rw [← hB]; (repeat' (first | (with_reducible assumption) | (with_reducible exact Below.refl _ _) | (with_reducible refine below_wov ?_ ?_ _) | (with_reducible refine below_drewN ?_ _) | (with_reducible refine Below.drew ?_) | (with_reducible refine Below.alloc ?_ ?_ _) | (with_reducible refine Below.setCell ?_ ?_ _) | (with_reducible exact Nat.le_refl _) | omega | (simp only [World.size_alloc, World.size_setCell, World.size_drew, Wov_size, World.heap_drewN]; omega)))
                  have hK2 : Hid (w2.heap[B + 1]? = some (.stringIter S iN)) := (hT.block (B + 1) (by omega) (by omega)).trans (HKX.out _ (by (repeat' (first | (with_reducible assumption) | (with_reducible exact Below.refl _ _) | (with_reducible refine below_wov ?_ ?_ _) | (with_reducible refine below_drewN ?_ _) | (with_reducible refine Below.drew ?_) | (with_reducible refine Below.alloc ?_ ?_ _) | (with_reducible refine Below.setCell ?_ ?_ _) | (with_reducible exact Nat.le_refl _) | omega | (simp only [World.size_alloc, World.size_setCell, World.size_drew, Wov_size, World.heap_drewN]; omega)))))
                  have sz2 := hB2.size
                  have HC2 := Lib.hid hC2
                  have c2' := hC2.c2
                  have c1' := hC2.c1
                  have lt2 := hC2.lt
                  clear hT hC2 EO hTb
                  have HK2B : Hid (∀ X, Below w2.heap.size w2 X → X.heap[B + 1]? = some (.stringIter S iN)) := fun X hX => (hX.block (B + 1) (Array.getElem?_eq_some_iff.1 hK2.out).1).trans hK2.out
                  have HI := Lib.hid hiN
                  clear hiN
                  go_wp2_with (fail)
                  go_roundg (n - (i + 1))
                  case measure => omega
                  case rel => exact ⟨i + 1, [], endRow l cur i, v2, -1, by omega, by (repeat' (first | (with_reducible assumption) | (with_reducible exact Below.refl _ _) | (with_reducible refine below_wov ?_ ?_ _) | (with_reducible refine below_drewN ?_ _) | (with_reducible refine Below.drew ?_) | (with_reducible refine Below.alloc ?_ ?_ _) | (with_reducible refine Below.setCell ?_ ?_ _) | (with_reducible exact Nat.le_refl _) | omega | (simp only [World.size_alloc, World.size_setCell, World.size_drew, Wov_size, World.heap_drewN]; omega))), ⟨HC2.out.below (by (repeat' (first | (with_reducible assumption) | (with_reducible exact Below.refl _ _) | (with_reducible refine below_wov ?_ ?_ _) | (with_reducible refine below_drewN ?_ _) | (with_reducible refine Below.drew ?_) | (with_reducible refine Below.alloc ?_ ?_ _) | (with_reducible refine Below.setCell ?_ ?_ _) | (with_reducible exact Nat.le_refl _) | omega | (simp only [World.size_alloc, World.size_setCell, World.size_drew, Wov_size, World.heap_drewN]; omega)))), by rw [← HI.out]; exact HK2B.out _ (by (repeat' (first | (with_reducible assumption) | (with_reducible exact Below.refl _ _) | (with_reducible refine below_wov ?_ ?_ _) | (with_reducible refine below_drewN ?_ _) | (with_reducible refine Below.drew ?_) | (with_reducible refine Below.alloc ?_ ?_ _) | (with_reducible refine Below.setCell ?_ ?_ _) | (with_reducible exact Nat.le_refl _) | omega | (simp only [World.size_alloc, World.size_setCell, World.size_drew, Wov_size, World.heap_drewN]; omega)))), HR3.out, rfl⟩⟩
              · skip
                obtain ⟨k, hk⟩ : ∃ k, k = i - cur.length := ⟨_, rfl⟩
                obtain rfl : f = (k : Int) := by rw [hf, if_neg hcur, hk]
                obtain ⟨hki, hsl⟩ := HR2.out.slice hcur
                rw [← hk] at hki hsl
                have HCS : Hid (CutI (B + 2) V B (bs s) k v l) := by rw [← HS.out]; exact HC.out
                have HLV : Hid (∀ w', Below w.heap.size w w' → Laid w') := fun w' hb => HL.out.below hb
                have HRE : Hid (cur ≠ [] ∧ (rowK cur).2 ≠ 0) := ⟨hcur, hrk⟩
                have HK0 : Hid (k = i - cur.length) := hk
                obtain ⟨E, hE⟩ : ∃ E : Int, E = ((rowK cur).2 : Int) := ⟨_, rfl⟩
                have HEE := Lib.hid hE
                have hE0 : (E == 0) = false := by rw [beq_eq_false_iff_ne]; omega
                have EE : Hid (∀ w', Below V.heap.size V w' → Below w.heap.size w w' → Calls Tryz.prog 66 #[.pointer (some ⟨B, 0, none⟩), .int .i64 i] w' (Gives w' (.int .i64 E))) := fun w' h1 h2 => by
                  have hns := Hn.out
                  have := end_err (B + 2) w' B s v l k i (HCS.out.below h1) hki (by omega) (by omega) (HLV.out _ h2) (by rw [← hsl]; exact hrk)
                  rw [← hsl, ← hE] at this
                  exact this
                have HRR : Hid (R = ([], i - cur.length, (rowK cur).2)) := HR.out.trans (HR2.out.err HX.out hw hcur hrk)
                clear hf hki hsl hk hE hcur hrk hw kb3
                go_wp2_with (fail)
                refine (KD.out _).mono ?_; rintro e w' ⟨rfl, q1, rfl⟩
                go_wp2_with (fail)
                refine (EE.out _ (by (repeat' (first | (with_reducible assumption) | (with_reducible exact Below.refl _ _) | (with_reducible refine below_wov ?_ ?_ _) | (with_reducible refine below_drewN ?_ _) | (with_reducible refine Below.drew ?_) | (with_reducible refine Below.alloc ?_ ?_ _) | (with_reducible refine Below.setCell ?_ ?_ _) | (with_reducible exact Nat.le_refl _) | omega | (simp only [World.size_alloc, World.size_setCell, World.size_drew, Wov_size, World.heap_drewN]; omega)))) (by (repeat' (first | (with_reducible assumption) | (with_reducible exact Below.refl _ _) | (with_reducible refine below_wov ?_ ?_ _) | (with_reducible refine below_drewN ?_ _) | (with_reducible refine Below.drew ?_) | (with_reducible refine Below.alloc ?_ ?_ _) | (with_reducible refine Below.setCell ?_ ?_ _) | (with_reducible exact Nat.le_refl _) | omega | (simp only [World.size_alloc, World.size_setCell, World.size_drew, Wov_size, World.heap_drewN]; omega))))).mono ?_; rintro e w' ⟨rfl, q2, rfl⟩
                go_wp2_with (fail)
                go_region
                all_goals (go_wp2_with (fail))
                all_goals
                  (try simp only [Exit.noGoto_ret, go_sem])
                  go_returns
                  refine ⟨⟨none, 0, ?_, fun _ => rfl, .inl ?_⟩, Wov_of_below (by (repeat' (first | (with_reducible assumption) | (with_reducible exact Below.refl _ _) | (with_reducible refine below_wov ?_ ?_ _) | (with_reducible refine below_drewN ?_ _) | (with_reducible refine Below.drew ?_) | (with_reducible refine Below.alloc ?_ ?_ _) | (with_reducible refine Below.setCell ?_ ?_ _) | (with_reducible exact Nat.le_refl _) | omega | (simp only [World.size_alloc, World.size_setCell, World.size_drew, Wov_size, World.heap_drewN]; omega))))⟩
                  · rw [HRR.out]; simp [HEE.out, HK0.out]
                  · rw [HRR.out]
          · have k2 : 2 ≤ kk := kb1.2 hw
            have HR3 : Hid (CutR s (i + 1) (cur ++ [x]) l) := HR2.out.word HX.out hw
            have HI := Lib.hid hiN
            clear kb1 kb2 kb3
            by_cases hcur : cur = []
            · obtain rfl : f = -1 := by rw [hf, if_pos hcur]
              have HF := Lib.hid hcur
              clear hf hcur hiN
              go_wp2_with (fail)
              refine (KD.out _).mono ?_; rintro e w' ⟨rfl, q1, rfl⟩
              go_wp2_with (fail)
              go_roundg (n - (i + 1))
              case measure => omega
              case rel =>
                refine ⟨i + 1, cur ++ [x], l, v, (i : Int), by omega, by (repeat' (first | (with_reducible assumption) | (with_reducible exact Below.refl _ _) | (with_reducible refine below_wov ?_ ?_ _) | (with_reducible refine below_drewN ?_ _) | (with_reducible refine Below.drew ?_) | (with_reducible refine Below.alloc ?_ ?_ _) | (with_reducible refine Below.setCell ?_ ?_ _) | (with_reducible exact Nat.le_refl _) | omega | (simp only [World.size_alloc, World.size_setCell, World.size_drew, Wov_size, World.heap_drewN]; omega))), ⟨(HC.out.below (below_Wov V q1)).from, ?_, HR3.out, ?_⟩⟩
                · rw [← HI.out]
                  exact (set_heap _ _ _ _ (by show B + 1 ≠ B; omega)).trans (HKX.out _ (below_Wov V q1))
                · rw [HF.out]; simp
            · have hf2 : f = ((i - cur.length : Nat) : Int) := by rw [hf, if_neg hcur]
              have f0 : 0 ≤ f := by rw [hf2]; omega
              have HF := Lib.hid hf2
              have HN := Lib.hid hcur
              clear hf hf2 hcur hiN
              go_wp2_with (fail)
              refine (KD.out _).mono ?_; rintro e w' ⟨rfl, q1, rfl⟩
              go_wp2_with (fail)
              go_roundg (n - (i + 1))
              case measure => omega
              case rel =>
                refine ⟨i + 1, cur ++ [x], l, v, f, by omega, by (repeat' (first | (with_reducible assumption) | (with_reducible exact Below.refl _ _) | (with_reducible refine below_wov ?_ ?_ _) | (with_reducible refine below_drewN ?_ _) | (with_reducible refine Below.drew ?_) | (with_reducible refine Below.alloc ?_ ?_ _) | (with_reducible refine Below.setCell ?_ ?_ _) | (with_reducible exact Nat.le_refl _) | omega | (simp only [World.size_alloc, World.size_setCell, World.size_drew, Wov_size, World.heap_drewN]; omega))), ⟨HC.out.below (below_Wov V q1), ?_, HR3.out, ?_⟩⟩
                · rw [← HI.out]
                  exact HKX.out _ (below_Wov V q1)
                · rw [HF.out, if_neg (by simp), List.length_append]
                  simp
        · obtain ⟨d1, d2, d3, d4, d5, _⟩ := decode_wide S i hiS (by rw [get_list_x HAT.out hx hiS]; omega)
          have hnx := fun ty => Lib.run_next_any_at (P := Tryz.prog) wr (B + 1) S i ty hK hiS
          obtain ⟨c, hc⟩ : ∃ c, c = (Utf8.decode S i).1 := ⟨_, rfl⟩
          obtain ⟨iD, hiD⟩ : ∃ iD, iD = i + (Utf8.decode S i).2 := ⟨_, rfl⟩
          rw [← hc] at d1 d2 d3 hnx
          rw [← hiD] at hnx
          have hCV := hC.iter (k := B + 1) (T := S) (p := iD) (by omega) (by omega)
          have hKV := Lib.iterAt_heap wr (B + 1) S i iD hK
          have hBV := below_iterAt hBl S iD (k := B + 1) (by omega)
          obtain ⟨V, hV⟩ : ∃ V, V = wr.iterAt (B + 1) S iD := ⟨_, rfl⟩
          rw [← hV] at hnx hCV hKV hBV
          clear iN hiN
          obtain ⟨iN, hiN⟩ : ∃ iN, iN = iD := ⟨_, rfl⟩
          rw [← hiN] at hKV
          have HKX : Hid (∀ X, Below V.heap.size V X → X.heap[B + 1]? = some (.stringIter S iN)) := fun X hX => (hX.block (B + 1) (Array.getElem?_eq_some_iff.1 hKV).1).trans hKV
          have szv := hBV.size
          have KD : Hid (Pure Tryz.prog 68 #[.int .i32 (c : Int)] (.int .i64 0)) := by
            have := kind_any (c : Int)
            rwa [show kindI (c : Int) = 0 by unfold kindI; rw [if_neg (by omega), if_neg (by omega), if_neg (by omega)]] at this
          have CR : Hid (Pure Tryz.prog 69 #[.string ⟨#[124, 38, 59, 43, 60, 62, 95, 91, 93, 40, 41, 44, 33, 123, 125]⟩, .int .i32 (c : Int)] (.bool false)) := crune_wide (c : Int) (by omega) (by omega) (by omega)
          obtain ⟨hw1, hw2, hw3⟩ := wide_odd (x := x) (by omega)
          have HX := Lib.hid hx
          have c2 := hCV.c2
          have z2 := hCV.z2
          have hlt := hCV.lt
          have HC := Lib.hid hCV
          clear hC hK hBl hV hx hCV hKV d1 d2 d3 d4 d5 hc hiD hiN
          by_cases hcur : cur = []
          · skip
            obtain rfl : f = -1 := by rw [hf, if_pos hcur]
            have HN : Hid (¬ (cur ≠ [] ∧ (rowK cur).2 ≠ 0)) := fun h => h.1 hcur
            have HE : Hid (endRow l cur i = l) := by show _ = _; unfold endRow; rw [if_pos hcur]
            have HRR : Hid (R = ([], i, 150)) := HR.out.trans (HR2.out.odd HX.out hw1 HN.out hw2 hw3)
            clear hf hcur
            go_wp2_with (fail)
            refine (KD.out _).mono ?_; rintro e w' ⟨rfl, q1, rfl⟩
            go_wp2_with (fail)
            refine (end_none (B + 2) _ B S v l i (HC.out.below (by (repeat' (first | (with_reducible assumption) | (with_reducible exact Below.refl _ _) | (with_reducible refine below_wov ?_ ?_ _) | (with_reducible refine below_drewN ?_ _) | (with_reducible refine Below.drew ?_) | (with_reducible refine Below.alloc ?_ ?_ _) | (with_reducible refine Below.setCell ?_ ?_ _) | (with_reducible exact Nat.le_refl _) | omega | (simp only [World.size_alloc, World.size_setCell, World.size_drew, Wov_size, World.heap_drewN]; omega)))))).mono ?_; rintro e w' ⟨rfl, q2, rfl⟩
            go_wp2_with (fail)
            refine (CR.out _).mono ?_; rintro e w' ⟨rfl, q3, rfl⟩
            go_wp2_with (fail)
            all_goals
              (try simp only [Exit.noGoto_ret, go_sem])
              go_returns
              refine ⟨⟨none, 0, ?_, fun _ => rfl, .inl ?_⟩, Wov_of_below (by (repeat' (first | (with_reducible assumption) | (with_reducible exact Below.refl _ _) | (with_reducible refine below_wov ?_ ?_ _) | (with_reducible refine below_drewN ?_ _) | (with_reducible refine Below.drew ?_) | (with_reducible refine Below.alloc ?_ ?_ _) | (with_reducible refine Below.setCell ?_ ?_ _) | (with_reducible exact Nat.le_refl _) | omega | (simp only [World.size_alloc, World.size_setCell, World.size_drew, Wov_size, World.heap_drewN]; omega))))⟩
              · rw [HRR.out]; rfl
              · rw [HRR.out]
          · by_cases hrk : (rowK cur).2 = 0
            · skip
              obtain ⟨k, hk⟩ : ∃ k, k = i - cur.length := ⟨_, rfl⟩
              obtain rfl : f = (k : Int) := by rw [hf, if_neg hcur, hk]
              obtain ⟨hki, hsl⟩ := HR2.out.slice hcur
              rw [← hk] at hki hsl
              have HCS : Hid (CutI (B + 2) V B (bs s) k v l) := by rw [← HS.out]; exact HC.out
              have HLV : Hid (∀ w', Below w.heap.size w w' → Laid w') := fun w' hb => HL.out.below hb
              have HN : Hid (¬ (cur ≠ [] ∧ (rowK cur).2 ≠ 0)) := fun h => h.2 hrk
              have EO : Hid (∀ w', Below V.heap.size V w' → Below w.heap.size w w' → Calls Tryz.prog 66 #[.pointer (some ⟨B, 0, none⟩), .int .i64 i] w' (fun e W' => e = .returned (.int .i64 0) ∧ Turn (B + 2) B w' W' ∧ ∃ v', CutI (B + 2) W' B S (-1) v' (endRow l cur i))) := fun w' h1 h2 => by
                have hns := Hn.out
                have e : endRow l cur i = l ++ [⟨(rowK ((s.drop k).take (i - k))).1, (s.drop k).take (i - k), k⟩] := by unfold endRow; rw [if_neg hcur, ← hsl, hk]
                have := end_ok (B + 2) w' B s v l k i (HCS.out.below h1) hki (by omega) (by omega) (HLV.out _ h2) (by omega) (by rw [← hsl]; exact hrk)
                rw [← e, ← HS.out] at this
                exact this
              have HRR : Hid (R = ([], i, 150)) := HR.out.trans (HR2.out.odd HX.out hw1 HN.out hw2 hw3)
              clear hf hcur hk hki hsl hrk
              go_wp2_with (fail)
              refine (KD.out _).mono ?_; rintro e w' ⟨rfl, q1, rfl⟩
              go_wp2_with (fail)
              refine (EO.out _ (by (repeat' (first | (with_reducible assumption) | (with_reducible exact Below.refl _ _) | (with_reducible refine below_wov ?_ ?_ _) | (with_reducible refine below_drewN ?_ _) | (with_reducible refine Below.drew ?_) | (with_reducible refine Below.alloc ?_ ?_ _) | (with_reducible refine Below.setCell ?_ ?_ _) | (with_reducible exact Nat.le_refl _) | omega | (simp only [World.size_alloc, World.size_setCell, World.size_drew, Wov_size, World.heap_drewN]; omega)))) (by (repeat' (first | (with_reducible assumption) | (with_reducible exact Below.refl _ _) | (with_reducible refine below_wov ?_ ?_ _) | (with_reducible refine below_drewN ?_ _) | (with_reducible refine Below.drew ?_) | (with_reducible refine Below.alloc ?_ ?_ _) | (with_reducible refine Below.setCell ?_ ?_ _) | (with_reducible exact Nat.le_refl _) | omega | (simp only [World.size_alloc, World.size_setCell, World.size_drew, Wov_size, World.heap_drewN]; omega))))).mono ?_; rintro e w2 ⟨rfl, hT, v2, hC2⟩
              have hTb := hT.below (Nat.le_add_right B 2)
              have hB2 : Below w.heap.size w w2 := by
                rw [hB]; refine Below.trans ?_ hTb; rw [← hB]; (repeat' (first | (with_reducible assumption) | (with_reducible exact Below.refl _ _) | (with_reducible refine below_wov ?_ ?_ _) | (with_reducible refine below_drewN ?_ _) | (with_reducible refine Below.drew ?_) | (with_reducible refine Below.alloc ?_ ?_ _) | (with_reducible refine Below.setCell ?_ ?_ _) | (with_reducible exact Nat.le_refl _) | omega | (simp only [World.size_alloc, World.size_setCell, World.size_drew, Wov_size, World.heap_drewN]; omega)))
              have hK2 : Hid (w2.heap[B + 1]? = some (.stringIter S iN)) := (hT.block (B + 1) (by omega) (by omega)).trans (HKX.out _ (by (repeat' (first | (with_reducible assumption) | (with_reducible exact Below.refl _ _) | (with_reducible refine below_wov ?_ ?_ _) | (with_reducible refine below_drewN ?_ _) | (with_reducible refine Below.drew ?_) | (with_reducible refine Below.alloc ?_ ?_ _) | (with_reducible refine Below.setCell ?_ ?_ _) | (with_reducible exact Nat.le_refl _) | omega | (simp only [World.size_alloc, World.size_setCell, World.size_drew, Wov_size, World.heap_drewN]; omega)))))
              have sz2 := hB2.size
              have HC2 := Lib.hid hC2
              have c2' := hC2.c2
              have c1' := hC2.c1
              have lt2 := hC2.lt
              clear hT hC2 EO hTb
              go_wp2_with (fail)
              refine (CR.out _).mono ?_; rintro e w' ⟨rfl, q3, rfl⟩
              go_wp2_with (fail)
              all_goals
                (try simp only [Exit.noGoto_ret, go_sem])
                go_returns
                refine ⟨⟨none, 0, ?_, fun _ => rfl, .inl ?_⟩, Wov_of_below (by (repeat' (first | (with_reducible assumption) | (with_reducible exact Below.refl _ _) | (with_reducible refine below_wov ?_ ?_ _) | (with_reducible refine below_drewN ?_ _) | (with_reducible refine Below.drew ?_) | (with_reducible refine Below.alloc ?_ ?_ _) | (with_reducible refine Below.setCell ?_ ?_ _) | (with_reducible exact Nat.le_refl _) | omega | (simp only [World.size_alloc, World.size_setCell, World.size_drew, Wov_size, World.heap_drewN]; omega))))⟩
                · rw [HRR.out]; rfl
                · rw [HRR.out]
            · skip
              obtain ⟨k, hk⟩ : ∃ k, k = i - cur.length := ⟨_, rfl⟩
              obtain rfl : f = (k : Int) := by rw [hf, if_neg hcur, hk]
              obtain ⟨hki, hsl⟩ := HR2.out.slice hcur
              rw [← hk] at hki hsl
              have HCS : Hid (CutI (B + 2) V B (bs s) k v l) := by rw [← HS.out]; exact HC.out
              have HLV : Hid (∀ w', Below w.heap.size w w' → Laid w') := fun w' hb => HL.out.below hb
              have HRE : Hid (cur ≠ [] ∧ (rowK cur).2 ≠ 0) := ⟨hcur, hrk⟩
              have HK0 : Hid (k = i - cur.length) := hk
              obtain ⟨E, hE⟩ : ∃ E : Int, E = ((rowK cur).2 : Int) := ⟨_, rfl⟩
              have HEE := Lib.hid hE
              have hE0 : (E == 0) = false := by rw [beq_eq_false_iff_ne]; omega
              have EE : Hid (∀ w', Below V.heap.size V w' → Below w.heap.size w w' → Calls Tryz.prog 66 #[.pointer (some ⟨B, 0, none⟩), .int .i64 i] w' (Gives w' (.int .i64 E))) := fun w' h1 h2 => by
                have hns := Hn.out
                have := end_err (B + 2) w' B s v l k i (HCS.out.below h1) hki (by omega) (by omega) (HLV.out _ h2) (by rw [← hsl]; exact hrk)
                rw [← hsl, ← hE] at this
                exact this
              have HRR : Hid (R = ([], i - cur.length, (rowK cur).2)) := HR.out.trans (HR2.out.err HX.out hw1 hcur hrk)
              clear hf hki hsl hk hE hcur hrk
              go_wp2_with (fail)
              refine (KD.out _).mono ?_; rintro e w' ⟨rfl, q1, rfl⟩
              go_wp2_with (fail)
              refine (EE.out _ (by (repeat' (first | (with_reducible assumption) | (with_reducible exact Below.refl _ _) | (with_reducible refine below_wov ?_ ?_ _) | (with_reducible refine below_drewN ?_ _) | (with_reducible refine Below.drew ?_) | (with_reducible refine Below.alloc ?_ ?_ _) | (with_reducible refine Below.setCell ?_ ?_ _) | (with_reducible exact Nat.le_refl _) | omega | (simp only [World.size_alloc, World.size_setCell, World.size_drew, Wov_size, World.heap_drewN]; omega)))) (by (repeat' (first | (with_reducible assumption) | (with_reducible exact Below.refl _ _) | (with_reducible refine below_wov ?_ ?_ _) | (with_reducible refine below_drewN ?_ _) | (with_reducible refine Below.drew ?_) | (with_reducible refine Below.alloc ?_ ?_ _) | (with_reducible refine Below.setCell ?_ ?_ _) | (with_reducible exact Nat.le_refl _) | omega | (simp only [World.size_alloc, World.size_setCell, World.size_drew, Wov_size, World.heap_drewN]; omega))))).mono ?_; rintro e w' ⟨rfl, q2, rfl⟩
              go_wp2_with (fail)
              go_region
              all_goals (go_wp2_with (fail))
              all_goals
                (try simp only [Exit.noGoto_ret, go_sem])
                go_returns
                refine ⟨⟨none, 0, ?_, fun _ => rfl, .inl ?_⟩, Wov_of_below (by (repeat' (first | (with_reducible assumption) | (with_reducible exact Below.refl _ _) | (with_reducible refine below_wov ?_ ?_ _) | (with_reducible refine below_drewN ?_ _) | (with_reducible refine Below.drew ?_) | (with_reducible refine Below.alloc ?_ ?_ _) | (with_reducible refine Below.setCell ?_ ?_ _) | (with_reducible exact Nat.le_refl _) | omega | (simp only [World.size_alloc, World.size_setCell, World.size_drew, Wov_size, World.heap_drewN]; omega))))⟩
                · rw [HRR.out]; simp [HEE.out, HK0.out]
                · rw [HRR.out]
      · obtain rfl : i = n := by omega
        have hnx := fun ty => Lib.run_next_end_at (P := Tryz.prog) wr (B + 1) S i ty hK (by omega)
        obtain ⟨V, hV⟩ : ∃ V, V = wr := ⟨_, rfl⟩
        rw [← hV] at hC hK hBl hnx ⊢
        obtain ⟨iN, hiN⟩ : ∃ iN, iN = i := ⟨_, rfl⟩
        have hKV := hK
        rw [← hiN] at hKV
        have HKX : Hid (∀ X, Below V.heap.size V X → X.heap[B + 1]? = some (.stringIter S iN)) := fun X hX => (hX.block (B + 1) (Array.getElem?_eq_some_iff.1 hKV).1).trans hKV
        have hBV := hBl
        have szv := hBV.size
        have c2 := hC.c2
        have z2 := hC.z2
        have hlt := hC.lt
        have HC := Lib.hid hC
        clear hC hK hBl hV hKV hiN hin
        by_cases hcur : cur = []
        · skip
          obtain rfl : f = -1 := by rw [hf, if_pos hcur]
          have HN : Hid (¬ (cur ≠ [] ∧ (rowK cur).2 ≠ 0)) := fun h => h.1 hcur
          have HE : Hid (endRow l cur i = l) := by show _ = _; unfold endRow; rw [if_pos hcur]
          have HRR : Hid (R = (endRow l cur i, 0, 0)) := by have := HR2.out.last Hn.out; rw [if_neg HN.out] at this; exact HR.out.trans this
          clear hf hcur
          go_wp2_with (fail)
          refine (end_none (B + 2) _ B S v l i (HC.out.below (by (repeat' (first | (with_reducible assumption) | (with_reducible exact Below.refl _ _) | (with_reducible refine below_wov ?_ ?_ _) | (with_reducible refine below_drewN ?_ _) | (with_reducible refine Below.drew ?_) | (with_reducible refine Below.alloc ?_ ?_ _) | (with_reducible refine Below.setCell ?_ ?_ _) | (with_reducible exact Nat.le_refl _) | omega | (simp only [World.size_alloc, World.size_setCell, World.size_drew, Wov_size, World.heap_drewN]; omega)))))).mono ?_; rintro e w' ⟨rfl, q2, rfl⟩
          obtain ⟨p, cp, hv, _, hp, hsl⟩ := RowK.sl tkD_ok HC.out.row
          have c1 := HC.out.c1
          rw [hv] at c1
          have HSL := Lib.hid hsl
          have HP := Lib.hid hp
          clear hv hsl hp
          go_wp2_with (fail)
          all_goals
            (try simp only [Exit.noGoto_ret, go_sem])
            go_returns
            refine ⟨⟨p, cp, ?_, HP.out, ?_⟩, Wov_of_below (by (repeat' (first | (with_reducible assumption) | (with_reducible exact Below.refl _ _) | (with_reducible refine below_wov ?_ ?_ _) | (with_reducible refine below_drewN ?_ _) | (with_reducible refine Below.drew ?_) | (with_reducible refine Below.alloc ?_ ?_ _) | (with_reducible refine Below.setCell ?_ ?_ _) | (with_reducible exact Nat.le_refl _) | omega | (simp only [World.size_alloc, World.size_setCell, World.size_drew, Wov_size, World.heap_drewN]; omega))))⟩
            · rw [HRR.out, HE.out]; rfl
            · rw [HRR.out, HE.out]; exact HSL.out.below (by (repeat' (first | (with_reducible assumption) | (with_reducible exact Below.refl _ _) | (with_reducible refine below_wov ?_ ?_ _) | (with_reducible refine below_drewN ?_ _) | (with_reducible refine Below.drew ?_) | (with_reducible refine Below.alloc ?_ ?_ _) | (with_reducible refine Below.setCell ?_ ?_ _) | (with_reducible exact Nat.le_refl _) | omega | (simp only [World.size_alloc, World.size_setCell, World.size_drew, Wov_size, World.heap_drewN]; omega))))
        · by_cases hrk : (rowK cur).2 = 0
          · skip
            obtain ⟨k, hk⟩ : ∃ k, k = i - cur.length := ⟨_, rfl⟩
            obtain rfl : f = (k : Int) := by rw [hf, if_neg hcur, hk]
            obtain ⟨hki, hsl⟩ := HR2.out.slice hcur
            rw [← hk] at hki hsl
            have HCS : Hid (CutI (B + 2) V B (bs s) k v l) := by rw [← HS.out]; exact HC.out
            have HLV : Hid (∀ w', Below w.heap.size w w' → Laid w') := fun w' hb => HL.out.below hb
            have HN : Hid (¬ (cur ≠ [] ∧ (rowK cur).2 ≠ 0)) := fun h => h.2 hrk
            have EO : Hid (∀ w', Below V.heap.size V w' → Below w.heap.size w w' → Calls Tryz.prog 66 #[.pointer (some ⟨B, 0, none⟩), .int .i64 i] w' (fun e W' => e = .returned (.int .i64 0) ∧ Turn (B + 2) B w' W' ∧ ∃ v', CutI (B + 2) W' B S (-1) v' (endRow l cur i))) := fun w' h1 h2 => by
              have hns := Hn.out
              have e : endRow l cur i = l ++ [⟨(rowK ((s.drop k).take (i - k))).1, (s.drop k).take (i - k), k⟩] := by unfold endRow; rw [if_neg hcur, ← hsl, hk]
              have := end_ok (B + 2) w' B s v l k i (HCS.out.below h1) hki (by omega) (by omega) (HLV.out _ h2) (by omega) (by rw [← hsl]; exact hrk)
              rw [← e, ← HS.out] at this
              exact this
            have HRR : Hid (R = (endRow l cur i, 0, 0)) := by have := HR2.out.last Hn.out; rw [if_neg HN.out] at this; exact HR.out.trans this
            clear hf hcur hk hki hsl hrk
            go_wp2_with (fail)
            refine (EO.out _ (by (repeat' (first | (with_reducible assumption) | (with_reducible exact Below.refl _ _) | (with_reducible refine below_wov ?_ ?_ _) | (with_reducible refine below_drewN ?_ _) | (with_reducible refine Below.drew ?_) | (with_reducible refine Below.alloc ?_ ?_ _) | (with_reducible refine Below.setCell ?_ ?_ _) | (with_reducible exact Nat.le_refl _) | omega | (simp only [World.size_alloc, World.size_setCell, World.size_drew, Wov_size, World.heap_drewN]; omega)))) (by (repeat' (first | (with_reducible assumption) | (with_reducible exact Below.refl _ _) | (with_reducible refine below_wov ?_ ?_ _) | (with_reducible refine below_drewN ?_ _) | (with_reducible refine Below.drew ?_) | (with_reducible refine Below.alloc ?_ ?_ _) | (with_reducible refine Below.setCell ?_ ?_ _) | (with_reducible exact Nat.le_refl _) | omega | (simp only [World.size_alloc, World.size_setCell, World.size_drew, Wov_size, World.heap_drewN]; omega))))).mono ?_; rintro e w2 ⟨rfl, hT, v2, hC2⟩
            have hTb := hT.below (Nat.le_add_right B 2)
            have hB2 : Below w.heap.size w w2 := by
              rw [hB]; refine Below.trans ?_ hTb; rw [← hB]; (repeat' (first | (with_reducible assumption) | (with_reducible exact Below.refl _ _) | (with_reducible refine below_wov ?_ ?_ _) | (with_reducible refine below_drewN ?_ _) | (with_reducible refine Below.drew ?_) | (with_reducible refine Below.alloc ?_ ?_ _) | (with_reducible refine Below.setCell ?_ ?_ _) | (with_reducible exact Nat.le_refl _) | omega | (simp only [World.size_alloc, World.size_setCell, World.size_drew, Wov_size, World.heap_drewN]; omega)))
            have hK2 : Hid (w2.heap[B + 1]? = some (.stringIter S iN)) := (hT.block (B + 1) (by omega) (by omega)).trans (HKX.out _ (by (repeat' (first | (with_reducible assumption) | (with_reducible exact Below.refl _ _) | (with_reducible refine below_wov ?_ ?_ _) | (with_reducible refine below_drewN ?_ _) | (with_reducible refine Below.drew ?_) | (with_reducible refine Below.alloc ?_ ?_ _) | (with_reducible refine Below.setCell ?_ ?_ _) | (with_reducible exact Nat.le_refl _) | omega | (simp only [World.size_alloc, World.size_setCell, World.size_drew, Wov_size, World.heap_drewN]; omega)))))
            have sz2 := hB2.size
            have HC2 := Lib.hid hC2
            have c2' := hC2.c2
            have c1' := hC2.c1
            have lt2 := hC2.lt
            clear hT hC2 EO hTb
            obtain ⟨p, cp, hv, _, hp, hsl⟩ := RowK.sl tkD_ok HC2.out.row
            rw [hv] at c1'
            have HSL := Lib.hid hsl
            have HP := Lib.hid hp
            clear hv hsl hp
            go_wp2_with (fail)
            all_goals
              (try simp only [Exit.noGoto_ret, go_sem])
              go_returns
              refine ⟨⟨p, cp, ?_, HP.out, ?_⟩, Wov_of_below (by (repeat' (first | (with_reducible assumption) | (with_reducible exact Below.refl _ _) | (with_reducible refine below_wov ?_ ?_ _) | (with_reducible refine below_drewN ?_ _) | (with_reducible refine Below.drew ?_) | (with_reducible refine Below.alloc ?_ ?_ _) | (with_reducible refine Below.setCell ?_ ?_ _) | (with_reducible exact Nat.le_refl _) | omega | (simp only [World.size_alloc, World.size_setCell, World.size_drew, Wov_size, World.heap_drewN]; omega))))⟩
              · rw [HRR.out]; rfl
              · rw [HRR.out]; exact HSL.out
          · skip
            obtain ⟨k, hk⟩ : ∃ k, k = i - cur.length := ⟨_, rfl⟩
            obtain rfl : f = (k : Int) := by rw [hf, if_neg hcur, hk]
            obtain ⟨hki, hsl⟩ := HR2.out.slice hcur
            rw [← hk] at hki hsl
            have HCS : Hid (CutI (B + 2) V B (bs s) k v l) := by rw [← HS.out]; exact HC.out
            have HLV : Hid (∀ w', Below w.heap.size w w' → Laid w') := fun w' hb => HL.out.below hb
            have HRE : Hid (cur ≠ [] ∧ (rowK cur).2 ≠ 0) := ⟨hcur, hrk⟩
            have HK0 : Hid (k = i - cur.length) := hk
            obtain ⟨E, hE⟩ : ∃ E : Int, E = ((rowK cur).2 : Int) := ⟨_, rfl⟩
            have HEE := Lib.hid hE
            have hE0 : (E == 0) = false := by rw [beq_eq_false_iff_ne]; omega
            have EE : Hid (∀ w', Below V.heap.size V w' → Below w.heap.size w w' → Calls Tryz.prog 66 #[.pointer (some ⟨B, 0, none⟩), .int .i64 i] w' (Gives w' (.int .i64 E))) := fun w' h1 h2 => by
              have hns := Hn.out
              have := end_err (B + 2) w' B s v l k i (HCS.out.below h1) hki (by omega) (by omega) (HLV.out _ h2) (by rw [← hsl]; exact hrk)
              rw [← hsl, ← hE] at this
              exact this
            have HRR : Hid (R = ([], i - cur.length, (rowK cur).2)) := by have := HR2.out.last Hn.out; rw [if_pos ⟨hcur, hrk⟩] at this; exact HR.out.trans this
            clear hf hki hsl hk hE hcur hrk
            go_wp2_with (fail)
            refine (EE.out _ (by (repeat' (first | (with_reducible assumption) | (with_reducible exact Below.refl _ _) | (with_reducible refine below_wov ?_ ?_ _) | (with_reducible refine below_drewN ?_ _) | (with_reducible refine Below.drew ?_) | (with_reducible refine Below.alloc ?_ ?_ _) | (with_reducible refine Below.setCell ?_ ?_ _) | (with_reducible exact Nat.le_refl _) | omega | (simp only [World.size_alloc, World.size_setCell, World.size_drew, Wov_size, World.heap_drewN]; omega)))) (by (repeat' (first | (with_reducible assumption) | (with_reducible exact Below.refl _ _) | (with_reducible refine below_wov ?_ ?_ _) | (with_reducible refine below_drewN ?_ _) | (with_reducible refine Below.drew ?_) | (with_reducible refine Below.alloc ?_ ?_ _) | (with_reducible refine Below.setCell ?_ ?_ _) | (with_reducible exact Nat.le_refl _) | omega | (simp only [World.size_alloc, World.size_setCell, World.size_drew, Wov_size, World.heap_drewN]; omega))))).mono ?_; rintro e w' ⟨rfl, q2, rfl⟩
            go_wp2_with (fail)
            go_region
            all_goals (go_wp2_with (fail))
            all_goals
              (try simp only [Exit.noGoto_ret, go_sem])
              go_returns
              refine ⟨⟨none, 0, ?_, fun _ => rfl, .inl ?_⟩, Wov_of_below (by (repeat' (first | (with_reducible assumption) | (with_reducible exact Below.refl _ _) | (with_reducible refine below_wov ?_ ?_ _) | (with_reducible refine below_drewN ?_ _) | (with_reducible refine Below.drew ?_) | (with_reducible refine Below.alloc ?_ ?_ _) | (with_reducible refine Below.setCell ?_ ?_ _) | (with_reducible exact Nat.le_refl _) | omega | (simp only [World.size_alloc, World.size_setCell, World.size_drew, Wov_size, World.heap_drewN]; omega))))⟩
              · rw [HRR.out]; simp [HEE.out, HK0.out]
              · rw [HRR.out]
#print axioms cut_any
end Go.Proofs.YtccbhblklhmcpaaGreatDoor
