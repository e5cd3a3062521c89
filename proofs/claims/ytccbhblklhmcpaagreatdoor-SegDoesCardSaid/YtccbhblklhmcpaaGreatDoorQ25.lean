/- seg's reader: contract of on. No condition but on sizes. -/
import Derived.Test.YtccbhblklhmcpaaGreatDoorQ24
namespace Go.Proofs.YtccbhblklhmcpaaGreatDoor
set_option linter.unusedSimpArgs false
set_option linter.unusedVariables false
open Go Go.RowKit Go.Shelf
attribute [local go_sem] Nat.add_assoc Nat.add_lt_add_iff_left lit_lt_add

theorem Turn.mono {nb nc B : Nat} {W V : World} (h : Turn nc B W V) (hn : nb ≤ nc) : Turn nb B W V := ⟨h.os, h.tape, h.output, h.size, fun j hj hB => h.block j (by omega) hB⟩
theorem SlS.turn {W V : World} {q : Option Addr} {N : List (List UInt8)} {B : Nat} (h : SlS W q N) (hT : Turn W.heap.size B W V) (hB : ∀ A o, q = some ⟨A, o, none⟩ → A ≠ B) : SlS V q N := by
  rcases h with h | ⟨A, o, e, h1, h2⟩
  · exact .inl h
  · exact .inr ⟨A, o, e, Nat.lt_of_lt_of_le h1 hT.size, fun i j x u hx hu => (World.cell?_of_block (a := ⟨A, o + (i * strD.k + j), none⟩) (hT.block A h1 (hB A o e))).trans (h2 i j x u hx hu)⟩
theorem bit_all : ∀ k : Fin 8, ∀ on : Fin 128, on.val < 2 ^ k.val → bits .or .u8 (on.val : Int) (2 ^ min k.val 8 % 256) = ((on.val + 2 ^ k.val : Nat) : Int) := by decide +kernel
theorem bit_or (on : Nat) (k : Int) (k' : Nat) (hk : k = k') (h7 : k' ≤ 7) (ho : on < 2 ^ k') : bits .or .u8 (on : Int) (2 ^ min k.toNat 8 % 256) = ((on + 2 ^ k' : Nat) : Int) := by
  have h128 : on < 128 := Nat.lt_of_lt_of_le ho (Nat.pow_le_pow_right (by decide) h7)
  have := bit_all ⟨k', by omega⟩ ⟨on, h128⟩ ho
  rw [hk, Int.toNat_natCast]
  exact this
/-- What reading names hands back. -/
def onC (W : World) (B : Nat) (v : Value) (S : List UInt8) (o : Nat × List UInt8 × Nat × Nat) (e : Ending) (W' : World) : Prop :=
  Turn W.heap.size B W W' ∧ ∃ ev, e = .returned (.tuple #[.int .u8 o.1, ev]) ∧ ErrIs W.heap.size W' ev o.2.2.2 o.2.2.1 ∧ (o.2.2.2 = 0 → RdI W' B v (bs S) o.2.2.1 ∧ o.2.1 = S.drop o.2.2.1 ∧ o.2.2.1 ≤ S.length)
set_option maxRecDepth 10000 in
set_option maxHeartbeats 4000000 in
theorem on_any (W : World) (B : Nat) (q : Option Addr) (c : Nat) (N : List (List UInt8)) (S : List UInt8) (p0 : Nat) (h : RdI W B (.slice q N.length c) (bs S) p0) (hp : p0 ≤ S.length) (hS : S.length ≤ 140737488355328) (hN : N.length ≤ 8) (hQ : SlS W q N) (hB : ∀ A o, q = some ⟨A, o, none⟩ → A ≠ B) (f0 : Nat) (hf : (S.drop p0).length < f0) :
    Calls Tryz.prog 42 #[.pointer (some ⟨B, 0, none⟩)] W (onC W B (.slice q N.length c) S (onL N f0 (S.drop p0) p0 (-1) 0)) := by
  obtain ⟨o, ho⟩ : ∃ o, o = onL N f0 (S.drop p0) p0 (-1) 0 := ⟨_, rfl⟩
  rw [← ho]
  have HO := Lib.hid ho
  have HI := Lib.hid h
  have HQ := Lib.hid hQ
  have HQB := Lib.hid hB
  have hlt := h.lt
  have HSl := Lib.hid hS
  have HP := Lib.hid hp
  have HF := Lib.hid hf
  clear h hp hS hQ hB ho hf
  go_enter Tryz.func42, Tryz.ntmps42
  go_wp2_with (fail)
  go_loopg [2, 4] f0 (fun g s2 s4 wr => ∃ (p : Nat) (last : Int) (on : Nat), s2 = .int .u8 on ∧ s4 = .int .i64 last ∧ Hid (RdI wr B (.slice q N.length c) (bs S) p ∧ Turn W.heap.size B W wr ∧ p ≤ S.length ∧ o = onL N g (S.drop p) p last on ∧ (S.drop p).length < g ∧ -1 ≤ last ∧ last < 8 ∧ on < 2 ^ (last + 1).toNat))
  case atStart => exact ⟨p0, -1, 0, rfl, rfl, HI.out, Turn.of (Below.refl _ _), HP.out, HO.out, HF.out, by omega, by omega, by decide⟩
  case round =>
    obtain ⟨p, last, on, rfl, rfl, hI⟩ := hrel
    obtain ⟨hR, hT, hp, ho, hl, la0, la1, hon⟩ := hI.out
    clear hI
    cases gk with
    | zero => exact absurd hl (Nat.not_lt_zero _)
    | succ g =>
      have RL : Hid (∀ w', Below wr.heap.size wr w' → Calls Tryz.prog 40 #[.pointer (some ⟨B, 0, none⟩), .string ⟨#[97, 98, 99, 100, 101, 102, 103, 104, 105, 106, 107, 108, 109, 110, 111, 112, 113, 114, 115, 116, 117, 118, 119, 120, 121, 122]⟩] w' (Gives w' (.string (bs ((S.drop p).takeWhile isL))))) := fun w' hb => runL_any w' B _ S p (hR.below hb) hp HSl.out
      have RW : Hid (∀ w', Below wr.heap.size wr w' → Calls Tryz.prog 40 #[.pointer (some ⟨B, 0, none⟩), .string ⟨#[97, 98, 99, 100, 101, 102, 103, 104, 105, 106, 107, 108, 109, 110, 111, 112, 113, 114, 115, 116, 117, 118, 119, 120, 121, 122, 48, 49, 50, 51, 52, 53, 54, 55, 56, 57]⟩] w' (Gives w' (.string (bs ((S.drop p).takeWhile isW))))) := fun w' hb => runW_any w' B _ S p (hR.below hb) hp HSl.out
      have HR := Lib.hid hR
      have HT := Lib.hid hT
      have hltr := hR.lt
      have c0 := hR.c0
      have c2 := hR.c2
      have z2 := hR.z2
      have HPS := Lib.hid hp
      obtain ⟨r, hr⟩ : ∃ r, r = S.drop p := ⟨_, rfl⟩
      rw [← hr] at RL RW ho hl
      have Hr := Lib.hid hr
      have HL1 := Lib.hid hl
      clear hR hT hp hr hl
      by_cases h0 : r.takeWhile isL = []
      · have hoo : o = (0, r, p, 170) := by rw [ho]; unfold onL; rw [if_pos h0]
        have HOO := Lib.hid hoo
        have he : (bs (r.takeWhile isL)).toList.isEmpty = true := by rw [Lib.toList_data, bs_list, h0]; rfl
        obtain ⟨T, hTT⟩ : ∃ T, T = bs (r.takeWhile isL) := ⟨_, rfl⟩
        rw [← hTT] at RL he
        clear ho hoo hTT h0 RW hon
        go_wp2_with (fail)
        refine (RL.out _ (by (repeat' (first | (with_reducible assumption) | (with_reducible exact Below.refl _ _) | (with_reducible refine below_wov ?_ ?_ _) | (with_reducible refine below_drewN ?_ _) | (with_reducible refine Below.drew ?_) | (with_reducible refine Below.alloc ?_ ?_ _) | (with_reducible refine Below.setCell ?_ ?_ _) | (with_reducible exact Nat.le_refl _) | omega | (simp only [World.size_alloc, World.size_setCell, World.size_drew, Wov_size, World.heap_drewN]; omega))))).mono ?_; rintro e w' ⟨rfl, q1, rfl⟩
        go_wp2_with (fail)
        refine (syntax_any _ p).mono ?_; rintro e w' ⟨hb, ev, rfl, hev⟩
        go_wp2_with (fail)
        go_ret2
        refine ⟨HT.out.trans ((Turn.of (Below.trans (below_Wov wr q1) (hb.mono (by (first | omega | ((simp only [World.size_alloc, World.size_setCell, World.size_drew, Wov_size, World.heap_drewN, Array.size_append]) <;> omega)))))).mono HT.out.size), ev, by rw [HOO.out]; rfl, by rw [HOO.out]; exact hev.mono (by have := HT.out.size; (first | omega | ((simp only [World.size_alloc, World.size_setCell, World.size_drew, Wov_size, World.heap_drewN, Array.size_append]) <;> omega))), fun h => by rw [HOO.out] at h; simp at h⟩
      · have he : (bs (r.takeWhile isL)).toList.isEmpty = false := by
          rw [Lib.toList_data, bs_list]
          cases hh : r.takeWhile isL with
          | nil => exact absurd hh h0
          | cons => rfl
        have IX : Hid (∀ w' x, Below wr.heap.size wr w' → Calls Tryz.prog 56 #[.slice q N.length c, .string (bs x)] w' (Gives w' (.int .i64 (idxI N x)))) := fun w' x hb => index_any q c N x w' (SlK.below (SlS.turn HQ.out HT.out HQB.out) hb) (by omega)
        obtain ⟨T, hTT⟩ : ∃ T, T = bs (r.takeWhile isL) := ⟨_, rfl⟩
        rw [← hTT] at RL he
        obtain ⟨nm, hnm⟩ : ∃ nm, nm = r.takeWhile isW := ⟨_, rfl⟩
        rw [← hnm] at RW
        have IX1 := Lib.hid (fun w' hb => IX.out w' nm hb)
        obtain ⟨k, hk⟩ : ∃ k, k = idxI N nm := ⟨_, rfl⟩
        rw [← hk] at IX1
        obtain ⟨U, hU⟩ : ∃ U, U = bs nm := ⟨_, rfl⟩
        have hUz := bs_size nm
        rw [← hU] at RW IX1 hUz
        obtain ⟨d, hd⟩ : ∃ d, d = N.length := ⟨_, rfl⟩
        rw [← hd] at IX1
        have c0' := c0
        rw [← hd] at c0'
        by_cases hk0 : k < 0
        · have hoo : o = (0, r, p, 161) := by rw [ho]; unfold onL; rw [if_neg h0, ← hnm, ← hk, if_pos hk0]
          have HOO := Lib.hid hoo
          clear ho hoo hTT h0 hon hnm hk hU IX hUz c0 hd
          go_wp2_with (fail)
          refine (RL.out _ (by (repeat' (first | (with_reducible assumption) | (with_reducible exact Below.refl _ _) | (with_reducible refine below_wov ?_ ?_ _) | (with_reducible refine below_drewN ?_ _) | (with_reducible refine Below.drew ?_) | (with_reducible refine Below.alloc ?_ ?_ _) | (with_reducible refine Below.setCell ?_ ?_ _) | (with_reducible exact Nat.le_refl _) | omega | (simp only [World.size_alloc, World.size_setCell, World.size_drew, Wov_size, World.heap_drewN]; omega))))).mono ?_; rintro e w' ⟨rfl, q1, rfl⟩
          go_wp2_with (fail)
          refine (RW.out _ (by (repeat' (first | (with_reducible assumption) | (with_reducible exact Below.refl _ _) | (with_reducible refine below_wov ?_ ?_ _) | (with_reducible refine below_drewN ?_ _) | (with_reducible refine Below.drew ?_) | (with_reducible refine Below.alloc ?_ ?_ _) | (with_reducible refine Below.setCell ?_ ?_ _) | (with_reducible exact Nat.le_refl _) | omega | (simp only [World.size_alloc, World.size_setCell, World.size_drew, Wov_size, World.heap_drewN]; omega))))).mono ?_; rintro e w' ⟨rfl, q2, rfl⟩
          go_wp2_with (fail)
          refine (IX1.out _ (by (repeat' (first | (with_reducible assumption) | (with_reducible exact Below.refl _ _) | (with_reducible refine below_wov ?_ ?_ _) | (with_reducible refine below_drewN ?_ _) | (with_reducible refine Below.drew ?_) | (with_reducible refine Below.alloc ?_ ?_ _) | (with_reducible refine Below.setCell ?_ ?_ _) | (with_reducible exact Nat.le_refl _) | omega | (simp only [World.size_alloc, World.size_setCell, World.size_drew, Wov_size, World.heap_drewN]; omega))))).mono ?_; rintro e w' ⟨rfl, q3, rfl⟩
          go_wp2_with (fail)
          go_region_held3 (fun w' => w'.cell? ⟨B, 2, none⟩ = some (.int .i64 (p : Int)))
            ((simp [go_sem, *]))
            (fail)
          all_goals
            go_wp2_with (fail)
            go_ret2
            refine ⟨HT.out.trans ((Turn.of ?_).mono HT.out.size), _, by rw [HOO.out]; rfl, by rw [HOO.out]; exact .inr ⟨by simp, _, rfl, by (have := HT.out.size; (first | omega | ((simp only [World.size_alloc, World.size_setCell, World.size_drew, Wov_size, World.heap_drewN, Array.size_append]) <;> omega))), by simp [go_sem], by simp [go_sem], by simp [go_sem]⟩, fun h => by rw [HOO.out] at h; simp at h⟩
            (repeat' (first | (with_reducible assumption) | (with_reducible exact Below.refl _ _) | (with_reducible refine below_wov ?_ ?_ _) | (with_reducible refine below_drewN ?_ _) | (with_reducible refine Below.drew ?_) | (with_reducible refine Below.alloc ?_ ?_ _) | (with_reducible refine Below.setCell ?_ ?_ _) | (with_reducible exact Nat.le_refl _) | omega | (simp only [World.size_alloc, World.size_setCell, World.size_drew, Wov_size, World.heap_drewN]; omega)))
        · by_cases hkl : k ≤ last
          · have hoo : o = (0, r, p, 170) := by rw [ho]; unfold onL; rw [if_neg h0, ← hnm, ← hk, if_neg hk0, if_pos hkl]
            have HOO := Lib.hid hoo
            clear ho hoo hTT h0 hon hnm hk hU IX hUz c0 hd
            go_wp2_with (fail)
            refine (RL.out _ (by (repeat' (first | (with_reducible assumption) | (with_reducible exact Below.refl _ _) | (with_reducible refine below_wov ?_ ?_ _) | (with_reducible refine below_drewN ?_ _) | (with_reducible refine Below.drew ?_) | (with_reducible refine Below.alloc ?_ ?_ _) | (with_reducible refine Below.setCell ?_ ?_ _) | (with_reducible exact Nat.le_refl _) | omega | (simp only [World.size_alloc, World.size_setCell, World.size_drew, Wov_size, World.heap_drewN]; omega))))).mono ?_; rintro e w' ⟨rfl, q1, rfl⟩
            go_wp2_with (fail)
            refine (RW.out _ (by (repeat' (first | (with_reducible assumption) | (with_reducible exact Below.refl _ _) | (with_reducible refine below_wov ?_ ?_ _) | (with_reducible refine below_drewN ?_ _) | (with_reducible refine Below.drew ?_) | (with_reducible refine Below.alloc ?_ ?_ _) | (with_reducible refine Below.setCell ?_ ?_ _) | (with_reducible exact Nat.le_refl _) | omega | (simp only [World.size_alloc, World.size_setCell, World.size_drew, Wov_size, World.heap_drewN]; omega))))).mono ?_; rintro e w' ⟨rfl, q2, rfl⟩
            go_wp2_with (fail)
            refine (IX1.out _ (by (repeat' (first | (with_reducible assumption) | (with_reducible exact Below.refl _ _) | (with_reducible refine below_wov ?_ ?_ _) | (with_reducible refine below_drewN ?_ _) | (with_reducible refine Below.drew ?_) | (with_reducible refine Below.alloc ?_ ?_ _) | (with_reducible refine Below.setCell ?_ ?_ _) | (with_reducible exact Nat.le_refl _) | omega | (simp only [World.size_alloc, World.size_setCell, World.size_drew, Wov_size, World.heap_drewN]; omega))))).mono ?_; rintro e w' ⟨rfl, q3, rfl⟩
            go_wp2_with (fail)
            refine (syntax_any _ p).mono ?_; rintro e w' ⟨hb, ev, rfl, hev⟩
            go_wp2_with (fail)
            go_ret2
            refine ⟨HT.out.trans ((Turn.of (Below.trans ?_ (hb.mono (by (first | omega | ((simp only [World.size_alloc, World.size_setCell, World.size_drew, Wov_size, World.heap_drewN, Array.size_append]) <;> omega)))))).mono HT.out.size), ev, by rw [HOO.out]; rfl, by rw [HOO.out]; exact hev.mono (by have := HT.out.size; (first | omega | ((simp only [World.size_alloc, World.size_setCell, World.size_drew, Wov_size, World.heap_drewN, Array.size_append]) <;> omega))), fun h => by rw [HOO.out] at h; simp at h⟩
            (repeat' (first | (with_reducible assumption) | (with_reducible exact Below.refl _ _) | (with_reducible refine below_wov ?_ ?_ _) | (with_reducible refine below_drewN ?_ _) | (with_reducible refine Below.drew ?_) | (with_reducible refine Below.alloc ?_ ?_ _) | (with_reducible refine Below.setCell ?_ ?_ _) | (with_reducible exact Nat.le_refl _) | omega | (simp only [World.size_alloc, World.size_setCell, World.size_drew, Wov_size, World.heap_drewN]; omega)))
          · obtain ⟨hm, i2, i3, i4, _⟩ := idxI_lt (N := N) (x := nm) (by omega)
            obtain ⟨k', hk'⟩ : ∃ k', k' = N.idxOf nm := ⟨_, rfl⟩
            rw [← hk'] at i2 i3 i4
            have hkk : k = (k' : Int) := hk.trans i3
            have hk7 : k' ≤ 7 := by omega
            have hls := len_split (p := isW) r
            have hdl := drop_len (p := isW) r
            rw [← hnm] at hls hdl
            have hrp : r.length = S.length - p := by rw [Hr.out, List.length_drop]
            have hpp := HPS.out
            have hon2 : on < 2 ^ k' := by
              have : (last + 1).toNat ≤ k' := by omega
              exact Nat.lt_of_lt_of_le hon (Nat.pow_le_pow_right (by decide) this)
            have hdp : r.dropWhile isW = S.drop (p + nm.length) := by rw [← hdl, Hr.out, List.drop_drop]
            have MY : Hid (∀ w', RdI w' B (.slice q N.length c) (bs S) (p + nm.length) → Calls Tryz.prog 24 #[.pointer (some ⟨B, 0, none⟩), .string ⟨#[44]⟩] w' (fun e W' => e = .returned (.bool (decide ((r.dropWhile isW).head? = some 44))) ∧ stepC w' B (.slice q N.length c) (bs S) (if (r.dropWhile isW).head? = some 44 then p + nm.length + 1 else p + nm.length) W')) := fun w' hb => by
              have := may_any w' B (.slice q N.length c) S (p + nm.length) 44 hb (by omega) HSl.out
              rw [← hdp] at this; exact this
            have HK := Lib.hid hkk
            obtain ⟨ln, hln⟩ : ∃ ln, ln = nm.length := ⟨_, rfl⟩
            have hw1 : wrap64 ((p : Int) + (ln : Int)) = (p : Int) + (ln : Int) := by
              have := HSl.out
              exact wrap64_id (by omega) (by omega)
            rw [← hln] at hUz
            have kn0 : (0 : Int) ≤ k := by omega
            have kl0 : last < k := by omega
            have on0 : (0 : Int) ≤ (on : Int) := by omega
            have HO2 := Lib.hid ho
            have HNM := Lib.hid hnm
            have H00 := Lib.hid h0
            have HDP := Lib.hid hdp
            have HLS := Lib.hid hls
            have HON2 := Lib.hid hon2
            have HLN := Lib.hid hln
            have HKX := Lib.hid i2
            have HK7 := Lib.hid hk7
            have HRP := Lib.hid hrp
            have HKI : Hid (k = idxI N nm) := hk
            clear hk hkk ho hTT h0 hnm hU IX c0 hd hls hdl hrp hpp hdp hon hon2 hm i2 i3 i4 hk' hln hk7
            go_wp2_with (fail)
            refine (RL.out _ (by (repeat' (first | (with_reducible assumption) | (with_reducible exact Below.refl _ _) | (with_reducible refine below_wov ?_ ?_ _) | (with_reducible refine below_drewN ?_ _) | (with_reducible refine Below.drew ?_) | (with_reducible refine Below.alloc ?_ ?_ _) | (with_reducible refine Below.setCell ?_ ?_ _) | (with_reducible exact Nat.le_refl _) | omega | (simp only [World.size_alloc, World.size_setCell, World.size_drew, Wov_size, World.heap_drewN]; omega))))).mono ?_; rintro e w' ⟨rfl, q1, rfl⟩
            go_wp2_with (fail)
            refine (RW.out _ (by (repeat' (first | (with_reducible assumption) | (with_reducible exact Below.refl _ _) | (with_reducible refine below_wov ?_ ?_ _) | (with_reducible refine below_drewN ?_ _) | (with_reducible refine Below.drew ?_) | (with_reducible refine Below.alloc ?_ ?_ _) | (with_reducible refine Below.setCell ?_ ?_ _) | (with_reducible exact Nat.le_refl _) | omega | (simp only [World.size_alloc, World.size_setCell, World.size_drew, Wov_size, World.heap_drewN]; omega))))).mono ?_; rintro e w' ⟨rfl, q2, rfl⟩
            go_wp2_with (fail)
            refine (IX1.out _ (by (repeat' (first | (with_reducible assumption) | (with_reducible exact Below.refl _ _) | (with_reducible refine below_wov ?_ ?_ _) | (with_reducible refine below_drewN ?_ _) | (with_reducible refine Below.drew ?_) | (with_reducible refine Below.alloc ?_ ?_ _) | (with_reducible refine Below.setCell ?_ ?_ _) | (with_reducible exact Nat.le_refl _) | omega | (simp only [World.size_alloc, World.size_setCell, World.size_drew, Wov_size, World.heap_drewN]; omega))))).mono ?_; rintro e w' ⟨rfl, q3, rfl⟩
            go_wp2_with (fail)
            refine (MY.out _ ?_).mono ?_
            · have := RdI.move (HR.out.below (V := Wov wr { bl := q1.bl ++ (q2.bl ++ q3.bl), dr := q3.dr }) (below_Wov _ _)) (p + nm.length)
              rw [← HLN.out] at this ⊢
              exact this
            rintro e W' ⟨rfl, hst1, hst2⟩
            have hT3 : Turn W.heap.size B W W' := HT.out.trans (((Turn.of (below_Wov wr { bl := q1.bl ++ (q2.bl ++ q3.bl), dr := q3.dr })).put 2 (.int .i64 ((p : Int) + (ln : Int)))).mono HT.out.size |>.trans (hst2.mono (by rw [World.size_setCell, Wov_size]; have := HT.out.size; omega)))
            have HT3 := Lib.hid hT3
            have HS1 := Lib.hid hst1
            have hbit := bit_or on k k' HK.out HK7.out HON2.out
            have hpw : on + 2 ^ k' < 2 ^ (k' + 1) := by have := HON2.out; rw [Nat.pow_succ]; omega
            have hln2 := HLN.out
            have hpl := HPS.out
            have hls := HLS.out
            have hrp := HRP.out
            clear hT3 hst1 hst2
            by_cases hh : (r.dropWhile isW).head? = some 44
            · have hoo : o = onL N g (r.dropWhile isW).tail (p + nm.length + 1) k (on + 2 ^ k') := by
                rw [HO2.out]; conv => lhs; unfold onL
                rw [if_neg H00.out, ← HNM.out, ← HKI.out, if_neg (Int.not_lt.2 kn0), if_neg (Int.not_le.2 kl0), if_pos hh, show k.toNat = k' by rw [HK.out, Int.toNat_natCast]]
              have HOO := Lib.hid hoo
              have HH := Lib.hid hh
              rw [if_pos hh] at HS1
              rw [decide_eq_true hh]
              have hnl : (r.dropWhile isW).length = (r.dropWhile isW).tail.length + 1 := by
                cases hd : r.dropWhile isW with
                | nil => rw [hd] at hh; cases hh
                | cons c z => rfl
              have htl : (r.dropWhile isW).tail = S.drop (p + nm.length + 1) := by rw [HDP.out, List.tail_drop]
              have HTL := Lib.hid htl
              have hlg : (r.dropWhile isW).tail.length < g := by have := HL1.out; omega
              have HLG := Lib.hid hlg
              have hp2 : p + nm.length + 1 ≤ S.length := by omega
              have hk8 : k < 8 := by have := HK.out; have := HK7.out; omega
              have hkt : (k + 1).toNat = k' + 1 := by have := HK.out; omega
              have HB := Lib.hid hbit
              have HPW := Lib.hid hpw
              have HKT := Lib.hid hkt
              clear hoo hh hnl htl hlg hbit hpw hln2 hls hrp hkt
              go_wp2_with (fail)
              go_roundg g
              case measure => omega
              case rel =>
                exact ⟨p + nm.length + 1, k, on + 2 ^ k', by rw [HB.out], rfl, HS1.out, HT3.out, hp2, by rw [← HTL.out]; exact HOO.out, by rw [← HTL.out]; exact HLG.out, by omega, hk8, by rw [HKT.out]; exact HPW.out⟩
            · have hoo : o = (on + 2 ^ k', r.dropWhile isW, p + nm.length, 0) := by
                rw [HO2.out]; conv => lhs; unfold onL
                rw [if_neg H00.out, ← HNM.out, ← HKI.out, if_neg (Int.not_lt.2 kn0), if_neg (Int.not_le.2 kl0), if_neg hh, show k.toNat = k' by rw [HK.out, Int.toNat_natCast]]
              have HOO := Lib.hid hoo
              rw [if_neg hh] at HS1
              rw [decide_eq_false hh]
              have hp2 : p + nm.length ≤ S.length := by omega
              have HB := Lib.hid hbit
              clear hoo hh hbit hpw hln2 hls hrp
              go_wp2_with (fail)
              go_ret2
              refine ⟨HT3.out, .nilIface, by rw [HOO.out]; exact congrArg (fun x => Ending.returned (.tuple #[.int .u8 x, .nilIface])) HB.out, by rw [HOO.out]; exact .inl ⟨rfl, rfl⟩, fun _ => ?_⟩
              rw [HOO.out]
              exact ⟨HS1.out, HDP.out, hp2⟩
#print axioms on_any
end Go.Proofs.YtccbhblklhmcpaaGreatDoor
