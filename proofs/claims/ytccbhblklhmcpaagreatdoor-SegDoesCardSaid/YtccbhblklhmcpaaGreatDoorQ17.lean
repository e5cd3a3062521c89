/- lex's cutter: contract of (*cutter).sign, whatever stands before. No condition but on the count of tokens. -/
import Derived.Test.YtccbhblklhmcpaaGreatDoorQ16
namespace Go.Proofs.YtccbhblklhmcpaaGreatDoor
set_option linter.unusedSimpArgs false
set_option linter.unusedVariables false
open Go Go.RowKit Go.Shelf
attribute [local go_sem] Nat.add_assoc Nat.add_lt_add_iff_left lit_lt_add

theorem CutI.rowed {nb : Nat} {W : World} {B : Nat} {S : ByteArray} {f : Int} {v : Value} {l l' : List Tk} (h : CutI nb W B S f v l) {g o : Nat} (hg : nb ≤ g) (u : Value) (hr : RowK tkD nb (W.setCell ⟨g, o, none⟩ u) v l') : CutI nb (W.setCell ⟨g, o, none⟩ u) B S f v l' := by
  have ne : ∀ x, (⟨g, o, none⟩ : Addr) ≠ ⟨B, x, none⟩ := fun x e => by injection e with e1; have := h.ln; omega
  refine ⟨by rw [World.size_setCell]; exact h.lt, h.ln, by rw [World.size_setCell]; exact h.nz, ?_, ?_, ?_, ?_, ?_, ?_, hr⟩
  · exact (World.cell?_setCell_other _ _ _ _ (ne 0)).trans h.c0
  · exact (World.cell?_setCell_other _ _ _ _ (ne 1)).trans h.c1
  · exact (World.cell?_setCell_other _ _ _ _ (ne 2)).trans h.c2
  · rw [World.frozen?_setCell]; exact h.z0
  · rw [World.frozen?_setCell]; exact h.z1
  · rw [World.frozen?_setCell]; exact h.z2
set_option maxRecDepth 10000 in
set_option maxHeartbeats 4000000 in
theorem sign_m1 (nb : Nat) (W : World) (B : Nat) (S : ByteArray) (f : Int) (v : Value) (l : List Tk) (c : UInt8) (i : Nat) (x : Int) (hx : x = c.toNat) (hI : CutI nb W B S f v l) (hl : l.length ≤ 10000) (hc : c.toNat < 128) (hi : i ≤ 100000) (m : Nat) (hm : l.length = m + 1) (h1 : x = 124) (t : Tk) (ht : l[m]? = some t) (h2 : (t.kind : Int) = 3) (h3 : t.text = [c]) (h4 : (t.at_ : Int) = (i : Int) - 1) :
    Calls Tryz.prog 67 #[.pointer (some ⟨B, 0, none⟩), .int .i32 x, .int .i64 i] W (signC nb W B S f (l.set m ⟨3, [c, c], t.at_⟩)) := by
  have hlt := hI.lt
  have c1 := hI.c1
  have hcv : ∀ w', (convert 21 9 (.int .i32 x)).run Tryz.prog w' = .ok (.string (bs [c])) w' := fun w' => (run_convert_int_string (P := Tryz.prog) w' 21 9 .i32 x (by kernel_rfl) Tryz.underlying9).trans (by rw [hx, encode_ascii c hc])
  obtain ⟨g, cp, hv, hBg, hgl, k0, k1, k2, kz⟩ := hI.row.last ht
  have HI := Lib.hid hI
  have HV := Lib.hid hv
  rw [hm] at hv
  rw [hv] at c1
  rw [h3] at k1
  have HT : Hid (tkD.enc ⟨3, [c, c], t.at_⟩ = (tkD.enc t).set 1 (.string (bs [c] ++ bs [c]))) := by
    show [_, _, _] = _
    have e : (3 : Nat) = t.kind := by omega
    rw [bs_app, e]; rfl
  obtain ⟨C, hC⟩ : ∃ C, C = bs [c] := ⟨_, rfl⟩
  have e1 : (([c] : List UInt8) = C.toList) = True := by rw [hC, Lib.toList_data, bs_list]; simp
  have hsC : C.size = 1 := by rw [hC]; rfl
  have hsL : C.toList.length = 1 := by rw [hC, Lib.toList_data, bs_list]; rfl
  have e2 : (C.toList == C.toList) = true := by simp
  rw [← hC] at hcv k1 HT
  have hw : wrap64 (((m + 1 : Nat) : Int) - 1) = (m : Int) := by rw [wrap64_id (by omega) (by omega)]; omega
  have hw2 : wrap64 ((i : Int) - 1) = (i : Int) - 1 := wrap64_id (by omega) (by omega)
  have m0 : (0 : Int) ≤ (m : Int) := by omega
  have HTm := Lib.hid ht
  clear hI hC hx hv hc ht
  subst h1
  go_enter Tryz.func67, Tryz.ntmps67
  go_wp2_with (fail)
  all_goals
    go_end0
    refine ⟨rfl, (Turn.of (Below.refl _ _)).set (.inr hBg) _, v, HI.out.rowed hBg _ ?_⟩
    have := RowK.setAt tkD_ok (j := 1) (by rw [← HV.out]; exact HI.out.row) HTm.out (by decide) HT.out
    rw [HV.out]
    exact this
set_option maxRecDepth 10000 in
set_option maxHeartbeats 4000000 in
theorem sign_m2 (nb : Nat) (W : World) (B : Nat) (S : ByteArray) (f : Int) (v : Value) (l : List Tk) (c : UInt8) (i : Nat) (x : Int) (hx : x = c.toNat) (hI : CutI nb W B S f v l) (hl : l.length ≤ 10000) (hc : c.toNat < 128) (hi : i ≤ 100000) (m : Nat) (hm : l.length = m + 1) (h1 : x = 38) (t : Tk) (ht : l[m]? = some t) (h2 : (t.kind : Int) = 3) (h3 : t.text = [c]) (h4 : (t.at_ : Int) = (i : Int) - 1) :
    Calls Tryz.prog 67 #[.pointer (some ⟨B, 0, none⟩), .int .i32 x, .int .i64 i] W (signC nb W B S f (l.set m ⟨3, [c, c], t.at_⟩)) := by
  have hlt := hI.lt
  have c1 := hI.c1
  have hcv : ∀ w', (convert 21 9 (.int .i32 x)).run Tryz.prog w' = .ok (.string (bs [c])) w' := fun w' => (run_convert_int_string (P := Tryz.prog) w' 21 9 .i32 x (by kernel_rfl) Tryz.underlying9).trans (by rw [hx, encode_ascii c hc])
  obtain ⟨g, cp, hv, hBg, hgl, k0, k1, k2, kz⟩ := hI.row.last ht
  have HI := Lib.hid hI
  have HV := Lib.hid hv
  rw [hm] at hv
  rw [hv] at c1
  rw [h3] at k1
  have HT : Hid (tkD.enc ⟨3, [c, c], t.at_⟩ = (tkD.enc t).set 1 (.string (bs [c] ++ bs [c]))) := by
    show [_, _, _] = _
    have e : (3 : Nat) = t.kind := by omega
    rw [bs_app, e]; rfl
  obtain ⟨C, hC⟩ : ∃ C, C = bs [c] := ⟨_, rfl⟩
  have e1 : (([c] : List UInt8) = C.toList) = True := by rw [hC, Lib.toList_data, bs_list]; simp
  have hsC : C.size = 1 := by rw [hC]; rfl
  have hsL : C.toList.length = 1 := by rw [hC, Lib.toList_data, bs_list]; rfl
  have e2 : (C.toList == C.toList) = true := by simp
  rw [← hC] at hcv k1 HT
  have hw : wrap64 (((m + 1 : Nat) : Int) - 1) = (m : Int) := by rw [wrap64_id (by omega) (by omega)]; omega
  have hw2 : wrap64 ((i : Int) - 1) = (i : Int) - 1 := wrap64_id (by omega) (by omega)
  have m0 : (0 : Int) ≤ (m : Int) := by omega
  have HTm := Lib.hid ht
  clear hI hC hx hv hc ht
  subst h1
  go_enter Tryz.func67, Tryz.ntmps67
  go_wp2_with (fail)
  all_goals
    go_end0
    refine ⟨rfl, (Turn.of (Below.refl _ _)).set (.inr hBg) _, v, HI.out.rowed hBg _ ?_⟩
    have := RowK.setAt tkD_ok (j := 1) (by rw [← HV.out]; exact HI.out.row) HTm.out (by decide) HT.out
    rw [HV.out]
    exact this
theorem set_last : ∀ (l : List Tk) (m : Nat) (y : Tk), l.length = m + 1 → l.set m y = l.dropLast ++ [y]
  | [], m, y, h => by simp at h
  | [x], m, y, h => by
    obtain rfl : m = 0 := by simp at h; omega
    rfl
  | x :: z :: l, m, y, h => by
    cases m with
    | zero => simp at h
    | succ m => rw [List.set_cons_succ, set_last (z :: l) m y (by simpa using h)]; rfl
theorem sign_any (nb : Nat) (W : World) (B : Nat) (S : ByteArray) (f : Int) (v : Value) (l : List Tk) (c : UInt8) (i : Nat) (hI : CutI nb W B S f v l) (hl : l.length ≤ 10000) (hc : c.toNat < 128) (hi : i ≤ 100000) :
    Calls Tryz.prog 67 #[.pointer (some ⟨B, 0, none⟩), .int .i32 c.toNat, .int .i64 i] W (signC nb W B S f (addSign l c i)) := by
  have hcx : ∀ k : Nat, k < 256 → (c = UInt8.ofNat k ↔ (c.toNat : Int) = k) := fun k hk => by
    rw [← UInt8.toNat_inj, UInt8.toNat_ofNat', Nat.mod_eq_of_lt hk]; omega
  have h124 := hcx 124 (by omega)
  have h38 := hcx 38 (by omega)
  cases hg : l.getLast? with
  | none =>
    have h0 : l = [] := List.getLast?_eq_none_iff.1 hg
    have e : addSign l c i = l ++ [⟨3, [c], i⟩] := by unfold addSign; rw [hg, h0]; rfl
    rw [e]
    exact sign_none nb W B S f v l c i _ rfl hI hl hc hi h0
  | some t =>
    obtain ⟨m, hm⟩ : ∃ m, l.length = m + 1 := by
      cases l with
      | nil => cases hg
      | cons x r => exact ⟨r.length, rfl⟩
    have ht : l[m]? = some t := by
      rw [List.getLast?_eq_getElem?, hm] at hg; exact hg
    have e0 : addSign l c i = if (c = 124 ∨ c = 38) ∧ t.kind = 3 ∧ t.text = [c] ∧ t.at_ + 1 = i then l.set m ⟨3, [c, c], t.at_⟩ else l ++ [⟨3, [c], i⟩] := by
      unfold addSign; rw [hg, set_last l m _ hm]
    rw [e0]
    by_cases hcc : c = 124 ∨ c = 38
    · by_cases k2 : t.kind = 3
      · by_cases k3 : t.text = [c]
        · by_cases k4 : t.at_ + 1 = i
          · rw [if_pos ⟨hcc, k2, k3, k4⟩]
            rcases hcc with h | h
            · exact sign_m1 nb W B S f v l c i _ rfl hI hl hc hi m hm (h124.1 h) t ht (by omega) k3 (by omega)
            · exact sign_m2 nb W B S f v l c i _ rfl hI hl hc hi m hm (h38.1 h) t ht (by omega) k3 (by omega)
          · rw [if_neg (fun h => k4 h.2.2.2)]
            rcases hcc with h | h
            · exact sign_a1 nb W B S f v l c i _ rfl hI hl hc hi m hm (h124.1 h) t ht (by omega) k3 (by omega)
            · exact sign_a2 nb W B S f v l c i _ rfl hI hl hc hi m hm (h38.1 h) t ht (by omega) k3 (by omega)
        · rw [if_neg (fun h => k3 h.2.2.1)]
          rcases hcc with h | h
          · exact sign_t1 nb W B S f v l c i _ rfl hI hl hc hi m hm (h124.1 h) t ht (by omega) k3
          · exact sign_t2 nb W B S f v l c i _ rfl hI hl hc hi m hm (h38.1 h) t ht (by omega) k3
      · rw [if_neg (fun h => k2 h.2.1)]
        rcases hcc with h | h
        · exact sign_k1 nb W B S f v l c i _ rfl hI hl hc hi m hm (h124.1 h) t ht (by omega)
        · exact sign_k2 nb W B S f v l c i _ rfl hI hl hc hi m hm (h38.1 h) t ht (by omega)
    · rw [if_neg (fun h => hcc h.1)]
      exact sign_plain nb W B S f v l c i _ rfl hI hl hc hi m hm (fun h => hcc (.inl (h124.2 h))) (fun h => hcc (.inr (h38.2 h)))
#print axioms sign_any
end Go.Proofs.YtccbhblklhmcpaaGreatDoor
