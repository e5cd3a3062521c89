/- lex's cutter: contract of (*cutter).sign. No condition but on the count of tokens. -/
import Derived.Test.YtccbhblklhmcpaaGreatDoorQ15
namespace Go.Proofs.YtccbhblklhmcpaaGreatDoor
set_option linter.unusedSimpArgs false
set_option linter.unusedVariables false
open Go Go.RowKit Go.Shelf
attribute [local go_sem] Nat.add_assoc Nat.add_lt_add_iff_left lit_lt_add

/-- What (*cutter).sign leaves. -/
def signC (nb : Nat) (W : World) (B : Nat) (S : ByteArray) (f : Int) (l' : List Tk) (e : Ending) (W' : World) : Prop := e = .returned (.tuple #[]) ∧ Turn nb B W W' ∧ ∃ v', CutI nb W' B S f v' l'
set_option maxRecDepth 10000 in
set_option maxHeartbeats 4000000 in
theorem sign_none (nb : Nat) (W : World) (B : Nat) (S : ByteArray) (f : Int) (v : Value) (l : List Tk) (c : UInt8) (i : Nat) (x : Int) (hx : x = c.toNat) (hI : CutI nb W B S f v l) (hl : l.length ≤ 10000) (hc : c.toNat < 128) (hi : i ≤ 100000) (h0 : l = []) :
    Calls Tryz.prog 67 #[.pointer (some ⟨B, 0, none⟩), .int .i32 x, .int .i64 i] W (signC nb W B S f (l ++ [⟨3, [c], i⟩])) := by
  have hlt := hI.lt
  have hln := hI.ln
  have hnz := hI.nz
  have c1 := hI.c1
  have HI := Lib.hid hI
  have hcv : ∀ w', (convert 21 9 (.int .i32 x)).run Tryz.prog w' = .ok (.string (bs [c])) w' := fun w' => (run_convert_int_string (P := Tryz.prog) w' 21 9 .i32 x (by kernel_rfl) Tryz.underlying9).trans (by rw [hx, encode_ascii c hc])
  have HNE : Hid (v.ownBlock ≠ some B) := fun e => by have := (hI.row.own_lt B e).1; omega
  have HROW := Lib.hid hI.row
  obtain ⟨C, hC⟩ : ∃ C, C = bs [c] := ⟨_, rfl⟩
  rw [← hC] at hcv
  have HC := Lib.hid hC
  obtain ⟨p, cp, hv, _, _, _⟩ := RowK.sl tkD_ok hI.row
  rw [h0] at hv
  rw [hv] at c1 HROW HNE
  clear hI hC hx h0 hv hc
  go_enter Tryz.func67, Tryz.ntmps67
  go_wp2_with (at_builtin; refine wpList_appK tkD_ok _ nb rfl (.tmp 55) (.tmp 60) rfl rfl _ l [⟨3, [c], i⟩] rfl (HROW.out.below (by (repeat' (first | (with_reducible assumption) | (with_reducible exact Below.refl _ _) | (with_reducible refine below_wov ?_ ?_ _) | (with_reducible refine below_drewN ?_ _) | (with_reducible refine Below.drew ?_) | (with_reducible refine Below.alloc ?_ ?_ _) | (with_reducible refine Below.setCell ?_ ?_ _) | (with_reducible exact Nat.le_refl _) | omega | (simp only [World.size_alloc, World.size_setCell, World.size_drew, Wov_size, World.heap_drewN]; omega))))) (some ⟨_, 0, none⟩) 1 rfl (by intro h; cases h) ?hR (by simp; omega) (by (first | omega | ((simp only [World.size_alloc, World.size_setCell, World.size_drew, Wov_size, World.heap_drewN, Array.size_append]) <;> omega))) ?_; (case hR => (refine SlK.one (by (first | omega | ((simp only [World.size_alloc, World.size_setCell, World.size_drew, Wov_size, World.heap_drewN, Array.size_append]) <;> omega))) (fun j u hu => ?_); have hj : j < 3 := (by have := (List.getElem?_eq_some_iff.1 hu).1; exact this); rcases (show j = 0 ∨ j = 1 ∨ j = 2 by omega) with rfl | rfl | rfl <;> (injection hu with hu; subst hu; simp [go_sem, HC.out]))); intro v1 w1 ho1 hg1; obtain ⟨p1, cp1, rfl, _, _, _⟩ := RowK.sl tkD_ok ho1; have hne := HNE.out; have hgo := grown_old hg1 (X := W) (by (repeat' (first | (with_reducible assumption) | (with_reducible exact Below.refl _ _) | (with_reducible refine below_wov ?_ ?_ _) | (with_reducible refine below_drewN ?_ _) | (with_reducible refine Below.drew ?_) | (with_reducible refine Below.alloc ?_ ?_ _) | (with_reducible refine Below.setCell ?_ ?_ _) | (with_reducible exact Nat.le_refl _) | omega | (simp only [World.size_alloc, World.size_setCell, World.size_drew, Wov_size, World.heap_drewN]; omega)))) hlt hne; have g0 := (hgo 0).1.trans HI.out.c0; have g1 := (hgo 1).1.trans HI.out.c1; have g2 := (hgo 2).1.trans HI.out.c2; have f0 := (hgo 0).2.trans HI.out.z0; have f1 := (hgo 1).2.trans HI.out.z1; have f2 := (hgo 2).2.trans HI.out.z2; have hb1 : Below nb W w1 := (by refine Below.trans ?_ (RowK.grown (HROW.out.below (by (repeat' (first | (with_reducible assumption) | (with_reducible exact Below.refl _ _) | (with_reducible refine below_wov ?_ ?_ _) | (with_reducible refine below_drewN ?_ _) | (with_reducible refine Below.drew ?_) | (with_reducible refine Below.alloc ?_ ?_ _) | (with_reducible refine Below.setCell ?_ ?_ _) | (with_reducible exact Nat.le_refl _) | omega | (simp only [World.size_alloc, World.size_setCell, World.size_drew, Wov_size, World.heap_drewN]; omega))))) (Below.refl _ _) hg1 (by (first | omega | ((simp only [World.size_alloc, World.size_setCell, World.size_drew, Wov_size, World.heap_drewN, Array.size_append]) <;> omega)))); (repeat' (first | (with_reducible assumption) | (with_reducible exact Below.refl _ _) | (with_reducible refine below_wov ?_ ?_ _) | (with_reducible refine below_drewN ?_ _) | (with_reducible refine Below.drew ?_) | (with_reducible refine Below.alloc ?_ ?_ _) | (with_reducible refine Below.setCell ?_ ?_ _) | (with_reducible exact Nat.le_refl _) | omega | (simp only [World.size_alloc, World.size_setCell, World.size_drew, Wov_size, World.heap_drewN]; omega)))); have hs1 := hb1.size; have HO := Lib.hid ho1; clear ho1 hg1 hgo)
  all_goals
    go_end0
    have hBW : Turn nb B W w1 := Turn.of hb1
    have ho2 := HO.out
    simp only [List.length_append, List.length_cons, List.length_nil, Nat.zero_add] at ho2
    first
    | exact ⟨rfl, hBW.set (.inl rfl) _, _, CutI.put (by omega) hln (by omega) g0 g1 g2 f0 f1 f2 ho2⟩
    | (rw [hm] at ho2
       exact ⟨rfl, hBW.set (.inl rfl) _, _, CutI.put (by omega) hln (by omega) g0 g1 g2 f0 f1 f2 ho2⟩)
set_option maxRecDepth 10000 in
set_option maxHeartbeats 4000000 in
theorem sign_plain (nb : Nat) (W : World) (B : Nat) (S : ByteArray) (f : Int) (v : Value) (l : List Tk) (c : UInt8) (i : Nat) (x : Int) (hx : x = c.toNat) (hI : CutI nb W B S f v l) (hl : l.length ≤ 10000) (hc : c.toNat < 128) (hi : i ≤ 100000) (m : Nat) (hm : l.length = m + 1) (h1 : x ≠ 124) (h2 : x ≠ 38) :
    Calls Tryz.prog 67 #[.pointer (some ⟨B, 0, none⟩), .int .i32 x, .int .i64 i] W (signC nb W B S f (l ++ [⟨3, [c], i⟩])) := by
  have hlt := hI.lt
  have hln := hI.ln
  have hnz := hI.nz
  have c1 := hI.c1
  have HI := Lib.hid hI
  have hcv : ∀ w', (convert 21 9 (.int .i32 x)).run Tryz.prog w' = .ok (.string (bs [c])) w' := fun w' => (run_convert_int_string (P := Tryz.prog) w' 21 9 .i32 x (by kernel_rfl) Tryz.underlying9).trans (by rw [hx, encode_ascii c hc])
  have HNE : Hid (v.ownBlock ≠ some B) := fun e => by have := (hI.row.own_lt B e).1; omega
  have HROW := Lib.hid hI.row
  obtain ⟨C, hC⟩ : ∃ C, C = bs [c] := ⟨_, rfl⟩
  rw [← hC] at hcv
  have HC := Lib.hid hC
  obtain ⟨p, cp, hv, _, _, _⟩ := RowK.sl tkD_ok hI.row
  rw [hm] at hv
  rw [hv] at c1 HROW HNE
  have d1 : (x == 124) = false := by rw [beq_eq_false_iff_ne]; exact h1
  have d2 : (x == 38) = false := by rw [beq_eq_false_iff_ne]; exact h2
  have hw : wrap64 (((m + 1 : Nat) : Int) - 1) = (m : Int) := by rw [wrap64_id (by omega) (by omega)]; omega
  have m0 : (0 : Int) ≤ (m : Int) := by omega
  clear hI hC hx hv hc h1 h2
  go_enter Tryz.func67, Tryz.ntmps67
  go_wp2_with (at_builtin; refine wpList_appK tkD_ok _ nb rfl (.tmp 55) (.tmp 60) rfl rfl _ l [⟨3, [c], i⟩] rfl (HROW.out.below (by (repeat' (first | (with_reducible assumption) | (with_reducible exact Below.refl _ _) | (with_reducible refine below_wov ?_ ?_ _) | (with_reducible refine below_drewN ?_ _) | (with_reducible refine Below.drew ?_) | (with_reducible refine Below.alloc ?_ ?_ _) | (with_reducible refine Below.setCell ?_ ?_ _) | (with_reducible exact Nat.le_refl _) | omega | (simp only [World.size_alloc, World.size_setCell, World.size_drew, Wov_size, World.heap_drewN]; omega))))) (some ⟨_, 0, none⟩) 1 rfl (by intro h; cases h) ?hR (by simp; omega) (by (first | omega | ((simp only [World.size_alloc, World.size_setCell, World.size_drew, Wov_size, World.heap_drewN, Array.size_append]) <;> omega))) ?_; (case hR => (refine SlK.one (by (first | omega | ((simp only [World.size_alloc, World.size_setCell, World.size_drew, Wov_size, World.heap_drewN, Array.size_append]) <;> omega))) (fun j u hu => ?_); have hj : j < 3 := (by have := (List.getElem?_eq_some_iff.1 hu).1; exact this); rcases (show j = 0 ∨ j = 1 ∨ j = 2 by omega) with rfl | rfl | rfl <;> (injection hu with hu; subst hu; simp [go_sem, HC.out]))); intro v1 w1 ho1 hg1; obtain ⟨p1, cp1, rfl, _, _, _⟩ := RowK.sl tkD_ok ho1; have hne := HNE.out; have hgo := grown_old hg1 (X := W) (by (repeat' (first | (with_reducible assumption) | (with_reducible exact Below.refl _ _) | (with_reducible refine below_wov ?_ ?_ _) | (with_reducible refine below_drewN ?_ _) | (with_reducible refine Below.drew ?_) | (with_reducible refine Below.alloc ?_ ?_ _) | (with_reducible refine Below.setCell ?_ ?_ _) | (with_reducible exact Nat.le_refl _) | omega | (simp only [World.size_alloc, World.size_setCell, World.size_drew, Wov_size, World.heap_drewN]; omega)))) hlt hne; have g0 := (hgo 0).1.trans HI.out.c0; have g1 := (hgo 1).1.trans HI.out.c1; have g2 := (hgo 2).1.trans HI.out.c2; have f0 := (hgo 0).2.trans HI.out.z0; have f1 := (hgo 1).2.trans HI.out.z1; have f2 := (hgo 2).2.trans HI.out.z2; have hb1 : Below nb W w1 := (by refine Below.trans ?_ (RowK.grown (HROW.out.below (by (repeat' (first | (with_reducible assumption) | (with_reducible exact Below.refl _ _) | (with_reducible refine below_wov ?_ ?_ _) | (with_reducible refine below_drewN ?_ _) | (with_reducible refine Below.drew ?_) | (with_reducible refine Below.alloc ?_ ?_ _) | (with_reducible refine Below.setCell ?_ ?_ _) | (with_reducible exact Nat.le_refl _) | omega | (simp only [World.size_alloc, World.size_setCell, World.size_drew, Wov_size, World.heap_drewN]; omega))))) (Below.refl _ _) hg1 (by (first | omega | ((simp only [World.size_alloc, World.size_setCell, World.size_drew, Wov_size, World.heap_drewN, Array.size_append]) <;> omega)))); (repeat' (first | (with_reducible assumption) | (with_reducible exact Below.refl _ _) | (with_reducible refine below_wov ?_ ?_ _) | (with_reducible refine below_drewN ?_ _) | (with_reducible refine Below.drew ?_) | (with_reducible refine Below.alloc ?_ ?_ _) | (with_reducible refine Below.setCell ?_ ?_ _) | (with_reducible exact Nat.le_refl _) | omega | (simp only [World.size_alloc, World.size_setCell, World.size_drew, Wov_size, World.heap_drewN]; omega)))); have hs1 := hb1.size; have HO := Lib.hid ho1; clear ho1 hg1 hgo)
  all_goals
    go_end0
    have hBW : Turn nb B W w1 := Turn.of hb1
    have ho2 := HO.out
    simp only [List.length_append, List.length_cons, List.length_nil, Nat.zero_add] at ho2
    first
    | exact ⟨rfl, hBW.set (.inl rfl) _, _, CutI.put (by omega) hln (by omega) g0 g1 g2 f0 f1 f2 ho2⟩
    | (rw [hm] at ho2
       exact ⟨rfl, hBW.set (.inl rfl) _, _, CutI.put (by omega) hln (by omega) g0 g1 g2 f0 f1 f2 ho2⟩)
set_option maxRecDepth 10000 in
set_option maxHeartbeats 4000000 in
theorem sign_k1 (nb : Nat) (W : World) (B : Nat) (S : ByteArray) (f : Int) (v : Value) (l : List Tk) (c : UInt8) (i : Nat) (x : Int) (hx : x = c.toNat) (hI : CutI nb W B S f v l) (hl : l.length ≤ 10000) (hc : c.toNat < 128) (hi : i ≤ 100000) (m : Nat) (hm : l.length = m + 1) (h1 : x = 124) (t : Tk) (ht : l[m]? = some t) (h2 : ¬ (t.kind : Int) = 3) :
    Calls Tryz.prog 67 #[.pointer (some ⟨B, 0, none⟩), .int .i32 x, .int .i64 i] W (signC nb W B S f (l ++ [⟨3, [c], i⟩])) := by
  have hlt := hI.lt
  have hln := hI.ln
  have hnz := hI.nz
  have c1 := hI.c1
  have HI := Lib.hid hI
  have hcv : ∀ w', (convert 21 9 (.int .i32 x)).run Tryz.prog w' = .ok (.string (bs [c])) w' := fun w' => (run_convert_int_string (P := Tryz.prog) w' 21 9 .i32 x (by kernel_rfl) Tryz.underlying9).trans (by rw [hx, encode_ascii c hc])
  have HNE : Hid (v.ownBlock ≠ some B) := fun e => by have := (hI.row.own_lt B e).1; omega
  have HROW := Lib.hid hI.row
  obtain ⟨C, hC⟩ : ∃ C, C = bs [c] := ⟨_, rfl⟩
  rw [← hC] at hcv
  have HC := Lib.hid hC
  obtain ⟨g, cp, hv, _, hgl, k0, k1, k2, kz⟩ := hI.row.last ht
  rw [hm] at hv
  rw [hv] at c1 HROW HNE
  have hw : wrap64 (((m + 1 : Nat) : Int) - 1) = (m : Int) := by rw [wrap64_id (by omega) (by omega)]; omega
  have m0 : (0 : Int) ≤ (m : Int) := by omega
  have e1 : (t.text = C.toList) = (t.text = [c]) := by rw [hC, Lib.toList_data, bs_list]
  have hsC : C.size = 1 := by rw [hC]; rfl
  clear hI hC hx hv hc
  subst h1
  go_enter Tryz.func67, Tryz.ntmps67
  go_wp2_with (at_builtin; refine wpList_appK tkD_ok _ nb rfl (.tmp 55) (.tmp 60) rfl rfl _ l [⟨3, [c], i⟩] rfl (HROW.out.below (by (repeat' (first | (with_reducible assumption) | (with_reducible exact Below.refl _ _) | (with_reducible refine below_wov ?_ ?_ _) | (with_reducible refine below_drewN ?_ _) | (with_reducible refine Below.drew ?_) | (with_reducible refine Below.alloc ?_ ?_ _) | (with_reducible refine Below.setCell ?_ ?_ _) | (with_reducible exact Nat.le_refl _) | omega | (simp only [World.size_alloc, World.size_setCell, World.size_drew, Wov_size, World.heap_drewN]; omega))))) (some ⟨_, 0, none⟩) 1 rfl (by intro h; cases h) ?hR (by simp; omega) (by (first | omega | ((simp only [World.size_alloc, World.size_setCell, World.size_drew, Wov_size, World.heap_drewN, Array.size_append]) <;> omega))) ?_; (case hR => (refine SlK.one (by (first | omega | ((simp only [World.size_alloc, World.size_setCell, World.size_drew, Wov_size, World.heap_drewN, Array.size_append]) <;> omega))) (fun j u hu => ?_); have hj : j < 3 := (by have := (List.getElem?_eq_some_iff.1 hu).1; exact this); rcases (show j = 0 ∨ j = 1 ∨ j = 2 by omega) with rfl | rfl | rfl <;> (injection hu with hu; subst hu; simp [go_sem, HC.out]))); intro v1 w1 ho1 hg1; obtain ⟨p1, cp1, rfl, _, _, _⟩ := RowK.sl tkD_ok ho1; have hne := HNE.out; have hgo := grown_old hg1 (X := W) (by (repeat' (first | (with_reducible assumption) | (with_reducible exact Below.refl _ _) | (with_reducible refine below_wov ?_ ?_ _) | (with_reducible refine below_drewN ?_ _) | (with_reducible refine Below.drew ?_) | (with_reducible refine Below.alloc ?_ ?_ _) | (with_reducible refine Below.setCell ?_ ?_ _) | (with_reducible exact Nat.le_refl _) | omega | (simp only [World.size_alloc, World.size_setCell, World.size_drew, Wov_size, World.heap_drewN]; omega)))) hlt hne; have g0 := (hgo 0).1.trans HI.out.c0; have g1 := (hgo 1).1.trans HI.out.c1; have g2 := (hgo 2).1.trans HI.out.c2; have f0 := (hgo 0).2.trans HI.out.z0; have f1 := (hgo 1).2.trans HI.out.z1; have f2 := (hgo 2).2.trans HI.out.z2; have hb1 : Below nb W w1 := (by refine Below.trans ?_ (RowK.grown (HROW.out.below (by (repeat' (first | (with_reducible assumption) | (with_reducible exact Below.refl _ _) | (with_reducible refine below_wov ?_ ?_ _) | (with_reducible refine below_drewN ?_ _) | (with_reducible refine Below.drew ?_) | (with_reducible refine Below.alloc ?_ ?_ _) | (with_reducible refine Below.setCell ?_ ?_ _) | (with_reducible exact Nat.le_refl _) | omega | (simp only [World.size_alloc, World.size_setCell, World.size_drew, Wov_size, World.heap_drewN]; omega))))) (Below.refl _ _) hg1 (by (first | omega | ((simp only [World.size_alloc, World.size_setCell, World.size_drew, Wov_size, World.heap_drewN, Array.size_append]) <;> omega)))); (repeat' (first | (with_reducible assumption) | (with_reducible exact Below.refl _ _) | (with_reducible refine below_wov ?_ ?_ _) | (with_reducible refine below_drewN ?_ _) | (with_reducible refine Below.drew ?_) | (with_reducible refine Below.alloc ?_ ?_ _) | (with_reducible refine Below.setCell ?_ ?_ _) | (with_reducible exact Nat.le_refl _) | omega | (simp only [World.size_alloc, World.size_setCell, World.size_drew, Wov_size, World.heap_drewN]; omega)))); have hs1 := hb1.size; have HO := Lib.hid ho1; clear ho1 hg1 hgo)
  all_goals
    go_end0
    have hBW : Turn nb B W w1 := Turn.of hb1
    have ho2 := HO.out
    simp only [List.length_append, List.length_cons, List.length_nil, Nat.zero_add] at ho2
    first
    | exact ⟨rfl, hBW.set (.inl rfl) _, _, CutI.put (by omega) hln (by omega) g0 g1 g2 f0 f1 f2 ho2⟩
    | (rw [hm] at ho2
       exact ⟨rfl, hBW.set (.inl rfl) _, _, CutI.put (by omega) hln (by omega) g0 g1 g2 f0 f1 f2 ho2⟩)
set_option maxRecDepth 10000 in
set_option maxHeartbeats 4000000 in
theorem sign_k2 (nb : Nat) (W : World) (B : Nat) (S : ByteArray) (f : Int) (v : Value) (l : List Tk) (c : UInt8) (i : Nat) (x : Int) (hx : x = c.toNat) (hI : CutI nb W B S f v l) (hl : l.length ≤ 10000) (hc : c.toNat < 128) (hi : i ≤ 100000) (m : Nat) (hm : l.length = m + 1) (h1 : x = 38) (t : Tk) (ht : l[m]? = some t) (h2 : ¬ (t.kind : Int) = 3) :
    Calls Tryz.prog 67 #[.pointer (some ⟨B, 0, none⟩), .int .i32 x, .int .i64 i] W (signC nb W B S f (l ++ [⟨3, [c], i⟩])) := by
  have hlt := hI.lt
  have hln := hI.ln
  have hnz := hI.nz
  have c1 := hI.c1
  have HI := Lib.hid hI
  have hcv : ∀ w', (convert 21 9 (.int .i32 x)).run Tryz.prog w' = .ok (.string (bs [c])) w' := fun w' => (run_convert_int_string (P := Tryz.prog) w' 21 9 .i32 x (by kernel_rfl) Tryz.underlying9).trans (by rw [hx, encode_ascii c hc])
  have HNE : Hid (v.ownBlock ≠ some B) := fun e => by have := (hI.row.own_lt B e).1; omega
  have HROW := Lib.hid hI.row
  obtain ⟨C, hC⟩ : ∃ C, C = bs [c] := ⟨_, rfl⟩
  rw [← hC] at hcv
  have HC := Lib.hid hC
  obtain ⟨g, cp, hv, _, hgl, k0, k1, k2, kz⟩ := hI.row.last ht
  rw [hm] at hv
  rw [hv] at c1 HROW HNE
  have hw : wrap64 (((m + 1 : Nat) : Int) - 1) = (m : Int) := by rw [wrap64_id (by omega) (by omega)]; omega
  have m0 : (0 : Int) ≤ (m : Int) := by omega
  have e1 : (t.text = C.toList) = (t.text = [c]) := by rw [hC, Lib.toList_data, bs_list]
  have hsC : C.size = 1 := by rw [hC]; rfl
  clear hI hC hx hv hc
  subst h1
  go_enter Tryz.func67, Tryz.ntmps67
  go_wp2_with (at_builtin; refine wpList_appK tkD_ok _ nb rfl (.tmp 55) (.tmp 60) rfl rfl _ l [⟨3, [c], i⟩] rfl (HROW.out.below (by (repeat' (first | (with_reducible assumption) | (with_reducible exact Below.refl _ _) | (with_reducible refine below_wov ?_ ?_ _) | (with_reducible refine below_drewN ?_ _) | (with_reducible refine Below.drew ?_) | (with_reducible refine Below.alloc ?_ ?_ _) | (with_reducible refine Below.setCell ?_ ?_ _) | (with_reducible exact Nat.le_refl _) | omega | (simp only [World.size_alloc, World.size_setCell, World.size_drew, Wov_size, World.heap_drewN]; omega))))) (some ⟨_, 0, none⟩) 1 rfl (by intro h; cases h) ?hR (by simp; omega) (by (first | omega | ((simp only [World.size_alloc, World.size_setCell, World.size_drew, Wov_size, World.heap_drewN, Array.size_append]) <;> omega))) ?_; (case hR => (refine SlK.one (by (first | omega | ((simp only [World.size_alloc, World.size_setCell, World.size_drew, Wov_size, World.heap_drewN, Array.size_append]) <;> omega))) (fun j u hu => ?_); have hj : j < 3 := (by have := (List.getElem?_eq_some_iff.1 hu).1; exact this); rcases (show j = 0 ∨ j = 1 ∨ j = 2 by omega) with rfl | rfl | rfl <;> (injection hu with hu; subst hu; simp [go_sem, HC.out]))); intro v1 w1 ho1 hg1; obtain ⟨p1, cp1, rfl, _, _, _⟩ := RowK.sl tkD_ok ho1; have hne := HNE.out; have hgo := grown_old hg1 (X := W) (by (repeat' (first | (with_reducible assumption) | (with_reducible exact Below.refl _ _) | (with_reducible refine below_wov ?_ ?_ _) | (with_reducible refine below_drewN ?_ _) | (with_reducible refine Below.drew ?_) | (with_reducible refine Below.alloc ?_ ?_ _) | (with_reducible refine Below.setCell ?_ ?_ _) | (with_reducible exact Nat.le_refl _) | omega | (simp only [World.size_alloc, World.size_setCell, World.size_drew, Wov_size, World.heap_drewN]; omega)))) hlt hne; have g0 := (hgo 0).1.trans HI.out.c0; have g1 := (hgo 1).1.trans HI.out.c1; have g2 := (hgo 2).1.trans HI.out.c2; have f0 := (hgo 0).2.trans HI.out.z0; have f1 := (hgo 1).2.trans HI.out.z1; have f2 := (hgo 2).2.trans HI.out.z2; have hb1 : Below nb W w1 := (by refine Below.trans ?_ (RowK.grown (HROW.out.below (by (repeat' (first | (with_reducible assumption) | (with_reducible exact Below.refl _ _) | (with_reducible refine below_wov ?_ ?_ _) | (with_reducible refine below_drewN ?_ _) | (with_reducible refine Below.drew ?_) | (with_reducible refine Below.alloc ?_ ?_ _) | (with_reducible refine Below.setCell ?_ ?_ _) | (with_reducible exact Nat.le_refl _) | omega | (simp only [World.size_alloc, World.size_setCell, World.size_drew, Wov_size, World.heap_drewN]; omega))))) (Below.refl _ _) hg1 (by (first | omega | ((simp only [World.size_alloc, World.size_setCell, World.size_drew, Wov_size, World.heap_drewN, Array.size_append]) <;> omega)))); (repeat' (first | (with_reducible assumption) | (with_reducible exact Below.refl _ _) | (with_reducible refine below_wov ?_ ?_ _) | (with_reducible refine below_drewN ?_ _) | (with_reducible refine Below.drew ?_) | (with_reducible refine Below.alloc ?_ ?_ _) | (with_reducible refine Below.setCell ?_ ?_ _) | (with_reducible exact Nat.le_refl _) | omega | (simp only [World.size_alloc, World.size_setCell, World.size_drew, Wov_size, World.heap_drewN]; omega)))); have hs1 := hb1.size; have HO := Lib.hid ho1; clear ho1 hg1 hgo)
  all_goals
    go_end0
    have hBW : Turn nb B W w1 := Turn.of hb1
    have ho2 := HO.out
    simp only [List.length_append, List.length_cons, List.length_nil, Nat.zero_add] at ho2
    first
    | exact ⟨rfl, hBW.set (.inl rfl) _, _, CutI.put (by omega) hln (by omega) g0 g1 g2 f0 f1 f2 ho2⟩
    | (rw [hm] at ho2
       exact ⟨rfl, hBW.set (.inl rfl) _, _, CutI.put (by omega) hln (by omega) g0 g1 g2 f0 f1 f2 ho2⟩)
set_option maxRecDepth 10000 in
set_option maxHeartbeats 4000000 in
theorem sign_t1 (nb : Nat) (W : World) (B : Nat) (S : ByteArray) (f : Int) (v : Value) (l : List Tk) (c : UInt8) (i : Nat) (x : Int) (hx : x = c.toNat) (hI : CutI nb W B S f v l) (hl : l.length ≤ 10000) (hc : c.toNat < 128) (hi : i ≤ 100000) (m : Nat) (hm : l.length = m + 1) (h1 : x = 124) (t : Tk) (ht : l[m]? = some t) (h2 : (t.kind : Int) = 3) (h3 : ¬ t.text = [c]) :
    Calls Tryz.prog 67 #[.pointer (some ⟨B, 0, none⟩), .int .i32 x, .int .i64 i] W (signC nb W B S f (l ++ [⟨3, [c], i⟩])) := by
  have hlt := hI.lt
  have hln := hI.ln
  have hnz := hI.nz
  have c1 := hI.c1
  have HI := Lib.hid hI
  have hcv : ∀ w', (convert 21 9 (.int .i32 x)).run Tryz.prog w' = .ok (.string (bs [c])) w' := fun w' => (run_convert_int_string (P := Tryz.prog) w' 21 9 .i32 x (by kernel_rfl) Tryz.underlying9).trans (by rw [hx, encode_ascii c hc])
  have HNE : Hid (v.ownBlock ≠ some B) := fun e => by have := (hI.row.own_lt B e).1; omega
  have HROW := Lib.hid hI.row
  obtain ⟨C, hC⟩ : ∃ C, C = bs [c] := ⟨_, rfl⟩
  rw [← hC] at hcv
  have HC := Lib.hid hC
  obtain ⟨g, cp, hv, _, hgl, k0, k1, k2, kz⟩ := hI.row.last ht
  rw [hm] at hv
  rw [hv] at c1 HROW HNE
  have hw : wrap64 (((m + 1 : Nat) : Int) - 1) = (m : Int) := by rw [wrap64_id (by omega) (by omega)]; omega
  have m0 : (0 : Int) ≤ (m : Int) := by omega
  have e1 : (t.text = C.toList) = (t.text = [c]) := by rw [hC, Lib.toList_data, bs_list]
  have hsC : C.size = 1 := by rw [hC]; rfl
  clear hI hC hx hv hc
  subst h1
  go_enter Tryz.func67, Tryz.ntmps67
  go_wp2_with (at_builtin; refine wpList_appK tkD_ok _ nb rfl (.tmp 55) (.tmp 60) rfl rfl _ l [⟨3, [c], i⟩] rfl (HROW.out.below (by (repeat' (first | (with_reducible assumption) | (with_reducible exact Below.refl _ _) | (with_reducible refine below_wov ?_ ?_ _) | (with_reducible refine below_drewN ?_ _) | (with_reducible refine Below.drew ?_) | (with_reducible refine Below.alloc ?_ ?_ _) | (with_reducible refine Below.setCell ?_ ?_ _) | (with_reducible exact Nat.le_refl _) | omega | (simp only [World.size_alloc, World.size_setCell, World.size_drew, Wov_size, World.heap_drewN]; omega))))) (some ⟨_, 0, none⟩) 1 rfl (by intro h; cases h) ?hR (by simp; omega) (by (first | omega | ((simp only [World.size_alloc, World.size_setCell, World.size_drew, Wov_size, World.heap_drewN, Array.size_append]) <;> omega))) ?_; (case hR => (refine SlK.one (by (first | omega | ((simp only [World.size_alloc, World.size_setCell, World.size_drew, Wov_size, World.heap_drewN, Array.size_append]) <;> omega))) (fun j u hu => ?_); have hj : j < 3 := (by have := (List.getElem?_eq_some_iff.1 hu).1; exact this); rcases (show j = 0 ∨ j = 1 ∨ j = 2 by omega) with rfl | rfl | rfl <;> (injection hu with hu; subst hu; simp [go_sem, HC.out]))); intro v1 w1 ho1 hg1; obtain ⟨p1, cp1, rfl, _, _, _⟩ := RowK.sl tkD_ok ho1; have hne := HNE.out; have hgo := grown_old hg1 (X := W) (by (repeat' (first | (with_reducible assumption) | (with_reducible exact Below.refl _ _) | (with_reducible refine below_wov ?_ ?_ _) | (with_reducible refine below_drewN ?_ _) | (with_reducible refine Below.drew ?_) | (with_reducible refine Below.alloc ?_ ?_ _) | (with_reducible refine Below.setCell ?_ ?_ _) | (with_reducible exact Nat.le_refl _) | omega | (simp only [World.size_alloc, World.size_setCell, World.size_drew, Wov_size, World.heap_drewN]; omega)))) hlt hne; have g0 := (hgo 0).1.trans HI.out.c0; have g1 := (hgo 1).1.trans HI.out.c1; have g2 := (hgo 2).1.trans HI.out.c2; have f0 := (hgo 0).2.trans HI.out.z0; have f1 := (hgo 1).2.trans HI.out.z1; have f2 := (hgo 2).2.trans HI.out.z2; have hb1 : Below nb W w1 := (by refine Below.trans ?_ (RowK.grown (HROW.out.below (by (repeat' (first | (with_reducible assumption) | (with_reducible exact Below.refl _ _) | (with_reducible refine below_wov ?_ ?_ _) | (with_reducible refine below_drewN ?_ _) | (with_reducible refine Below.drew ?_) | (with_reducible refine Below.alloc ?_ ?_ _) | (with_reducible refine Below.setCell ?_ ?_ _) | (with_reducible exact Nat.le_refl _) | omega | (simp only [World.size_alloc, World.size_setCell, World.size_drew, Wov_size, World.heap_drewN]; omega))))) (Below.refl _ _) hg1 (by (first | omega | ((simp only [World.size_alloc, World.size_setCell, World.size_drew, Wov_size, World.heap_drewN, Array.size_append]) <;> omega)))); (repeat' (first | (with_reducible assumption) | (with_reducible exact Below.refl _ _) | (with_reducible refine below_wov ?_ ?_ _) | (with_reducible refine below_drewN ?_ _) | (with_reducible refine Below.drew ?_) | (with_reducible refine Below.alloc ?_ ?_ _) | (with_reducible refine Below.setCell ?_ ?_ _) | (with_reducible exact Nat.le_refl _) | omega | (simp only [World.size_alloc, World.size_setCell, World.size_drew, Wov_size, World.heap_drewN]; omega)))); have hs1 := hb1.size; have HO := Lib.hid ho1; clear ho1 hg1 hgo)
  all_goals
    go_end0
    have hBW : Turn nb B W w1 := Turn.of hb1
    have ho2 := HO.out
    simp only [List.length_append, List.length_cons, List.length_nil, Nat.zero_add] at ho2
    first
    | exact ⟨rfl, hBW.set (.inl rfl) _, _, CutI.put (by omega) hln (by omega) g0 g1 g2 f0 f1 f2 ho2⟩
    | (rw [hm] at ho2
       exact ⟨rfl, hBW.set (.inl rfl) _, _, CutI.put (by omega) hln (by omega) g0 g1 g2 f0 f1 f2 ho2⟩)
set_option maxRecDepth 10000 in
set_option maxHeartbeats 4000000 in
theorem sign_t2 (nb : Nat) (W : World) (B : Nat) (S : ByteArray) (f : Int) (v : Value) (l : List Tk) (c : UInt8) (i : Nat) (x : Int) (hx : x = c.toNat) (hI : CutI nb W B S f v l) (hl : l.length ≤ 10000) (hc : c.toNat < 128) (hi : i ≤ 100000) (m : Nat) (hm : l.length = m + 1) (h1 : x = 38) (t : Tk) (ht : l[m]? = some t) (h2 : (t.kind : Int) = 3) (h3 : ¬ t.text = [c]) :
    Calls Tryz.prog 67 #[.pointer (some ⟨B, 0, none⟩), .int .i32 x, .int .i64 i] W (signC nb W B S f (l ++ [⟨3, [c], i⟩])) := by
  have hlt := hI.lt
  have hln := hI.ln
  have hnz := hI.nz
  have c1 := hI.c1
  have HI := Lib.hid hI
  have hcv : ∀ w', (convert 21 9 (.int .i32 x)).run Tryz.prog w' = .ok (.string (bs [c])) w' := fun w' => (run_convert_int_string (P := Tryz.prog) w' 21 9 .i32 x (by kernel_rfl) Tryz.underlying9).trans (by rw [hx, encode_ascii c hc])
  have HNE : Hid (v.ownBlock ≠ some B) := fun e => by have := (hI.row.own_lt B e).1; omega
  have HROW := Lib.hid hI.row
  obtain ⟨C, hC⟩ : ∃ C, C = bs [c] := ⟨_, rfl⟩
  rw [← hC] at hcv
  have HC := Lib.hid hC
  obtain ⟨g, cp, hv, _, hgl, k0, k1, k2, kz⟩ := hI.row.last ht
  rw [hm] at hv
  rw [hv] at c1 HROW HNE
  have hw : wrap64 (((m + 1 : Nat) : Int) - 1) = (m : Int) := by rw [wrap64_id (by omega) (by omega)]; omega
  have m0 : (0 : Int) ≤ (m : Int) := by omega
  have e1 : (t.text = C.toList) = (t.text = [c]) := by rw [hC, Lib.toList_data, bs_list]
  have hsC : C.size = 1 := by rw [hC]; rfl
  clear hI hC hx hv hc
  subst h1
  go_enter Tryz.func67, Tryz.ntmps67
  go_wp2_with (at_builtin; refine wpList_appK tkD_ok _ nb rfl (.tmp 55) (.tmp 60) rfl rfl _ l [⟨3, [c], i⟩] rfl (HROW.out.below (by (repeat' (first | (with_reducible assumption) | (with_reducible exact Below.refl _ _) | (with_reducible refine below_wov ?_ ?_ _) | (with_reducible refine below_drewN ?_ _) | (with_reducible refine Below.drew ?_) | (with_reducible refine Below.alloc ?_ ?_ _) | (with_reducible refine Below.setCell ?_ ?_ _) | (with_reducible exact Nat.le_refl _) | omega | (simp only [World.size_alloc, World.size_setCell, World.size_drew, Wov_size, World.heap_drewN]; omega))))) (some ⟨_, 0, none⟩) 1 rfl (by intro h; cases h) ?hR (by simp; omega) (by (first | omega | ((simp only [World.size_alloc, World.size_setCell, World.size_drew, Wov_size, World.heap_drewN, Array.size_append]) <;> omega))) ?_; (case hR => (refine SlK.one (by (first | omega | ((simp only [World.size_alloc, World.size_setCell, World.size_drew, Wov_size, World.heap_drewN, Array.size_append]) <;> omega))) (fun j u hu => ?_); have hj : j < 3 := (by have := (List.getElem?_eq_some_iff.1 hu).1; exact this); rcases (show j = 0 ∨ j = 1 ∨ j = 2 by omega) with rfl | rfl | rfl <;> (injection hu with hu; subst hu; simp [go_sem, HC.out]))); intro v1 w1 ho1 hg1; obtain ⟨p1, cp1, rfl, _, _, _⟩ := RowK.sl tkD_ok ho1; have hne := HNE.out; have hgo := grown_old hg1 (X := W) (by (repeat' (first | (with_reducible assumption) | (with_reducible exact Below.refl _ _) | (with_reducible refine below_wov ?_ ?_ _) | (with_reducible refine below_drewN ?_ _) | (with_reducible refine Below.drew ?_) | (with_reducible refine Below.alloc ?_ ?_ _) | (with_reducible refine Below.setCell ?_ ?_ _) | (with_reducible exact Nat.le_refl _) | omega | (simp only [World.size_alloc, World.size_setCell, World.size_drew, Wov_size, World.heap_drewN]; omega)))) hlt hne; have g0 := (hgo 0).1.trans HI.out.c0; have g1 := (hgo 1).1.trans HI.out.c1; have g2 := (hgo 2).1.trans HI.out.c2; have f0 := (hgo 0).2.trans HI.out.z0; have f1 := (hgo 1).2.trans HI.out.z1; have f2 := (hgo 2).2.trans HI.out.z2; have hb1 : Below nb W w1 := (by refine Below.trans ?_ (RowK.grown (HROW.out.below (by (repeat' (first | (with_reducible assumption) | (with_reducible exact Below.refl _ _) | (with_reducible refine below_wov ?_ ?_ _) | (with_reducible refine below_drewN ?_ _) | (with_reducible refine Below.drew ?_) | (with_reducible refine Below.alloc ?_ ?_ _) | (with_reducible refine Below.setCell ?_ ?_ _) | (with_reducible exact Nat.le_refl _) | omega | (simp only [World.size_alloc, World.size_setCell, World.size_drew, Wov_size, World.heap_drewN]; omega))))) (Below.refl _ _) hg1 (by (first | omega | ((simp only [World.size_alloc, World.size_setCell, World.size_drew, Wov_size, World.heap_drewN, Array.size_append]) <;> omega)))); (repeat' (first | (with_reducible assumption) | (with_reducible exact Below.refl _ _) | (with_reducible refine below_wov ?_ ?_ _) | (with_reducible refine below_drewN ?_ _) | (with_reducible refine Below.drew ?_) | (with_reducible refine Below.alloc ?_ ?_ _) | (with_reducible refine Below.setCell ?_ ?_ _) | (with_reducible exact Nat.le_refl _) | omega | (simp only [World.size_alloc, World.size_setCell, World.size_drew, Wov_size, World.heap_drewN]; omega)))); have hs1 := hb1.size; have HO := Lib.hid ho1; clear ho1 hg1 hgo)
  all_goals
    go_end0
    have hBW : Turn nb B W w1 := Turn.of hb1
    have ho2 := HO.out
    simp only [List.length_append, List.length_cons, List.length_nil, Nat.zero_add] at ho2
    first
    | exact ⟨rfl, hBW.set (.inl rfl) _, _, CutI.put (by omega) hln (by omega) g0 g1 g2 f0 f1 f2 ho2⟩
    | (rw [hm] at ho2
       exact ⟨rfl, hBW.set (.inl rfl) _, _, CutI.put (by omega) hln (by omega) g0 g1 g2 f0 f1 f2 ho2⟩)
set_option maxRecDepth 10000 in
set_option maxHeartbeats 4000000 in
theorem sign_a1 (nb : Nat) (W : World) (B : Nat) (S : ByteArray) (f : Int) (v : Value) (l : List Tk) (c : UInt8) (i : Nat) (x : Int) (hx : x = c.toNat) (hI : CutI nb W B S f v l) (hl : l.length ≤ 10000) (hc : c.toNat < 128) (hi : i ≤ 100000) (m : Nat) (hm : l.length = m + 1) (h1 : x = 124) (t : Tk) (ht : l[m]? = some t) (h2 : (t.kind : Int) = 3) (h3 : t.text = [c]) (h4 : ¬ (t.at_ : Int) = (i : Int) - 1) :
    Calls Tryz.prog 67 #[.pointer (some ⟨B, 0, none⟩), .int .i32 x, .int .i64 i] W (signC nb W B S f (l ++ [⟨3, [c], i⟩])) := by
  have hlt := hI.lt
  have hln := hI.ln
  have hnz := hI.nz
  have c1 := hI.c1
  have HI := Lib.hid hI
  have hcv : ∀ w', (convert 21 9 (.int .i32 x)).run Tryz.prog w' = .ok (.string (bs [c])) w' := fun w' => (run_convert_int_string (P := Tryz.prog) w' 21 9 .i32 x (by kernel_rfl) Tryz.underlying9).trans (by rw [hx, encode_ascii c hc])
  have HNE : Hid (v.ownBlock ≠ some B) := fun e => by have := (hI.row.own_lt B e).1; omega
  have HROW := Lib.hid hI.row
  obtain ⟨C, hC⟩ : ∃ C, C = bs [c] := ⟨_, rfl⟩
  rw [← hC] at hcv
  have HC := Lib.hid hC
  obtain ⟨g, cp, hv, _, hgl, k0, k1, k2, kz⟩ := hI.row.last ht
  rw [hm] at hv
  rw [hv] at c1 HROW HNE
  have hw : wrap64 (((m + 1 : Nat) : Int) - 1) = (m : Int) := by rw [wrap64_id (by omega) (by omega)]; omega
  have m0 : (0 : Int) ≤ (m : Int) := by omega
  have e1 : (t.text = C.toList) = (t.text = [c]) := by rw [hC, Lib.toList_data, bs_list]
  have hsC : C.size = 1 := by rw [hC]; rfl
  clear hI hC hx hv hc
  subst h1
  go_enter Tryz.func67, Tryz.ntmps67
  go_wp2_with (at_builtin; refine wpList_appK tkD_ok _ nb rfl (.tmp 55) (.tmp 60) rfl rfl _ l [⟨3, [c], i⟩] rfl (HROW.out.below (by (repeat' (first | (with_reducible assumption) | (with_reducible exact Below.refl _ _) | (with_reducible refine below_wov ?_ ?_ _) | (with_reducible refine below_drewN ?_ _) | (with_reducible refine Below.drew ?_) | (with_reducible refine Below.alloc ?_ ?_ _) | (with_reducible refine Below.setCell ?_ ?_ _) | (with_reducible exact Nat.le_refl _) | omega | (simp only [World.size_alloc, World.size_setCell, World.size_drew, Wov_size, World.heap_drewN]; omega))))) (some ⟨_, 0, none⟩) 1 rfl (by intro h; cases h) ?hR (by simp; omega) (by (first | omega | ((simp only [World.size_alloc, World.size_setCell, World.size_drew, Wov_size, World.heap_drewN, Array.size_append]) <;> omega))) ?_; (case hR => (refine SlK.one (by (first | omega | ((simp only [World.size_alloc, World.size_setCell, World.size_drew, Wov_size, World.heap_drewN, Array.size_append]) <;> omega))) (fun j u hu => ?_); have hj : j < 3 := (by have := (List.getElem?_eq_some_iff.1 hu).1; exact this); rcases (show j = 0 ∨ j = 1 ∨ j = 2 by omega) with rfl | rfl | rfl <;> (injection hu with hu; subst hu; simp [go_sem, HC.out]))); intro v1 w1 ho1 hg1; obtain ⟨p1, cp1, rfl, _, _, _⟩ := RowK.sl tkD_ok ho1; have hne := HNE.out; have hgo := grown_old hg1 (X := W) (by (repeat' (first | (with_reducible assumption) | (with_reducible exact Below.refl _ _) | (with_reducible refine below_wov ?_ ?_ _) | (with_reducible refine below_drewN ?_ _) | (with_reducible refine Below.drew ?_) | (with_reducible refine Below.alloc ?_ ?_ _) | (with_reducible refine Below.setCell ?_ ?_ _) | (with_reducible exact Nat.le_refl _) | omega | (simp only [World.size_alloc, World.size_setCell, World.size_drew, Wov_size, World.heap_drewN]; omega)))) hlt hne; have g0 := (hgo 0).1.trans HI.out.c0; have g1 := (hgo 1).1.trans HI.out.c1; have g2 := (hgo 2).1.trans HI.out.c2; have f0 := (hgo 0).2.trans HI.out.z0; have f1 := (hgo 1).2.trans HI.out.z1; have f2 := (hgo 2).2.trans HI.out.z2; have hb1 : Below nb W w1 := (by refine Below.trans ?_ (RowK.grown (HROW.out.below (by (repeat' (first | (with_reducible assumption) | (with_reducible exact Below.refl _ _) | (with_reducible refine below_wov ?_ ?_ _) | (with_reducible refine below_drewN ?_ _) | (with_reducible refine Below.drew ?_) | (with_reducible refine Below.alloc ?_ ?_ _) | (with_reducible refine Below.setCell ?_ ?_ _) | (with_reducible exact Nat.le_refl _) | omega | (simp only [World.size_alloc, World.size_setCell, World.size_drew, Wov_size, World.heap_drewN]; omega))))) (Below.refl _ _) hg1 (by (first | omega | ((simp only [World.size_alloc, World.size_setCell, World.size_drew, Wov_size, World.heap_drewN, Array.size_append]) <;> omega)))); (repeat' (first | (with_reducible assumption) | (with_reducible exact Below.refl _ _) | (with_reducible refine below_wov ?_ ?_ _) | (with_reducible refine below_drewN ?_ _) | (with_reducible refine Below.drew ?_) | (with_reducible refine Below.alloc ?_ ?_ _) | (with_reducible refine Below.setCell ?_ ?_ _) | (with_reducible exact Nat.le_refl _) | omega | (simp only [World.size_alloc, World.size_setCell, World.size_drew, Wov_size, World.heap_drewN]; omega)))); have hs1 := hb1.size; have HO := Lib.hid ho1; clear ho1 hg1 hgo)
  all_goals
    go_end0
    have hBW : Turn nb B W w1 := Turn.of hb1
    have ho2 := HO.out
    simp only [List.length_append, List.length_cons, List.length_nil, Nat.zero_add] at ho2
    first
    | exact ⟨rfl, hBW.set (.inl rfl) _, _, CutI.put (by omega) hln (by omega) g0 g1 g2 f0 f1 f2 ho2⟩
    | (rw [hm] at ho2
       exact ⟨rfl, hBW.set (.inl rfl) _, _, CutI.put (by omega) hln (by omega) g0 g1 g2 f0 f1 f2 ho2⟩)
set_option maxRecDepth 10000 in
set_option maxHeartbeats 4000000 in
theorem sign_a2 (nb : Nat) (W : World) (B : Nat) (S : ByteArray) (f : Int) (v : Value) (l : List Tk) (c : UInt8) (i : Nat) (x : Int) (hx : x = c.toNat) (hI : CutI nb W B S f v l) (hl : l.length ≤ 10000) (hc : c.toNat < 128) (hi : i ≤ 100000) (m : Nat) (hm : l.length = m + 1) (h1 : x = 38) (t : Tk) (ht : l[m]? = some t) (h2 : (t.kind : Int) = 3) (h3 : t.text = [c]) (h4 : ¬ (t.at_ : Int) = (i : Int) - 1) :
    Calls Tryz.prog 67 #[.pointer (some ⟨B, 0, none⟩), .int .i32 x, .int .i64 i] W (signC nb W B S f (l ++ [⟨3, [c], i⟩])) := by
  have hlt := hI.lt
  have hln := hI.ln
  have hnz := hI.nz
  have c1 := hI.c1
  have HI := Lib.hid hI
  have hcv : ∀ w', (convert 21 9 (.int .i32 x)).run Tryz.prog w' = .ok (.string (bs [c])) w' := fun w' => (run_convert_int_string (P := Tryz.prog) w' 21 9 .i32 x (by kernel_rfl) Tryz.underlying9).trans (by rw [hx, encode_ascii c hc])
  have HNE : Hid (v.ownBlock ≠ some B) := fun e => by have := (hI.row.own_lt B e).1; omega
  have HROW := Lib.hid hI.row
  obtain ⟨C, hC⟩ : ∃ C, C = bs [c] := ⟨_, rfl⟩
  rw [← hC] at hcv
  have HC := Lib.hid hC
  obtain ⟨g, cp, hv, _, hgl, k0, k1, k2, kz⟩ := hI.row.last ht
  rw [hm] at hv
  rw [hv] at c1 HROW HNE
  have hw : wrap64 (((m + 1 : Nat) : Int) - 1) = (m : Int) := by rw [wrap64_id (by omega) (by omega)]; omega
  have m0 : (0 : Int) ≤ (m : Int) := by omega
  have e1 : (t.text = C.toList) = (t.text = [c]) := by rw [hC, Lib.toList_data, bs_list]
  have hsC : C.size = 1 := by rw [hC]; rfl
  clear hI hC hx hv hc
  subst h1
  go_enter Tryz.func67, Tryz.ntmps67
  go_wp2_with (at_builtin; refine wpList_appK tkD_ok _ nb rfl (.tmp 55) (.tmp 60) rfl rfl _ l [⟨3, [c], i⟩] rfl (HROW.out.below (by (repeat' (first | (with_reducible assumption) | (with_reducible exact Below.refl _ _) | (with_reducible refine below_wov ?_ ?_ _) | (with_reducible refine below_drewN ?_ _) | (with_reducible refine Below.drew ?_) | (with_reducible refine Below.alloc ?_ ?_ _) | (with_reducible refine Below.setCell ?_ ?_ _) | (with_reducible exact Nat.le_refl _) | omega | (simp only [World.size_alloc, World.size_setCell, World.size_drew, Wov_size, World.heap_drewN]; omega))))) (some ⟨_, 0, none⟩) 1 rfl (by intro h; cases h) ?hR (by simp; omega) (by (first | omega | ((simp only [World.size_alloc, World.size_setCell, World.size_drew, Wov_size, World.heap_drewN, Array.size_append]) <;> omega))) ?_; (case hR => (refine SlK.one (by (first | omega | ((simp only [World.size_alloc, World.size_setCell, World.size_drew, Wov_size, World.heap_drewN, Array.size_append]) <;> omega))) (fun j u hu => ?_); have hj : j < 3 := (by have := (List.getElem?_eq_some_iff.1 hu).1; exact this); rcases (show j = 0 ∨ j = 1 ∨ j = 2 by omega) with rfl | rfl | rfl <;> (injection hu with hu; subst hu; simp [go_sem, HC.out]))); intro v1 w1 ho1 hg1; obtain ⟨p1, cp1, rfl, _, _, _⟩ := RowK.sl tkD_ok ho1; have hne := HNE.out; have hgo := grown_old hg1 (X := W) (by (repeat' (first | (with_reducible assumption) | (with_reducible exact Below.refl _ _) | (with_reducible refine below_wov ?_ ?_ _) | (with_reducible refine below_drewN ?_ _) | (with_reducible refine Below.drew ?_) | (with_reducible refine Below.alloc ?_ ?_ _) | (with_reducible refine Below.setCell ?_ ?_ _) | (with_reducible exact Nat.le_refl _) | omega | (simp only [World.size_alloc, World.size_setCell, World.size_drew, Wov_size, World.heap_drewN]; omega)))) hlt hne; have g0 := (hgo 0).1.trans HI.out.c0; have g1 := (hgo 1).1.trans HI.out.c1; have g2 := (hgo 2).1.trans HI.out.c2; have f0 := (hgo 0).2.trans HI.out.z0; have f1 := (hgo 1).2.trans HI.out.z1; have f2 := (hgo 2).2.trans HI.out.z2; have hb1 : Below nb W w1 := (by refine Below.trans ?_ (RowK.grown (HROW.out.below (by (repeat' (first | (with_reducible assumption) | (with_reducible exact Below.refl _ _) | (with_reducible refine below_wov ?_ ?_ _) | (with_reducible refine below_drewN ?_ _) | (with_reducible refine Below.drew ?_) | (with_reducible refine Below.alloc ?_ ?_ _) | (with_reducible refine Below.setCell ?_ ?_ _) | (with_reducible exact Nat.le_refl _) | omega | (simp only [World.size_alloc, World.size_setCell, World.size_drew, Wov_size, World.heap_drewN]; omega))))) (Below.refl _ _) hg1 (by (first | omega | ((simp only [World.size_alloc, World.size_setCell, World.size_drew, Wov_size, World.heap_drewN, Array.size_append]) <;> omega)))); (repeat' (first | (with_reducible assumption) | (with_reducible exact Below.refl _ _) | (with_reducible refine below_wov ?_ ?_ _) | (with_reducible refine below_drewN ?_ _) | (with_reducible refine Below.drew ?_) | (with_reducible refine Below.alloc ?_ ?_ _) | (with_reducible refine Below.setCell ?_ ?_ _) | (with_reducible exact Nat.le_refl _) | omega | (simp only [World.size_alloc, World.size_setCell, World.size_drew, Wov_size, World.heap_drewN]; omega)))); have hs1 := hb1.size; have HO := Lib.hid ho1; clear ho1 hg1 hgo)
  all_goals
    go_end0
    have hBW : Turn nb B W w1 := Turn.of hb1
    have ho2 := HO.out
    simp only [List.length_append, List.length_cons, List.length_nil, Nat.zero_add] at ho2
    first
    | exact ⟨rfl, hBW.set (.inl rfl) _, _, CutI.put (by omega) hln (by omega) g0 g1 g2 f0 f1 f2 ho2⟩
    | (rw [hm] at ho2
       exact ⟨rfl, hBW.set (.inl rfl) _, _, CutI.put (by omega) hln (by omega) g0 g1 g2 f0 f1 f2 ho2⟩)
#print axioms sign_a2
end Go.Proofs.YtccbhblklhmcpaaGreatDoor
