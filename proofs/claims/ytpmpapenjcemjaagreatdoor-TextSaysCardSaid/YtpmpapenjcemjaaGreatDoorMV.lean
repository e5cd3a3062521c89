/- The document's zones' texts: contracts of cut and pieces; one string more on a row of strings. No condition but on size. The document's zones' texts: contract of digits. No condition but on size. The document's zones' texts: contract of pieces. No condition but on size. -/
import Derived.Test.YtpmpapenjcemjaaGreatDoorS4
import Derived.Test.YtpmpapenjcemjaaGreatDoorS2
import Derived.Test.YtpmpapenjcemjaaGreatDoorT31d
import Derived.Deep.Cut
import Derived.Deep.RegionHeld3
namespace Go.Proofs.YtpmpapenjcemjaaGreatDoor
set_option linter.unusedSimpArgs false
set_option linter.unusedVariables false
open Go Go.RowKit Go.Shelf
attribute [local go_sem] Nat.add_assoc Nat.add_lt_add_iff_left lit_lt_add

theorem wpList_appS {ops : Array Oper} {rest : List Oper} {o : Oper} {a : Act} {Q : Exit → Act → World → Prop} (X : World) (base : Nat)
    (hgd : o.guard = none) (s x : Operand) (hop : o.op = Op.call { callee := Callee.builtin Builtin.append, args := #[s, x], argTypes := #[22, 22] }) (hty : o.type = 22)
    (v : Value) (K L : List (List UInt8)) (hs : a.eval s = v) (hown : X.ownsRow base 9 1 v K.length (cellsS K)) (ad : Addr) (cq : Nat) (hx : a.eval x = .slice (some ad) L.length cq) (hR : ∀ j y, L[j]? = some y → X.cell? (ad.add j) = some (.string (bs y))) (hM : K.length + L.length ≤ 1000000) (hb : base ≤ X.heap.size)
    (h : ∀ v' w', w'.ownsRow base 9 1 v' (K ++ L).length (cellsS (K ++ L)) → X.grownBy w' v.ownBlock → wpList Tryz.prog ops Q rest (a.put o.dst v') w') :
    wpList Tryz.prog ops Q (o :: rest) a X := by
  refine wpList_plain hgd fun K' hK' => ?_
  exact wp_appS X base s x hop hty v K L hs hown ad cq hx hR hM hb fun v' w' h1 h2 => hK' _ _ (h v' w' h1 h2)

theorem drop_at {l : List UInt8} {f i : Nat} (hfi : f ≤ i) (hi : i < l.length) : l.drop f = (l.drop f).take (i - f) ++ l[i] :: l.drop (i + 1) := by
  have h1 := (List.take_append_drop (i - f) (l.drop f)).symm
  rw [List.drop_drop, show f + (i - f) = i by omega, List.drop_eq_getElem_cons hi] at h1
  exact h1
theorem take_at {l : List UInt8} {f i : Nat} (hfi : f ≤ i) (hi : i < l.length) : (l.drop f).take (i + 1 - f) = (l.drop f).take (i - f) ++ [l[i]] := by
  rw [show i + 1 - f = (i - f) + 1 by omega, List.take_add_one, List.getElem?_drop, show f + (i - f) = i by omega, List.getElem?_eq_getElem hi]
  rfl
theorem split_at {c : UInt8} {l : List UInt8} {f i : Nat} (hfi : f ≤ i) (hi : i < l.length) (hx : l[i] = c) (hn : c ∉ (l.drop f).take (i - f)) : splitB c (l.drop f) = (l.drop f).take (i - f) :: splitB c (l.drop (i + 1)) := by
  have h := drop_at hfi hi
  rw [hx] at h
  conv => lhs; rw [h]
  exact split_free c _ hn _
theorem pieces_at {l : List UInt8} {f i : Nat} (hfi : f ≤ i) (hi : i < l.length) (hx : l[i] = 41 ∨ l[i] = 93) (h1 : (41 : UInt8) ∉ (l.drop f).take (i - f)) (h2 : (93 : UInt8) ∉ (l.drop f).take (i - f)) : piecesT (l.drop f) = (l.drop f).take (i + 1 - f) :: piecesT (l.drop (i + 1)) := by
  have h := drop_at hfi hi
  rw [take_at hfi hi]
  conv => lhs; rw [h]
  exact pieces_free _ h1 h2 _ _ hx
theorem split_len (c : UInt8) (l : List UInt8) : (splitB c l).length ≤ l.length + 1 := by
  rw [split_count]
  have := List.count_le_length (a := c) (l := l)
  omega
theorem bs_ext (l : List UInt8) (f i : Nat) : (bs l).extract f i = bs ((l.drop f).take (i - f)) := by rw [Lib.extract_eq, bs_list]
theorem bs_end (l : List UInt8) (f : Nat) : (bs l).extract f (bs l).size = bs (l.drop f) := by
  rw [bs_ext, bs_size, List.take_of_length_le (by rw [List.length_drop]; omega)]
theorem bs_at (l : List UInt8) (i : Nat) (x : UInt8) (hx : l[i]? = some x) : ∀ h, (bs l)[i]'h = x := fun h => by
  have e1 := Lib.data_getElem? (bs l) i h
  rw [bs_list, hx] at e1
  exact (Option.some.inj e1).symm
set_option maxRecDepth 10000 in
set_option maxHeartbeats 4000000 in
theorem cut31_any (l : List UInt8) (c : UInt8) (hl : l.length ≤ 900000) (w : World) :
    Calls Tryz.prog 35 #[.string (bs l), .int .u8 c.toNat] w (fun e w' => ∃ p cq, Gives w (.slice p (splitB c l).length cq) e w' ∧ (splitB c l).length ≤ cq ∧ SlS w' p (splitB c l)) := by
  have hsz : (bs l).size = l.length := bs_size l
  have hEX := Lib.hid (bs_ext l)
  have hEN := Lib.hid (bs_end l)
  have hIX := Lib.hid (bs_at l)
  obtain ⟨S, hS⟩ : ∃ S, S = bs l := ⟨_, rfl⟩
  obtain ⟨n, hn⟩ : ∃ n, n = l.length := ⟨_, rfl⟩
  rw [← hS] at hsz hEX hEN hIX ⊢
  have Hn := Lib.hid hn
  rw [← hn] at hsz hl
  clear hS hn
  go_enter Tryz.func35, Tryz.ntmps35
  go_wp2_with (fail)
  go_loopw [5, 6, 7] (fun s5 s6 s7 wr => ∃ (i f : Nat) (v : Value) (K : List (List UInt8)), v = s5 ∧ s6 = .int .i64 f ∧ s7 = .int .i64 i ∧ f ≤ i ∧ i ≤ n ∧ K.length ≤ 900000 ∧ Below w.heap.size w wr ∧ Hid (K ++ splitB c (l.drop f) = splitB c l ∧ c ∉ (l.drop f).take (i - f) ∧ wr.ownsRow w.heap.size 9 1 v K.length (cellsS K)))
    (fun _ _ s7 _ => n - (intOf s7).toNat)
  case atStart => exact ⟨0, 0, _, [], rfl, rfl, rfl, by omega, by omega, by simp, Below.refl _ _, ⟨rfl, by simp, World.ownsRow_nil _ _ _ _⟩⟩
  case round =>
    obtain ⟨i, f, v, K, rfl, rfl, rfl, hfi, hin, hK, hB, hI⟩ := hrel
    have szr := hB.size
    by_cases hlt : i < n
    · have hil : i < l.length := by rw [← Hn.out]; exact hlt
      obtain ⟨x, hx⟩ : ∃ x, x = l[i] := ⟨_, rfl⟩
      have gx := hIX.out i x (by rw [hx]; exact List.getElem?_eq_getElem hil)
      have i0 : (0 : Int) ≤ (i : Int) := by omega
      have i1 : (i : Int) < (n : Int) := by omega
      by_cases hxc : x = c
      · subst hxc
        obtain ⟨T, hT⟩ : ∃ T, T = (l.drop f).take (i - f) := ⟨_, rfl⟩
        have e1 : S.extract f i = bs T := by rw [hEX.out, hT]
        have hsp := split_at hfi hil hx.symm hI.out.2.1
        have hKl : K.length + 1 ≤ 900000 := by
          have h1 := congrArg List.length hI.out.1
          rw [hsp] at h1
          have h2 := split_len x l
          have h3 := Hn.out
          have h4 := splitB_ne x (l.drop (i + 1))
          have h5 : 1 ≤ (splitB x (l.drop (i + 1))).length := by
            rcases hq : splitB x (l.drop (i + 1)) with _ | ⟨a, b⟩
            · exact absurd hq h4
            · simp
          simp at h1
          omega
        have HP : Hid ((K ++ [T]) ++ splitB x (l.drop (i + 1)) = splitB x l) := by
          show _ = _
          rw [← hI.out.1, hsp, hT, List.append_assoc]; rfl
        have HO := Lib.hid hI.out.2.2
        have f0 : (0 : Int) ≤ (f : Int) := by omega
        have f1 : (f : Int) ≤ (i : Int) := by omega
        have f2 : i ≤ n := by omega
        have f3 : (i : Int) ≤ (n : Int) := by omega
        clear hI hsp hT hx hil hEX hEN hIX
        go_wp2_with (at_builtin; refine wpList_appS _ w.heap.size rfl (.tmp 19) (.tmp 24) rfl rfl v K [T] rfl (rowS_below HO.out (by (repeat' (first | (with_reducible assumption) | (with_reducible exact Below.refl _ _) | (with_reducible refine below_wov ?_ ?_ _) | (with_reducible refine below_drewN ?_ _) | (with_reducible refine Below.drew ?_) | (with_reducible refine Below.alloc ?_ ?_ _) | (with_reducible refine Below.setCell ?_ ?_ _) | (with_reducible exact Nat.le_refl _) | omega | (simp only [World.size_alloc, World.size_setCell, World.size_drew, Wov_size, World.heap_drewN]; omega))))) ⟨_, 0, none⟩ 1 rfl ?hR (by simp; omega) (by (first | omega | ((simp only [World.size_alloc, World.size_setCell, World.size_drew, Wov_size, World.heap_drewN, Array.size_append]) <;> omega))) ?_; (case hR => (intro j y hy; have hj : j = 0 := (by have := (List.getElem?_eq_some_iff.1 hy).1; simpa using this); subst hj; simp only [List.getElem?_cons_zero, Option.some.injEq] at hy; rw [← hy]; simp [go_sem])); intro v1 w1 ho1 hg1; have hx1 := rowS_grown (rowS_below HO.out (by (repeat' (first | (with_reducible assumption) | (with_reducible exact Below.refl _ _) | (with_reducible refine below_wov ?_ ?_ _) | (with_reducible refine below_drewN ?_ _) | (with_reducible refine Below.drew ?_) | (with_reducible refine Below.alloc ?_ ?_ _) | (with_reducible refine Below.setCell ?_ ?_ _) | (with_reducible exact Nat.le_refl _) | omega | (simp only [World.size_alloc, World.size_setCell, World.size_drew, Wov_size, World.heap_drewN]; omega))))) (Below.refl _ _) hg1 (by (first | omega | ((simp only [World.size_alloc, World.size_setCell, World.size_drew, Wov_size, World.heap_drewN, Array.size_append]) <;> omega))); have hw1 : Below w.heap.size w w1 := (by refine Below.trans ?_ hx1; (repeat' (first | (with_reducible assumption) | (with_reducible exact Below.refl _ _) | (with_reducible refine below_wov ?_ ?_ _) | (with_reducible refine below_drewN ?_ _) | (with_reducible refine Below.drew ?_) | (with_reducible refine Below.alloc ?_ ?_ _) | (with_reducible refine Below.setCell ?_ ?_ _) | (with_reducible exact Nat.le_refl _) | omega | (simp only [World.size_alloc, World.size_setCell, World.size_drew, Wov_size, World.heap_drewN]; omega)))); have HO1 := Lib.hid ho1; clear ho1 hg1 hx1)
        go_roundw
        case rel => exact ⟨i + 1, i + 1, v1, K ++ [T], rfl, by go_num, by go_num, Nat.le_refl _, hlt, by simp; omega, by (repeat' (first | (with_reducible assumption) | (with_reducible exact Below.refl _ _) | (with_reducible refine below_wov ?_ ?_ _) | (with_reducible refine below_drewN ?_ _) | (with_reducible refine Below.drew ?_) | (with_reducible refine Below.alloc ?_ ?_ _) | (with_reducible refine Below.setCell ?_ ?_ _) | (with_reducible exact Nat.le_refl _) | omega | (simp only [World.size_alloc, World.size_setCell, World.size_drew, Wov_size, World.heap_drewN]; omega))), ⟨HP.out, by simp, HO1.out⟩⟩
        case measure => simp [intOf]; omega
      · have d1 : ((x.toNat : Int) == (c.toNat : Int)) = false := by
          rw [beq_eq_false_iff_ne]; intro h; exact hxc (UInt8.toNat_inj.1 (by omega))
        have hnt : c ∉ (l.drop f).take (i + 1 - f) := by
          rw [take_at hfi hil]
          intro hm
          rcases List.mem_append.1 hm with hm | hm
          · exact hI.out.2.1 hm
          · simp only [List.mem_cons, List.mem_nil_iff, or_false] at hm
            exact hxc (by rw [hx, hm])
        have HI := Lib.hid (And.intro hI.out.1 (And.intro hnt hI.out.2.2))
        clear hI hnt hx hxc hil hEX hEN hIX
        go_wp2_with (fail)
        go_roundw
        case rel => exact ⟨i + 1, f, v, K, rfl, rfl, by go_num, by omega, hlt, hK, by (repeat' (first | (with_reducible assumption) | (with_reducible exact Below.refl _ _) | (with_reducible refine below_wov ?_ ?_ _) | (with_reducible refine below_drewN ?_ _) | (with_reducible refine Below.drew ?_) | (with_reducible refine Below.alloc ?_ ?_ _) | (with_reducible refine Below.setCell ?_ ?_ _) | (with_reducible exact Nat.le_refl _) | omega | (simp only [World.size_alloc, World.size_setCell, World.size_drew, Wov_size, World.heap_drewN]; omega))), HI.out⟩
        case measure => simp [intOf]; omega
    · obtain rfl : i = n := by omega
      have hll : (l.drop f).length ≤ i - f := by rw [List.length_drop, Hn.out]; omega
      have hnm : c ∉ l.drop f := by
        have := hI.out.2.1
        rwa [List.take_of_length_le hll] at this
      have HP : Hid (K ++ [l.drop f] = splitB c l) := by
        show _ = _
        rw [← hI.out.1, split_last c _ hnm]
      have HO := Lib.hid hI.out.2.2
      have e1 : S.extract f i = bs (l.drop f) := by
        have := hEN.out f
        rwa [hsz] at this
      obtain ⟨T, hT⟩ : ∃ T, T = l.drop f := ⟨_, rfl⟩
      rw [← hT] at HP e1
      have f0 : (0 : Int) ≤ (f : Int) := by omega
      have f1 : (f : Int) ≤ (i : Int) := by omega
      clear hI hnm hll hT hEX hEN hIX
      go_wp2_with (at_builtin; refine wpList_appS _ w.heap.size rfl (.tmp 28) (.tmp 32) rfl rfl v K [T] rfl (rowS_below HO.out (by (repeat' (first | (with_reducible assumption) | (with_reducible exact Below.refl _ _) | (with_reducible refine below_wov ?_ ?_ _) | (with_reducible refine below_drewN ?_ _) | (with_reducible refine Below.drew ?_) | (with_reducible refine Below.alloc ?_ ?_ _) | (with_reducible refine Below.setCell ?_ ?_ _) | (with_reducible exact Nat.le_refl _) | omega | (simp only [World.size_alloc, World.size_setCell, World.size_drew, Wov_size, World.heap_drewN]; omega))))) ⟨_, 0, none⟩ 1 rfl ?hR (by simp; omega) (by (first | omega | ((simp only [World.size_alloc, World.size_setCell, World.size_drew, Wov_size, World.heap_drewN, Array.size_append]) <;> omega))) ?_; (case hR => (intro j y hy; have hj : j = 0 := (by have := (List.getElem?_eq_some_iff.1 hy).1; simpa using this); subst hj; simp only [List.getElem?_cons_zero, Option.some.injEq] at hy; rw [← hy]; simp [go_sem])); intro v1 w1 ho1 hg1; have hx1 := rowS_grown (rowS_below HO.out (by (repeat' (first | (with_reducible assumption) | (with_reducible exact Below.refl _ _) | (with_reducible refine below_wov ?_ ?_ _) | (with_reducible refine below_drewN ?_ _) | (with_reducible refine Below.drew ?_) | (with_reducible refine Below.alloc ?_ ?_ _) | (with_reducible refine Below.setCell ?_ ?_ _) | (with_reducible exact Nat.le_refl _) | omega | (simp only [World.size_alloc, World.size_setCell, World.size_drew, Wov_size, World.heap_drewN]; omega))))) (Below.refl _ _) hg1 (by (first | omega | ((simp only [World.size_alloc, World.size_setCell, World.size_drew, Wov_size, World.heap_drewN, Array.size_append]) <;> omega))); have hw1 : Below w.heap.size w w1 := (by refine Below.trans ?_ hx1; (repeat' (first | (with_reducible assumption) | (with_reducible exact Below.refl _ _) | (with_reducible refine below_wov ?_ ?_ _) | (with_reducible refine below_drewN ?_ _) | (with_reducible refine Below.drew ?_) | (with_reducible refine Below.alloc ?_ ?_ _) | (with_reducible refine Below.setCell ?_ ?_ _) | (with_reducible exact Nat.le_refl _) | omega | (simp only [World.size_alloc, World.size_setCell, World.size_drew, Wov_size, World.heap_drewN]; omega)))); have HO1 := Lib.hid ho1; clear ho1 hg1 hx1)
      have hr := HO1.out
      rw [HP.out] at hr
      obtain ⟨p, cq, rfl, hcq, hS⟩ := slS_of_row hr
      go_ret
      exact ⟨p, cq, gives_end rfl (by (repeat' (first | (with_reducible assumption) | (with_reducible exact Below.refl _ _) | (with_reducible refine below_wov ?_ ?_ _) | (with_reducible refine below_drewN ?_ _) | (with_reducible refine Below.drew ?_) | (with_reducible refine Below.alloc ?_ ?_ _) | (with_reducible refine Below.setCell ?_ ?_ _) | (with_reducible exact Nat.le_refl _) | omega | (simp only [World.size_alloc, World.size_setCell, World.size_drew, Wov_size, World.heap_drewN]; omega)))), hcq, hS⟩
#print axioms cut31_any
end Go.Proofs.YtpmpapenjcemjaaGreatDoor

namespace Go.Proofs.YtpmpapenjcemjaaGreatDoor
set_option linter.unusedSimpArgs false
set_option linter.unusedVariables false
open Go Go.RowKit Go.Shelf
attribute [local go_sem] Nat.add_assoc Nat.add_lt_add_iff_left lit_lt_add

def dashT (l : List UInt8) : List UInt8 := if l.head? = some 45 ∧ l ≠ [45, 48] then l.tail else l
theorem canon_dash (l : List UInt8) : canonT l = canonD (dashT l) := by
  unfold canonT dashT
  by_cases h : l.head? = some 45
  · rw [if_pos h]
    by_cases h2 : l = [45, 48]
    · rw [if_neg (fun hh => hh.2 h2), h2]; decide
    · rw [if_pos ⟨h, h2⟩]
      have : l.tail ≠ [48] := by
        intro e
        cases l with
        | nil => cases h
        | cons x r =>
          simp only [List.head?_cons, Option.some.injEq] at h
          simp only [List.tail_cons] at e
          exact h2 (by rw [h, e])
      rw [decide_eq_true this, Bool.and_true]
  · rw [if_neg h, if_neg (fun hh => h hh.1)]
theorem isD_dec (x : UInt8) : (isD x = true ∧ decide ((x.toNat : Int) < 48) = false ∧ decide (57 < (x.toNat : Int)) = false) ∨ (isD x = false ∧ decide ((x.toNat : Int) < 48) = true) ∨ (isD x = false ∧ decide ((x.toNat : Int) < 48) = false ∧ decide (57 < (x.toNat : Int)) = true) := by
  unfold isD
  by_cases h1 : x.toNat < 48
  · exact .inr (.inl ⟨decide_eq_false (by omega), decide_eq_true (by omega)⟩)
  · by_cases h2 : 57 < x.toNat
    · exact .inr (.inr ⟨decide_eq_false (by omega), decide_eq_false (by omega), decide_eq_true (by omega)⟩)
    · exact .inl ⟨decide_eq_true (by omega), decide_eq_false (by omega), decide_eq_false (by omega)⟩
theorem canonD_bad {B : List UInt8} {i : Nat} {x : UInt8} (h : B[i]? = some x) (hx : isD x = false) : canonD B = false := by
  unfold canonD
  have : B.all isD = false := by
    rw [Bool.eq_false_iff]; intro ha
    have := List.all_eq_true.1 ha x (List.mem_of_getElem? h)
    rw [hx] at this; cases this
  rw [this, Bool.false_and]
theorem canonD_good {B : List UInt8} {n : Nat} (hn : n = B.length) (h : ∀ k x, k < n → B[k]? = some x → isD x = true) : canonD B = (decide (B = [48]) || (!B.isEmpty && decide (B.head? ≠ some 48))) := by
  unfold canonD
  have : B.all isD = true := by
    rw [List.all_eq_true]
    intro x hx
    obtain ⟨k, hk, rfl⟩ := List.getElem_of_mem hx
    exact h k _ (by omega) (List.getElem?_eq_getElem hk)
  rw [this, Bool.true_and]
set_option maxRecDepth 10000 in
set_option maxHeartbeats 4000000 in
theorem digits31_any (l : List UInt8) (hl : l.length ≤ 900000) (w : World) : Calls Tryz.prog 114 #[.string (bs l)] w (Gives w (.bool (canonT l))) := by
  obtain ⟨C, hC⟩ : ∃ C, C = canonT l := ⟨_, rfl⟩
  rw [← hC]
  rw [canon_dash] at hC
  unfold dashT at hC
  by_cases h45 : l.head? = some 45 ∧ l ≠ [45, 48]
  · rw [if_pos h45] at hC
    obtain ⟨h1, h2⟩ := h45
    obtain ⟨B, rfl⟩ : ∃ r, l = 45 :: r := by
      cases l with
      | nil => cases h1
      | cons x r => simp only [List.head?_cons, Option.some.injEq] at h1; exact ⟨r, by rw [h1]⟩
    rw [List.tail_cons] at hC
    have HC := Lib.hid hC
    have q1 : (45 :: B == [45, 48]) = false := by rw [beq_eq_false_iff_ne]; exact h2
    have e0 : ∀ h, (bs (45 :: B))[0]'h = 45 := fun h => rfl
    have e1 : (bs (45 :: B)).extract 1 (bs (45 :: B)).size = bs B := by rw [bs_end]; rfl
    have szl : (bs (45 :: B)).size = 1 + B.length := by rw [bs_size, List.length_cons, Nat.add_comm]
    have szB : (bs B).size = B.length := bs_size B
    have gB := Lib.hid (bs_at B)
    obtain ⟨n, hn⟩ : ∃ n, n = B.length := ⟨_, rfl⟩
    have hm : ∃ m, m = 1 + n := ⟨_, rfl⟩
    rw [← hn] at szl szB
    rw [szl] at e1
    have hq2 : B ≠ [48] := fun h => h2 (by rw [h])
    have q2 : (B == [48]) = false := by rw [beq_eq_false_iff_ne]; exact hq2
    have hl2 : n ≤ 900000 := by rw [hn]; simp at hl; omega
    have Hn := Lib.hid hn
    clear h1 h2 hC hn hm hq2 hl
    go_enter Tryz.func114, Tryz.ntmps114
    go_wp2_with (fail)
    · clear q1 e0 e1 szl q2
      · skip
        go_loopw [3] (fun s3 wr => ∃ i : Nat, s3 = .int .i64 i ∧ i ≤ n ∧ Below w.heap.size w wr ∧ Hid (∀ k x, k < i → B[k]? = some x → isD x = true))
          (fun s3 _ => n - (intOf s3).toNat)
        case atStart => exact ⟨0, rfl, Nat.zero_le _, Below.refl _ _, fun k x hk => absurd hk (Nat.not_lt_zero _)⟩
        case round =>
          obtain ⟨i, rfl, hin, hBl, hI⟩ := hrel
          by_cases hlt : i < n
          · obtain ⟨x, hx⟩ : ∃ x, B[i]? = some x := ⟨_, List.getElem?_eq_getElem (by rw [← Hn.out]; exact hlt)⟩
            have gx := gB.out i x hx
            have i0 : (0 : Int) ≤ (i : Int) := by omega
            have i1 : (i : Int) < (n : Int) := by omega
            rcases isD_dec x with ⟨hd, k1, k2⟩ | ⟨hd, k1⟩ | ⟨hd, k1, k2⟩
            · have HI : Hid (∀ k x, k < i + 1 → B[k]? = some x → isD x = true) := fun k y hk hy => by
                by_cases e : k = i
                · rw [e, hx] at hy; rw [← Option.some.inj hy]; exact hd
                · exact hI.out k y (by omega) hy
              clear hx hd hI
              go_wp2_with (fail)
              go_roundw
              case rel => exact ⟨i + 1, by go_num, hlt, by (repeat' (first | (with_reducible assumption) | (with_reducible exact Below.refl _ _) | (with_reducible refine below_wov ?_ ?_ _) | (with_reducible refine below_drewN ?_ _) | (with_reducible refine Below.drew ?_) | (with_reducible refine Below.alloc ?_ ?_ _) | (with_reducible refine Below.setCell ?_ ?_ _) | (with_reducible exact Nat.le_refl _) | omega | (simp only [World.size_alloc, World.size_setCell, World.size_drew, Wov_size, World.heap_drewN]; omega))), HI⟩
              case measure => simp [intOf]; omega
            · have hC : C = false := by rw [HC.out]; exact canonD_bad hx hd
              clear hx hd hI HC
              subst hC
              go_wp2_with (fail)
              go_ret
              exact gives_end rfl (by (repeat' (first | (with_reducible assumption) | (with_reducible exact Below.refl _ _) | (with_reducible refine below_wov ?_ ?_ _) | (with_reducible refine below_drewN ?_ _) | (with_reducible refine Below.drew ?_) | (with_reducible refine Below.alloc ?_ ?_ _) | (with_reducible refine Below.setCell ?_ ?_ _) | (with_reducible exact Nat.le_refl _) | omega | (simp only [World.size_alloc, World.size_setCell, World.size_drew, Wov_size, World.heap_drewN]; omega))))
            · have hC : C = false := by rw [HC.out]; exact canonD_bad hx hd
              clear hx hd hI HC
              subst hC
              go_wp2_with (fail)
              go_ret
              exact gives_end rfl (by (repeat' (first | (with_reducible assumption) | (with_reducible exact Below.refl _ _) | (with_reducible refine below_wov ?_ ?_ _) | (with_reducible refine below_drewN ?_ _) | (with_reducible refine Below.drew ?_) | (with_reducible refine Below.alloc ?_ ?_ _) | (with_reducible refine Below.setCell ?_ ?_ _) | (with_reducible exact Nat.le_refl _) | omega | (simp only [World.size_alloc, World.size_setCell, World.size_drew, Wov_size, World.heap_drewN]; omega))))
          · obtain rfl : i = n := by omega
            have hC0 := HC.out.trans (canonD_good Hn.out hI.out)
            have hszB := Lib.hid szB
            clear hI HC hin hlt
            by_cases h48 : B = [48]
            · have hC : C = true := by rw [hC0, decide_eq_true h48]; rfl
              have hq : (B == [48]) = true := by rw [beq_iff_eq]; exact h48
              clear h48 hC0
              subst hC
              go_wp2_with (fail)
              all_goals
                go_ret
                exact gives_end rfl (by (repeat' (first | (with_reducible assumption) | (with_reducible exact Below.refl _ _) | (with_reducible refine below_wov ?_ ?_ _) | (with_reducible refine below_drewN ?_ _) | (with_reducible refine Below.drew ?_) | (with_reducible refine Below.alloc ?_ ?_ _) | (with_reducible refine Below.setCell ?_ ?_ _) | (with_reducible exact Nat.le_refl _) | omega | (simp only [World.size_alloc, World.size_setCell, World.size_drew, Wov_size, World.heap_drewN]; omega))))
            · rw [decide_eq_false h48, Bool.false_or] at hC0
              have hq : (B == [48]) = false := by rw [beq_eq_false_iff_ne]; exact h48
              cases hbb : B.head? with
              | none =>
                have hnil : B = [] := by simpa using hbb
                have hC : C = false := by rw [hC0, hnil]; rfl
                have he : B.isEmpty = true := by rw [hnil]; rfl
                have he2 : (bs B).toList.isEmpty = true := by rw [Lib.toList_data, bs_list]; exact he
                clear h48 hbb hnil hC0
                subst hC
                go_wp2_with (fail)
                all_goals
                  go_ret
                  exact gives_end rfl (by (repeat' (first | (with_reducible assumption) | (with_reducible exact Below.refl _ _) | (with_reducible refine below_wov ?_ ?_ _) | (with_reducible refine below_drewN ?_ _) | (with_reducible refine Below.drew ?_) | (with_reducible refine Below.alloc ?_ ?_ _) | (with_reducible refine Below.setCell ?_ ?_ _) | (with_reducible exact Nat.le_refl _) | omega | (simp only [World.size_alloc, World.size_setCell, World.size_drew, Wov_size, World.heap_drewN]; omega))))
              | some y =>
                have hy0 : B[0]? = some y := by rw [← List.head?_eq_getElem?]; exact hbb
                have gy := gB.out 0 y hy0
                have he : B.isEmpty = false := by
                  cases hh : B with
                  | nil => rw [hh] at hbb; cases hbb
                  | cons => rfl
                have he2 : (bs B).toList.isEmpty = false := by rw [Lib.toList_data, bs_list]; exact he
                have hi0 : 0 < i := by
                  have := (List.getElem?_eq_some_iff.1 hy0).1
                  have := Hn.out
                  omega
                have hi1 : (0 : Int) < ((bs B).size : Int) := by rw [hszB.out]; omega
                have hi2 : 0 < (bs B).size := by rw [hszB.out]; omega
                rw [hbb, he] at hC0
                by_cases hy : y = 48
                · have hC : C = false := by rw [hC0, hy]; rfl
                  have dy : ((y.toNat : Int) != 48) = false := by rw [hy]; rfl
                  clear h48 hbb hy0 hy hC0
                  subst hC
                  go_wp2_with (fail)
                  all_goals
                    go_ret
                    exact gives_end rfl (by (repeat' (first | (with_reducible assumption) | (with_reducible exact Below.refl _ _) | (with_reducible refine below_wov ?_ ?_ _) | (with_reducible refine below_drewN ?_ _) | (with_reducible refine Below.drew ?_) | (with_reducible refine Below.alloc ?_ ?_ _) | (with_reducible refine Below.setCell ?_ ?_ _) | (with_reducible exact Nat.le_refl _) | omega | (simp only [World.size_alloc, World.size_setCell, World.size_drew, Wov_size, World.heap_drewN]; omega))))
                · have hC : C = true := by rw [hC0, decide_eq_true (by simpa using hy)]; rfl
                  have dy : ((y.toNat : Int) != 48) = true := by
                    rw [bne_iff_ne]; intro h; exact hy (UInt8.toNat_inj.1 (by show y.toNat = 48; omega))
                  clear h48 hbb hy0 hy hC0
                  subst hC
                  go_wp2_with (fail)
                  all_goals
                    go_ret
                    exact gives_end rfl (by (repeat' (first | (with_reducible assumption) | (with_reducible exact Below.refl _ _) | (with_reducible refine below_wov ?_ ?_ _) | (with_reducible refine below_drewN ?_ _) | (with_reducible refine Below.drew ?_) | (with_reducible refine Below.alloc ?_ ?_ _) | (with_reducible refine Below.setCell ?_ ?_ _) | (with_reducible exact Nat.le_refl _) | omega | (simp only [World.size_alloc, World.size_setCell, World.size_drew, Wov_size, World.heap_drewN]; omega))))
  · rw [if_neg h45] at hC
    have HC := Lib.hid hC
    have szB : (bs l).size = l.length := bs_size l
    have gB := Lib.hid (bs_at l)
    obtain ⟨n, hn⟩ : ∃ n, n = l.length := ⟨_, rfl⟩
    rw [← hn] at szB hl
    have Hn := Lib.hid hn
    have hl2 : n ≤ 900000 := hl
    clear hC hn hl
    cases hh : l.head? with
    | none =>
      have hnil : l = [] := by simpa using hh
      have q1 : l.isEmpty = true := by rw [hnil]; rfl
      have q2 : (bs l).toList.isEmpty = true := by rw [Lib.toList_data, bs_list]; exact q1
      clear h45 hh hnil
      go_enter Tryz.func114, Tryz.ntmps114
      go_wp2_with (fail)
      · clear q1 q2
        go_loopw [3] (fun s3 wr => ∃ i : Nat, s3 = .int .i64 i ∧ i ≤ n ∧ Below w.heap.size w wr ∧ Hid (∀ k x, k < i → l[k]? = some x → isD x = true))
          (fun s3 _ => n - (intOf s3).toNat)
        case atStart => exact ⟨0, rfl, Nat.zero_le _, Below.refl _ _, fun k x hk => absurd hk (Nat.not_lt_zero _)⟩
        case round =>
          obtain ⟨i, rfl, hin, hBl, hI⟩ := hrel
          by_cases hlt : i < n
          · obtain ⟨x, hx⟩ : ∃ x, l[i]? = some x := ⟨_, List.getElem?_eq_getElem (by rw [← Hn.out]; exact hlt)⟩
            have gx := gB.out i x hx
            have i0 : (0 : Int) ≤ (i : Int) := by omega
            have i1 : (i : Int) < (n : Int) := by omega
            rcases isD_dec x with ⟨hd, k1, k2⟩ | ⟨hd, k1⟩ | ⟨hd, k1, k2⟩
            · have HI : Hid (∀ k x, k < i + 1 → l[k]? = some x → isD x = true) := fun k y hk hy => by
                by_cases e : k = i
                · rw [e, hx] at hy; rw [← Option.some.inj hy]; exact hd
                · exact hI.out k y (by omega) hy
              clear hx hd hI
              go_wp2_with (fail)
              go_roundw
              case rel => exact ⟨i + 1, by go_num, hlt, by (repeat' (first | (with_reducible assumption) | (with_reducible exact Below.refl _ _) | (with_reducible refine below_wov ?_ ?_ _) | (with_reducible refine below_drewN ?_ _) | (with_reducible refine Below.drew ?_) | (with_reducible refine Below.alloc ?_ ?_ _) | (with_reducible refine Below.setCell ?_ ?_ _) | (with_reducible exact Nat.le_refl _) | omega | (simp only [World.size_alloc, World.size_setCell, World.size_drew, Wov_size, World.heap_drewN]; omega))), HI⟩
              case measure => simp [intOf]; omega
            · have hC : C = false := by rw [HC.out]; exact canonD_bad hx hd
              clear hx hd hI HC
              subst hC
              go_wp2_with (fail)
              go_ret
              exact gives_end rfl (by (repeat' (first | (with_reducible assumption) | (with_reducible exact Below.refl _ _) | (with_reducible refine below_wov ?_ ?_ _) | (with_reducible refine below_drewN ?_ _) | (with_reducible refine Below.drew ?_) | (with_reducible refine Below.alloc ?_ ?_ _) | (with_reducible refine Below.setCell ?_ ?_ _) | (with_reducible exact Nat.le_refl _) | omega | (simp only [World.size_alloc, World.size_setCell, World.size_drew, Wov_size, World.heap_drewN]; omega))))
            · have hC : C = false := by rw [HC.out]; exact canonD_bad hx hd
              clear hx hd hI HC
              subst hC
              go_wp2_with (fail)
              go_ret
              exact gives_end rfl (by (repeat' (first | (with_reducible assumption) | (with_reducible exact Below.refl _ _) | (with_reducible refine below_wov ?_ ?_ _) | (with_reducible refine below_drewN ?_ _) | (with_reducible refine Below.drew ?_) | (with_reducible refine Below.alloc ?_ ?_ _) | (with_reducible refine Below.setCell ?_ ?_ _) | (with_reducible exact Nat.le_refl _) | omega | (simp only [World.size_alloc, World.size_setCell, World.size_drew, Wov_size, World.heap_drewN]; omega))))
          · obtain rfl : i = n := by omega
            have hC0 := HC.out.trans (canonD_good Hn.out hI.out)
            have hszB := Lib.hid szB
            clear hI HC hin hlt
            by_cases h48 : l = [48]
            · have hC : C = true := by rw [hC0, decide_eq_true h48]; rfl
              have hq : (l == [48]) = true := by rw [beq_iff_eq]; exact h48
              clear h48 hC0
              subst hC
              go_wp2_with (fail)
              all_goals
                go_ret
                exact gives_end rfl (by (repeat' (first | (with_reducible assumption) | (with_reducible exact Below.refl _ _) | (with_reducible refine below_wov ?_ ?_ _) | (with_reducible refine below_drewN ?_ _) | (with_reducible refine Below.drew ?_) | (with_reducible refine Below.alloc ?_ ?_ _) | (with_reducible refine Below.setCell ?_ ?_ _) | (with_reducible exact Nat.le_refl _) | omega | (simp only [World.size_alloc, World.size_setCell, World.size_drew, Wov_size, World.heap_drewN]; omega))))
            · rw [decide_eq_false h48, Bool.false_or] at hC0
              have hq : (l == [48]) = false := by rw [beq_eq_false_iff_ne]; exact h48
              cases hbb : l.head? with
              | none =>
                have hnil : l = [] := by simpa using hbb
                have hC : C = false := by rw [hC0, hnil]; rfl
                have he : l.isEmpty = true := by rw [hnil]; rfl
                have he2 : (bs l).toList.isEmpty = true := by rw [Lib.toList_data, bs_list]; exact he
                clear h48 hbb hnil hC0
                subst hC
                go_wp2_with (fail)
                all_goals
                  go_ret
                  exact gives_end rfl (by (repeat' (first | (with_reducible assumption) | (with_reducible exact Below.refl _ _) | (with_reducible refine below_wov ?_ ?_ _) | (with_reducible refine below_drewN ?_ _) | (with_reducible refine Below.drew ?_) | (with_reducible refine Below.alloc ?_ ?_ _) | (with_reducible refine Below.setCell ?_ ?_ _) | (with_reducible exact Nat.le_refl _) | omega | (simp only [World.size_alloc, World.size_setCell, World.size_drew, Wov_size, World.heap_drewN]; omega))))
              | some y =>
                have hy0 : l[0]? = some y := by rw [← List.head?_eq_getElem?]; exact hbb
                have gy := gB.out 0 y hy0
                have he : l.isEmpty = false := by
                  cases hh : l with
                  | nil => rw [hh] at hbb; cases hbb
                  | cons => rfl
                have he2 : (bs l).toList.isEmpty = false := by rw [Lib.toList_data, bs_list]; exact he
                have hi0 : 0 < i := by
                  have := (List.getElem?_eq_some_iff.1 hy0).1
                  have := Hn.out
                  omega
                have hi1 : (0 : Int) < ((bs l).size : Int) := by rw [hszB.out]; omega
                have hi2 : 0 < (bs l).size := by rw [hszB.out]; omega
                rw [hbb, he] at hC0
                by_cases hy : y = 48
                · have hC : C = false := by rw [hC0, hy]; rfl
                  have dy : ((y.toNat : Int) != 48) = false := by rw [hy]; rfl
                  clear h48 hbb hy0 hy hC0
                  subst hC
                  go_wp2_with (fail)
                  all_goals
                    go_ret
                    exact gives_end rfl (by (repeat' (first | (with_reducible assumption) | (with_reducible exact Below.refl _ _) | (with_reducible refine below_wov ?_ ?_ _) | (with_reducible refine below_drewN ?_ _) | (with_reducible refine Below.drew ?_) | (with_reducible refine Below.alloc ?_ ?_ _) | (with_reducible refine Below.setCell ?_ ?_ _) | (with_reducible exact Nat.le_refl _) | omega | (simp only [World.size_alloc, World.size_setCell, World.size_drew, Wov_size, World.heap_drewN]; omega))))
                · have hC : C = true := by rw [hC0, decide_eq_true (by simpa using hy)]; rfl
                  have dy : ((y.toNat : Int) != 48) = true := by
                    rw [bne_iff_ne]; intro h; exact hy (UInt8.toNat_inj.1 (by show y.toNat = 48; omega))
                  clear h48 hbb hy0 hy hC0
                  subst hC
                  go_wp2_with (fail)
                  all_goals
                    go_ret
                    exact gives_end rfl (by (repeat' (first | (with_reducible assumption) | (with_reducible exact Below.refl _ _) | (with_reducible refine below_wov ?_ ?_ _) | (with_reducible refine below_drewN ?_ _) | (with_reducible refine Below.drew ?_) | (with_reducible refine Below.alloc ?_ ?_ _) | (with_reducible refine Below.setCell ?_ ?_ _) | (with_reducible exact Nat.le_refl _) | omega | (simp only [World.size_alloc, World.size_setCell, World.size_drew, Wov_size, World.heap_drewN]; omega))))
    | some x =>
      have hx0 : l[0]? = some x := by rw [← List.head?_eq_getElem?]; exact hh
      have e0 := gB.out 0 x hx0
      have q1 : l.isEmpty = false := by
        cases l with
        | nil => cases hh
        | cons => rfl
      have q2 : (bs l).toList.isEmpty = false := by rw [Lib.toList_data, bs_list]; exact q1
      have s0 : 0 < n := by
        have := (List.getElem?_eq_some_iff.1 hx0).1
        have := Hn.out
        omega
      have s1 : (0 : Int) < (n : Int) := by omega
      by_cases hx : x = 45
      · have h2 : l = [45, 48] := by
          by_cases h : l = [45, 48]
          · exact h
          · exact absurd ⟨by rw [hh, hx], h⟩ h45
        have dx : ((x.toNat : Int) == 45) = true := by rw [hx]; rfl
        have q3 : (l == [45, 48]) = true := by rw [beq_iff_eq]; exact h2
        clear h45 hh hx0 hx h2
        go_enter Tryz.func114, Tryz.ntmps114
        go_wp2_with (fail)
        · clear q1 q2 q3 s0 s1 dx e0
          go_loopw [3] (fun s3 wr => ∃ i : Nat, s3 = .int .i64 i ∧ i ≤ n ∧ Below w.heap.size w wr ∧ Hid (∀ k x, k < i → l[k]? = some x → isD x = true))
            (fun s3 _ => n - (intOf s3).toNat)
          case atStart => exact ⟨0, rfl, Nat.zero_le _, Below.refl _ _, fun k x hk => absurd hk (Nat.not_lt_zero _)⟩
          case round =>
            obtain ⟨i, rfl, hin, hBl, hI⟩ := hrel
            by_cases hlt : i < n
            · obtain ⟨x, hx⟩ : ∃ x, l[i]? = some x := ⟨_, List.getElem?_eq_getElem (by rw [← Hn.out]; exact hlt)⟩
              have gx := gB.out i x hx
              have i0 : (0 : Int) ≤ (i : Int) := by omega
              have i1 : (i : Int) < (n : Int) := by omega
              rcases isD_dec x with ⟨hd, k1, k2⟩ | ⟨hd, k1⟩ | ⟨hd, k1, k2⟩
              · have HI : Hid (∀ k x, k < i + 1 → l[k]? = some x → isD x = true) := fun k y hk hy => by
                  by_cases e : k = i
                  · rw [e, hx] at hy; rw [← Option.some.inj hy]; exact hd
                  · exact hI.out k y (by omega) hy
                clear hx hd hI
                go_wp2_with (fail)
                go_roundw
                case rel => exact ⟨i + 1, by go_num, hlt, by (repeat' (first | (with_reducible assumption) | (with_reducible exact Below.refl _ _) | (with_reducible refine below_wov ?_ ?_ _) | (with_reducible refine below_drewN ?_ _) | (with_reducible refine Below.drew ?_) | (with_reducible refine Below.alloc ?_ ?_ _) | (with_reducible refine Below.setCell ?_ ?_ _) | (with_reducible exact Nat.le_refl _) | omega | (simp only [World.size_alloc, World.size_setCell, World.size_drew, Wov_size, World.heap_drewN]; omega))), HI⟩
                case measure => simp [intOf]; omega
              · have hC : C = false := by rw [HC.out]; exact canonD_bad hx hd
                clear hx hd hI HC
                subst hC
                go_wp2_with (fail)
                go_ret
                exact gives_end rfl (by (repeat' (first | (with_reducible assumption) | (with_reducible exact Below.refl _ _) | (with_reducible refine below_wov ?_ ?_ _) | (with_reducible refine below_drewN ?_ _) | (with_reducible refine Below.drew ?_) | (with_reducible refine Below.alloc ?_ ?_ _) | (with_reducible refine Below.setCell ?_ ?_ _) | (with_reducible exact Nat.le_refl _) | omega | (simp only [World.size_alloc, World.size_setCell, World.size_drew, Wov_size, World.heap_drewN]; omega))))
              · have hC : C = false := by rw [HC.out]; exact canonD_bad hx hd
                clear hx hd hI HC
                subst hC
                go_wp2_with (fail)
                go_ret
                exact gives_end rfl (by (repeat' (first | (with_reducible assumption) | (with_reducible exact Below.refl _ _) | (with_reducible refine below_wov ?_ ?_ _) | (with_reducible refine below_drewN ?_ _) | (with_reducible refine Below.drew ?_) | (with_reducible refine Below.alloc ?_ ?_ _) | (with_reducible refine Below.setCell ?_ ?_ _) | (with_reducible exact Nat.le_refl _) | omega | (simp only [World.size_alloc, World.size_setCell, World.size_drew, Wov_size, World.heap_drewN]; omega))))
            · obtain rfl : i = n := by omega
              have hC0 := HC.out.trans (canonD_good Hn.out hI.out)
              have hszB := Lib.hid szB
              clear hI HC hin hlt
              by_cases h48 : l = [48]
              · have hC : C = true := by rw [hC0, decide_eq_true h48]; rfl
                have hq : (l == [48]) = true := by rw [beq_iff_eq]; exact h48
                clear h48 hC0
                subst hC
                go_wp2_with (fail)
                all_goals
                  go_ret
                  exact gives_end rfl (by (repeat' (first | (with_reducible assumption) | (with_reducible exact Below.refl _ _) | (with_reducible refine below_wov ?_ ?_ _) | (with_reducible refine below_drewN ?_ _) | (with_reducible refine Below.drew ?_) | (with_reducible refine Below.alloc ?_ ?_ _) | (with_reducible refine Below.setCell ?_ ?_ _) | (with_reducible exact Nat.le_refl _) | omega | (simp only [World.size_alloc, World.size_setCell, World.size_drew, Wov_size, World.heap_drewN]; omega))))
              · rw [decide_eq_false h48, Bool.false_or] at hC0
                have hq : (l == [48]) = false := by rw [beq_eq_false_iff_ne]; exact h48
                cases hbb : l.head? with
                | none =>
                  have hnil : l = [] := by simpa using hbb
                  have hC : C = false := by rw [hC0, hnil]; rfl
                  have he : l.isEmpty = true := by rw [hnil]; rfl
                  have he2 : (bs l).toList.isEmpty = true := by rw [Lib.toList_data, bs_list]; exact he
                  clear h48 hbb hnil hC0
                  subst hC
                  go_wp2_with (fail)
                  all_goals
                    go_ret
                    exact gives_end rfl (by (repeat' (first | (with_reducible assumption) | (with_reducible exact Below.refl _ _) | (with_reducible refine below_wov ?_ ?_ _) | (with_reducible refine below_drewN ?_ _) | (with_reducible refine Below.drew ?_) | (with_reducible refine Below.alloc ?_ ?_ _) | (with_reducible refine Below.setCell ?_ ?_ _) | (with_reducible exact Nat.le_refl _) | omega | (simp only [World.size_alloc, World.size_setCell, World.size_drew, Wov_size, World.heap_drewN]; omega))))
                | some y =>
                  have hy0 : l[0]? = some y := by rw [← List.head?_eq_getElem?]; exact hbb
                  have gy := gB.out 0 y hy0
                  have he : l.isEmpty = false := by
                    cases hh : l with
                    | nil => rw [hh] at hbb; cases hbb
                    | cons => rfl
                  have he2 : (bs l).toList.isEmpty = false := by rw [Lib.toList_data, bs_list]; exact he
                  have hi0 : 0 < i := by
                    have := (List.getElem?_eq_some_iff.1 hy0).1
                    have := Hn.out
                    omega
                  have hi1 : (0 : Int) < ((bs l).size : Int) := by rw [hszB.out]; omega
                  have hi2 : 0 < (bs l).size := by rw [hszB.out]; omega
                  rw [hbb, he] at hC0
                  by_cases hy : y = 48
                  · have hC : C = false := by rw [hC0, hy]; rfl
                    have dy : ((y.toNat : Int) != 48) = false := by rw [hy]; rfl
                    clear h48 hbb hy0 hy hC0
                    subst hC
                    go_wp2_with (fail)
                    all_goals
                      go_ret
                      exact gives_end rfl (by (repeat' (first | (with_reducible assumption) | (with_reducible exact Below.refl _ _) | (with_reducible refine below_wov ?_ ?_ _) | (with_reducible refine below_drewN ?_ _) | (with_reducible refine Below.drew ?_) | (with_reducible refine Below.alloc ?_ ?_ _) | (with_reducible refine Below.setCell ?_ ?_ _) | (with_reducible exact Nat.le_refl _) | omega | (simp only [World.size_alloc, World.size_setCell, World.size_drew, Wov_size, World.heap_drewN]; omega))))
                  · have hC : C = true := by rw [hC0, decide_eq_true (by simpa using hy)]; rfl
                    have dy : ((y.toNat : Int) != 48) = true := by
                      rw [bne_iff_ne]; intro h; exact hy (UInt8.toNat_inj.1 (by show y.toNat = 48; omega))
                    clear h48 hbb hy0 hy hC0
                    subst hC
                    go_wp2_with (fail)
                    all_goals
                      go_ret
                      exact gives_end rfl (by (repeat' (first | (with_reducible assumption) | (with_reducible exact Below.refl _ _) | (with_reducible refine below_wov ?_ ?_ _) | (with_reducible refine below_drewN ?_ _) | (with_reducible refine Below.drew ?_) | (with_reducible refine Below.alloc ?_ ?_ _) | (with_reducible refine Below.setCell ?_ ?_ _) | (with_reducible exact Nat.le_refl _) | omega | (simp only [World.size_alloc, World.size_setCell, World.size_drew, Wov_size, World.heap_drewN]; omega))))
      · have dx : ((x.toNat : Int) == 45) = false := by
          rw [beq_eq_false_iff_ne]; intro h; exact hx (UInt8.toNat_inj.1 (by show x.toNat = 45; omega))
        clear h45 hh hx0 hx
        go_enter Tryz.func114, Tryz.ntmps114
        go_wp2_with (fail)
        · clear q1 q2 s0 s1 dx e0
          go_loopw [3] (fun s3 wr => ∃ i : Nat, s3 = .int .i64 i ∧ i ≤ n ∧ Below w.heap.size w wr ∧ Hid (∀ k x, k < i → l[k]? = some x → isD x = true))
            (fun s3 _ => n - (intOf s3).toNat)
          case atStart => exact ⟨0, rfl, Nat.zero_le _, Below.refl _ _, fun k x hk => absurd hk (Nat.not_lt_zero _)⟩
          case round =>
            obtain ⟨i, rfl, hin, hBl, hI⟩ := hrel
            by_cases hlt : i < n
            · obtain ⟨x, hx⟩ : ∃ x, l[i]? = some x := ⟨_, List.getElem?_eq_getElem (by rw [← Hn.out]; exact hlt)⟩
              have gx := gB.out i x hx
              have i0 : (0 : Int) ≤ (i : Int) := by omega
              have i1 : (i : Int) < (n : Int) := by omega
              rcases isD_dec x with ⟨hd, k1, k2⟩ | ⟨hd, k1⟩ | ⟨hd, k1, k2⟩
              · have HI : Hid (∀ k x, k < i + 1 → l[k]? = some x → isD x = true) := fun k y hk hy => by
                  by_cases e : k = i
                  · rw [e, hx] at hy; rw [← Option.some.inj hy]; exact hd
                  · exact hI.out k y (by omega) hy
                clear hx hd hI
                go_wp2_with (fail)
                go_roundw
                case rel => exact ⟨i + 1, by go_num, hlt, by (repeat' (first | (with_reducible assumption) | (with_reducible exact Below.refl _ _) | (with_reducible refine below_wov ?_ ?_ _) | (with_reducible refine below_drewN ?_ _) | (with_reducible refine Below.drew ?_) | (with_reducible refine Below.alloc ?_ ?_ _) | (with_reducible refine Below.setCell ?_ ?_ _) | (with_reducible exact Nat.le_refl _) | omega | (simp only [World.size_alloc, World.size_setCell, World.size_drew, Wov_size, World.heap_drewN]; omega))), HI⟩
                case measure => simp [intOf]; omega
              · have hC : C = false := by rw [HC.out]; exact canonD_bad hx hd
                clear hx hd hI HC
                subst hC
                go_wp2_with (fail)
                go_ret
                exact gives_end rfl (by (repeat' (first | (with_reducible assumption) | (with_reducible exact Below.refl _ _) | (with_reducible refine below_wov ?_ ?_ _) | (with_reducible refine below_drewN ?_ _) | (with_reducible refine Below.drew ?_) | (with_reducible refine Below.alloc ?_ ?_ _) | (with_reducible refine Below.setCell ?_ ?_ _) | (with_reducible exact Nat.le_refl _) | omega | (simp only [World.size_alloc, World.size_setCell, World.size_drew, Wov_size, World.heap_drewN]; omega))))
              · have hC : C = false := by rw [HC.out]; exact canonD_bad hx hd
                clear hx hd hI HC
                subst hC
                go_wp2_with (fail)
                go_ret
                exact gives_end rfl (by (repeat' (first | (with_reducible assumption) | (with_reducible exact Below.refl _ _) | (with_reducible refine below_wov ?_ ?_ _) | (with_reducible refine below_drewN ?_ _) | (with_reducible refine Below.drew ?_) | (with_reducible refine Below.alloc ?_ ?_ _) | (with_reducible refine Below.setCell ?_ ?_ _) | (with_reducible exact Nat.le_refl _) | omega | (simp only [World.size_alloc, World.size_setCell, World.size_drew, Wov_size, World.heap_drewN]; omega))))
            · obtain rfl : i = n := by omega
              have hC0 := HC.out.trans (canonD_good Hn.out hI.out)
              have hszB := Lib.hid szB
              clear hI HC hin hlt
              by_cases h48 : l = [48]
              · have hC : C = true := by rw [hC0, decide_eq_true h48]; rfl
                have hq : (l == [48]) = true := by rw [beq_iff_eq]; exact h48
                clear h48 hC0
                subst hC
                go_wp2_with (fail)
                all_goals
                  go_ret
                  exact gives_end rfl (by (repeat' (first | (with_reducible assumption) | (with_reducible exact Below.refl _ _) | (with_reducible refine below_wov ?_ ?_ _) | (with_reducible refine below_drewN ?_ _) | (with_reducible refine Below.drew ?_) | (with_reducible refine Below.alloc ?_ ?_ _) | (with_reducible refine Below.setCell ?_ ?_ _) | (with_reducible exact Nat.le_refl _) | omega | (simp only [World.size_alloc, World.size_setCell, World.size_drew, Wov_size, World.heap_drewN]; omega))))
              · rw [decide_eq_false h48, Bool.false_or] at hC0
                have hq : (l == [48]) = false := by rw [beq_eq_false_iff_ne]; exact h48
                cases hbb : l.head? with
                | none =>
                  have hnil : l = [] := by simpa using hbb
                  have hC : C = false := by rw [hC0, hnil]; rfl
                  have he : l.isEmpty = true := by rw [hnil]; rfl
                  have he2 : (bs l).toList.isEmpty = true := by rw [Lib.toList_data, bs_list]; exact he
                  clear h48 hbb hnil hC0
                  subst hC
                  go_wp2_with (fail)
                  all_goals
                    go_ret
                    exact gives_end rfl (by (repeat' (first | (with_reducible assumption) | (with_reducible exact Below.refl _ _) | (with_reducible refine below_wov ?_ ?_ _) | (with_reducible refine below_drewN ?_ _) | (with_reducible refine Below.drew ?_) | (with_reducible refine Below.alloc ?_ ?_ _) | (with_reducible refine Below.setCell ?_ ?_ _) | (with_reducible exact Nat.le_refl _) | omega | (simp only [World.size_alloc, World.size_setCell, World.size_drew, Wov_size, World.heap_drewN]; omega))))
                | some y =>
                  have hy0 : l[0]? = some y := by rw [← List.head?_eq_getElem?]; exact hbb
                  have gy := gB.out 0 y hy0
                  have he : l.isEmpty = false := by
                    cases hh : l with
                    | nil => rw [hh] at hbb; cases hbb
                    | cons => rfl
                  have he2 : (bs l).toList.isEmpty = false := by rw [Lib.toList_data, bs_list]; exact he
                  have hi0 : 0 < i := by
                    have := (List.getElem?_eq_some_iff.1 hy0).1
                    have := Hn.out
                    omega
                  have hi1 : (0 : Int) < ((bs l).size : Int) := by rw [hszB.out]; omega
                  have hi2 : 0 < (bs l).size := by rw [hszB.out]; omega
                  rw [hbb, he] at hC0
                  by_cases hy : y = 48
                  · have hC : C = false := by rw [hC0, hy]; rfl
                    have dy : ((y.toNat : Int) != 48) = false := by rw [hy]; rfl
                    clear h48 hbb hy0 hy hC0
                    subst hC
                    go_wp2_with (fail)
                    all_goals
                      go_ret
                      exact gives_end rfl (by (repeat' (first | (with_reducible assumption) | (with_reducible exact Below.refl _ _) | (with_reducible refine below_wov ?_ ?_ _) | (with_reducible refine below_drewN ?_ _) | (with_reducible refine Below.drew ?_) | (with_reducible refine Below.alloc ?_ ?_ _) | (with_reducible refine Below.setCell ?_ ?_ _) | (with_reducible exact Nat.le_refl _) | omega | (simp only [World.size_alloc, World.size_setCell, World.size_drew, Wov_size, World.heap_drewN]; omega))))
                  · have hC : C = true := by rw [hC0, decide_eq_true (by simpa using hy)]; rfl
                    have dy : ((y.toNat : Int) != 48) = true := by
                      rw [bne_iff_ne]; intro h; exact hy (UInt8.toNat_inj.1 (by show y.toNat = 48; omega))
                    clear h48 hbb hy0 hy hC0
                    subst hC
                    go_wp2_with (fail)
                    all_goals
                      go_ret
                      exact gives_end rfl (by (repeat' (first | (with_reducible assumption) | (with_reducible exact Below.refl _ _) | (with_reducible refine below_wov ?_ ?_ _) | (with_reducible refine below_drewN ?_ _) | (with_reducible refine Below.drew ?_) | (with_reducible refine Below.alloc ?_ ?_ _) | (with_reducible refine Below.setCell ?_ ?_ _) | (with_reducible exact Nat.le_refl _) | omega | (simp only [World.size_alloc, World.size_setCell, World.size_drew, Wov_size, World.heap_drewN]; omega))))
#print axioms digits31_any
end Go.Proofs.YtpmpapenjcemjaaGreatDoor

namespace Go.Proofs.YtpmpapenjcemjaaGreatDoor
set_option linter.unusedSimpArgs false
set_option linter.unusedVariables false
open Go Go.RowKit Go.Shelf
attribute [local go_sem] Nat.add_assoc Nat.add_lt_add_iff_left lit_lt_add

theorem pieces_len (l : List UInt8) : (piecesT l).length ≤ l.length := by
  induction l with
  | nil => exact Nat.le_refl _
  | cons x r ih =>
    unfold piecesT
    split
    · simp; exact ih
    · cases h : piecesT r with
      | nil => simp
      | cons p ps => rw [h] at ih; simp at ih ⊢; omega
theorem wrap_nn (n : Nat) (h : n ≤ 1100000) : wrap64 ((n : Int) + 1) = (n : Int) + 1 ∧ ((n : Int) + 1).toNat = n + 1 ∧ (0 : Int) ≤ (n : Int) + 1 := ⟨wrap64_id (by omega) (by omega), by omega, by omega⟩
set_option maxRecDepth 10000 in
set_option maxHeartbeats 4000000 in
theorem pieces31_any (l : List UInt8) (hl : l.length ≤ 900000) (w : World) :
    Calls Tryz.prog 70 #[.string (bs l)] w (fun e w' => ∃ p cq, Gives w (.slice p (piecesT l).length cq) e w' ∧ (piecesT l).length ≤ cq ∧ SlS w' p (piecesT l)) := by
  have hsz : (bs l).size = l.length := bs_size l
  have hEX := Lib.hid (bs_ext l)
  have hEN := Lib.hid (bs_end l)
  have hIX := Lib.hid (bs_at l)
  obtain ⟨S, hS⟩ : ∃ S, S = bs l := ⟨_, rfl⟩
  obtain ⟨n, hn⟩ : ∃ n, n = l.length := ⟨_, rfl⟩
  rw [← hS] at hsz hEX hEN hIX ⊢
  have Hn := Lib.hid hn
  rw [← hn] at hsz hl
  clear hS hn
  go_enter Tryz.func70, Tryz.ntmps70
  go_wp2_with (fail)
  go_loopw [3, 4, 5] (fun s5 s6 s7 wr => ∃ (i f : Nat) (v : Value) (K : List (List UInt8)), v = s5 ∧ s6 = .int .i64 f ∧ s7 = .int .i64 i ∧ f ≤ i ∧ i ≤ n ∧ K.length ≤ 900000 ∧ Below w.heap.size w wr ∧ Hid (K ++ piecesT (l.drop f) = piecesT l ∧ (41 : UInt8) ∉ (l.drop f).take (i - f) ∧ (93 : UInt8) ∉ (l.drop f).take (i - f) ∧ wr.ownsRow w.heap.size 9 1 v K.length (cellsS K)))
    (fun _ _ s7 _ => n - (intOf s7).toNat)
  case atStart => exact ⟨0, 0, _, [], rfl, rfl, rfl, by omega, by omega, by simp, Below.refl _ _, ⟨rfl, by simp, by simp, World.ownsRow_nil _ _ _ _⟩⟩
  case round =>
    obtain ⟨i, f, v, K, rfl, rfl, rfl, hfi, hin, hK, hB, hI⟩ := hrel
    have szr := hB.size
    by_cases hlt : i < n
    · have hil : i < l.length := by rw [← Hn.out]; exact hlt
      obtain ⟨x, hx⟩ : ∃ x, x = l[i] := ⟨_, rfl⟩
      have gx := hIX.out i x (by rw [hx]; exact List.getElem?_eq_getElem hil)
      have i0 : (0 : Int) ≤ (i : Int) := by omega
      have i1 : (i : Int) < (n : Int) := by omega
      obtain ⟨w1', t1', p1'⟩ := wrap_nn i (by omega)
      by_cases hxc : x = 41 ∨ x = 93
      · obtain ⟨T, hT⟩ : ∃ T, T = (l.drop f).take (i + 1 - f) := ⟨_, rfl⟩
        have e1 : S.extract f (i + 1) = bs T := by rw [hEX.out, hT]
        have hsp := pieces_at hfi hil (by rw [← hx]; exact hxc) hI.out.2.1 hI.out.2.2.1
        have hKl : K.length + 1 ≤ 900000 := by
          have h1 := congrArg List.length hI.out.1
          rw [hsp] at h1
          have h2 := pieces_len l
          have h3 := Hn.out
          simp at h1
          omega
        have HP : Hid ((K ++ [T]) ++ piecesT (l.drop (i + 1)) = piecesT l) := by
          show _ = _
          rw [← hI.out.1, hsp, hT, List.append_assoc]; rfl
        have HO := Lib.hid hI.out.2.2.2
        have f0 : (0 : Int) ≤ (f : Int) := by omega
        have f1 : (f : Int) ≤ (i : Int) := by omega
        have f2 : i + 1 ≤ n := by omega
        have f3 : (i : Int) + 1 ≤ (n : Int) := by omega
        have f4 : f ≤ i + 1 := by omega
        have f5 : (f : Int) ≤ (i : Int) + 1 := by omega
        have dd : ((x.toNat : Int) == 93) = true ∨ (((x.toNat : Int) == 93) = false ∧ ((x.toNat : Int) == 41) = true) := by
          rcases hxc with h | h
          · right; rw [h]; exact ⟨rfl, rfl⟩
          · left; rw [h]; rfl
        clear hI hsp hT hx hil hEX hEN hIX hxc
        rcases dd with dx | ⟨dx, dy⟩
        · go_wp2_with (at_builtin; refine wpList_appS _ w.heap.size rfl (.tmp 22) (.tmp 28) rfl rfl v K [T] rfl (rowS_below HO.out (by (repeat' (first | (with_reducible assumption) | (with_reducible exact Below.refl _ _) | (with_reducible refine below_wov ?_ ?_ _) | (with_reducible refine below_drewN ?_ _) | (with_reducible refine Below.drew ?_) | (with_reducible refine Below.alloc ?_ ?_ _) | (with_reducible refine Below.setCell ?_ ?_ _) | (with_reducible exact Nat.le_refl _) | omega | (simp only [World.size_alloc, World.size_setCell, World.size_drew, Wov_size, World.heap_drewN]; omega))))) ⟨_, 0, none⟩ 1 rfl ?hR (by simp; omega) (by (first | omega | ((simp only [World.size_alloc, World.size_setCell, World.size_drew, Wov_size, World.heap_drewN, Array.size_append]) <;> omega))) ?_; (case hR => (intro j y hy; have hj : j = 0 := (by have := (List.getElem?_eq_some_iff.1 hy).1; simpa using this); subst hj; simp only [List.getElem?_cons_zero, Option.some.injEq] at hy; rw [← hy]; simp [go_sem])); intro v1 w1 ho1 hg1; have hx1 := rowS_grown (rowS_below HO.out (by (repeat' (first | (with_reducible assumption) | (with_reducible exact Below.refl _ _) | (with_reducible refine below_wov ?_ ?_ _) | (with_reducible refine below_drewN ?_ _) | (with_reducible refine Below.drew ?_) | (with_reducible refine Below.alloc ?_ ?_ _) | (with_reducible refine Below.setCell ?_ ?_ _) | (with_reducible exact Nat.le_refl _) | omega | (simp only [World.size_alloc, World.size_setCell, World.size_drew, Wov_size, World.heap_drewN]; omega))))) (Below.refl _ _) hg1 (by (first | omega | ((simp only [World.size_alloc, World.size_setCell, World.size_drew, Wov_size, World.heap_drewN, Array.size_append]) <;> omega))); have hw1 : Below w.heap.size w w1 := (by refine Below.trans ?_ hx1; (repeat' (first | (with_reducible assumption) | (with_reducible exact Below.refl _ _) | (with_reducible refine below_wov ?_ ?_ _) | (with_reducible refine below_drewN ?_ _) | (with_reducible refine Below.drew ?_) | (with_reducible refine Below.alloc ?_ ?_ _) | (with_reducible refine Below.setCell ?_ ?_ _) | (with_reducible exact Nat.le_refl _) | omega | (simp only [World.size_alloc, World.size_setCell, World.size_drew, Wov_size, World.heap_drewN]; omega)))); have HO1 := Lib.hid ho1; clear ho1 hg1 hx1)
          go_roundw
          case rel => exact ⟨i + 1, i + 1, v1, K ++ [T], rfl, by go_num, by go_num, Nat.le_refl _, hlt, by simp; omega, by (repeat' (first | (with_reducible assumption) | (with_reducible exact Below.refl _ _) | (with_reducible refine below_wov ?_ ?_ _) | (with_reducible refine below_drewN ?_ _) | (with_reducible refine Below.drew ?_) | (with_reducible refine Below.alloc ?_ ?_ _) | (with_reducible refine Below.setCell ?_ ?_ _) | (with_reducible exact Nat.le_refl _) | omega | (simp only [World.size_alloc, World.size_setCell, World.size_drew, Wov_size, World.heap_drewN]; omega))), ⟨HP.out, by simp, by simp, HO1.out⟩⟩
          case measure => simp [intOf]; omega
        · go_wp2_with (at_builtin; refine wpList_appS _ w.heap.size rfl (.tmp 22) (.tmp 28) rfl rfl v K [T] rfl (rowS_below HO.out (by (repeat' (first | (with_reducible assumption) | (with_reducible exact Below.refl _ _) | (with_reducible refine below_wov ?_ ?_ _) | (with_reducible refine below_drewN ?_ _) | (with_reducible refine Below.drew ?_) | (with_reducible refine Below.alloc ?_ ?_ _) | (with_reducible refine Below.setCell ?_ ?_ _) | (with_reducible exact Nat.le_refl _) | omega | (simp only [World.size_alloc, World.size_setCell, World.size_drew, Wov_size, World.heap_drewN]; omega))))) ⟨_, 0, none⟩ 1 rfl ?hR (by simp; omega) (by (first | omega | ((simp only [World.size_alloc, World.size_setCell, World.size_drew, Wov_size, World.heap_drewN, Array.size_append]) <;> omega))) ?_; (case hR => (intro j y hy; have hj : j = 0 := (by have := (List.getElem?_eq_some_iff.1 hy).1; simpa using this); subst hj; simp only [List.getElem?_cons_zero, Option.some.injEq] at hy; rw [← hy]; simp [go_sem])); intro v1 w1 ho1 hg1; have hx1 := rowS_grown (rowS_below HO.out (by (repeat' (first | (with_reducible assumption) | (with_reducible exact Below.refl _ _) | (with_reducible refine below_wov ?_ ?_ _) | (with_reducible refine below_drewN ?_ _) | (with_reducible refine Below.drew ?_) | (with_reducible refine Below.alloc ?_ ?_ _) | (with_reducible refine Below.setCell ?_ ?_ _) | (with_reducible exact Nat.le_refl _) | omega | (simp only [World.size_alloc, World.size_setCell, World.size_drew, Wov_size, World.heap_drewN]; omega))))) (Below.refl _ _) hg1 (by (first | omega | ((simp only [World.size_alloc, World.size_setCell, World.size_drew, Wov_size, World.heap_drewN, Array.size_append]) <;> omega))); have hw1 : Below w.heap.size w w1 := (by refine Below.trans ?_ hx1; (repeat' (first | (with_reducible assumption) | (with_reducible exact Below.refl _ _) | (with_reducible refine below_wov ?_ ?_ _) | (with_reducible refine below_drewN ?_ _) | (with_reducible refine Below.drew ?_) | (with_reducible refine Below.alloc ?_ ?_ _) | (with_reducible refine Below.setCell ?_ ?_ _) | (with_reducible exact Nat.le_refl _) | omega | (simp only [World.size_alloc, World.size_setCell, World.size_drew, Wov_size, World.heap_drewN]; omega)))); have HO1 := Lib.hid ho1; clear ho1 hg1 hx1)
          go_roundw
          case rel => exact ⟨i + 1, i + 1, v1, K ++ [T], rfl, by go_num, by go_num, Nat.le_refl _, hlt, by simp; omega, by (repeat' (first | (with_reducible assumption) | (with_reducible exact Below.refl _ _) | (with_reducible refine below_wov ?_ ?_ _) | (with_reducible refine below_drewN ?_ _) | (with_reducible refine Below.drew ?_) | (with_reducible refine Below.alloc ?_ ?_ _) | (with_reducible refine Below.setCell ?_ ?_ _) | (with_reducible exact Nat.le_refl _) | omega | (simp only [World.size_alloc, World.size_setCell, World.size_drew, Wov_size, World.heap_drewN]; omega))), ⟨HP.out, by simp, by simp, HO1.out⟩⟩
          case measure => simp [intOf]; omega
      · have d1 : ((x.toNat : Int) == 93) = false := by
          rw [beq_eq_false_iff_ne]; intro h; exact hxc (.inr (UInt8.toNat_inj.1 (by show x.toNat = 93; omega)))
        have d2 : ((x.toNat : Int) == 41) = false := by
          rw [beq_eq_false_iff_ne]; intro h; exact hxc (.inl (UInt8.toNat_inj.1 (by show x.toNat = 41; omega)))
        have hnt : ∀ c : UInt8, (c = 41 ∨ c = 93) → c ∉ (l.drop f).take (i - f) → c ∉ (l.drop f).take (i + 1 - f) := by
          intro c hc hcn
          rw [take_at hfi hil]
          intro hm
          rcases List.mem_append.1 hm with hm | hm
          · exact hcn hm
          · simp only [List.mem_cons, List.mem_nil_iff, or_false] at hm
            rw [hm, ← hx] at hc
            exact hxc hc
        have HI := Lib.hid (And.intro hI.out.1 (And.intro (hnt 41 (.inl rfl) hI.out.2.1) (And.intro (hnt 93 (.inr rfl) hI.out.2.2.1) hI.out.2.2.2)))
        clear hI hnt hx hxc hil hEX hEN hIX
        go_wp2_with (fail)
        go_roundw
        case rel => exact ⟨i + 1, f, v, K, rfl, rfl, by go_num, by omega, hlt, hK, by (repeat' (first | (with_reducible assumption) | (with_reducible exact Below.refl _ _) | (with_reducible refine below_wov ?_ ?_ _) | (with_reducible refine below_drewN ?_ _) | (with_reducible refine Below.drew ?_) | (with_reducible refine Below.alloc ?_ ?_ _) | (with_reducible refine Below.setCell ?_ ?_ _) | (with_reducible exact Nat.le_refl _) | omega | (simp only [World.size_alloc, World.size_setCell, World.size_drew, Wov_size, World.heap_drewN]; omega))), HI.out⟩
        case measure => simp [intOf]; omega
    · obtain rfl : i = n := by omega
      have hll : (l.drop f).length ≤ i - f := by rw [List.length_drop, Hn.out]; omega
      have hn1 : (41 : UInt8) ∉ l.drop f := by
        have := hI.out.2.1
        rwa [List.take_of_length_le hll] at this
      have hn2 : (93 : UInt8) ∉ l.drop f := by
        have := hI.out.2.2.1
        rwa [List.take_of_length_le hll] at this
      have HO := Lib.hid hI.out.2.2.2
      by_cases hfl : f < i
      · have hne : l.drop f ≠ [] := by
          intro h
          have := congrArg List.length h
          rw [List.length_drop, ← Hn.out] at this
          simp at this
          omega
        have HP : Hid (K ++ [l.drop f] = piecesT l) := by
          show _ = _
          rw [← hI.out.1, pieces_none _ hn1 hn2 hne]
        have hKl : K.length + 1 ≤ 900000 := by
          have h1 := congrArg List.length HP.out
          have h2 := pieces_len l
          have h3 := Hn.out
          simp at h1
          omega
        have e1 : S.extract f i = bs (l.drop f) := by
          have := hEN.out f
          rwa [hsz] at this
        obtain ⟨T, hT⟩ : ∃ T, T = l.drop f := ⟨_, rfl⟩
        rw [← hT] at HP e1
        have f0 : (0 : Int) ≤ (f : Int) := by omega
        have f1 : (f : Int) ≤ (i : Int) := by omega
        have f2 : decide ((f : Int) < (i : Int)) = true := decide_eq_true (by omega)
        clear hI hn1 hn2 hll hT hEX hEN hIX hne
        go_wp2_with (at_builtin; refine wpList_appS _ w.heap.size rfl (.tmp 36) (.tmp 40) rfl rfl v K [T] rfl (rowS_below HO.out (by (repeat' (first | (with_reducible assumption) | (with_reducible exact Below.refl _ _) | (with_reducible refine below_wov ?_ ?_ _) | (with_reducible refine below_drewN ?_ _) | (with_reducible refine Below.drew ?_) | (with_reducible refine Below.alloc ?_ ?_ _) | (with_reducible refine Below.setCell ?_ ?_ _) | (with_reducible exact Nat.le_refl _) | omega | (simp only [World.size_alloc, World.size_setCell, World.size_drew, Wov_size, World.heap_drewN]; omega))))) ⟨_, 0, none⟩ 1 rfl ?hR (by simp; omega) (by (first | omega | ((simp only [World.size_alloc, World.size_setCell, World.size_drew, Wov_size, World.heap_drewN, Array.size_append]) <;> omega))) ?_; (case hR => (intro j y hy; have hj : j = 0 := (by have := (List.getElem?_eq_some_iff.1 hy).1; simpa using this); subst hj; simp only [List.getElem?_cons_zero, Option.some.injEq] at hy; rw [← hy]; simp [go_sem])); intro v1 w1 ho1 hg1; have hx1 := rowS_grown (rowS_below HO.out (by (repeat' (first | (with_reducible assumption) | (with_reducible exact Below.refl _ _) | (with_reducible refine below_wov ?_ ?_ _) | (with_reducible refine below_drewN ?_ _) | (with_reducible refine Below.drew ?_) | (with_reducible refine Below.alloc ?_ ?_ _) | (with_reducible refine Below.setCell ?_ ?_ _) | (with_reducible exact Nat.le_refl _) | omega | (simp only [World.size_alloc, World.size_setCell, World.size_drew, Wov_size, World.heap_drewN]; omega))))) (Below.refl _ _) hg1 (by (first | omega | ((simp only [World.size_alloc, World.size_setCell, World.size_drew, Wov_size, World.heap_drewN, Array.size_append]) <;> omega))); have hw1 : Below w.heap.size w w1 := (by refine Below.trans ?_ hx1; (repeat' (first | (with_reducible assumption) | (with_reducible exact Below.refl _ _) | (with_reducible refine below_wov ?_ ?_ _) | (with_reducible refine below_drewN ?_ _) | (with_reducible refine Below.drew ?_) | (with_reducible refine Below.alloc ?_ ?_ _) | (with_reducible refine Below.setCell ?_ ?_ _) | (with_reducible exact Nat.le_refl _) | omega | (simp only [World.size_alloc, World.size_setCell, World.size_drew, Wov_size, World.heap_drewN]; omega)))); have HO1 := Lib.hid ho1; clear ho1 hg1 hx1)
        have hr := HO1.out
        rw [HP.out] at hr
        obtain ⟨p, cq, rfl, hcq, hS⟩ := slS_of_row hr
        go_ret
        exact ⟨p, cq, gives_end rfl (by (repeat' (first | (with_reducible assumption) | (with_reducible exact Below.refl _ _) | (with_reducible refine below_wov ?_ ?_ _) | (with_reducible refine below_drewN ?_ _) | (with_reducible refine Below.drew ?_) | (with_reducible refine Below.alloc ?_ ?_ _) | (with_reducible refine Below.setCell ?_ ?_ _) | (with_reducible exact Nat.le_refl _) | omega | (simp only [World.size_alloc, World.size_setCell, World.size_drew, Wov_size, World.heap_drewN]; omega)))), hcq, hS⟩
      · have hnil : l.drop f = [] := by
          rw [← List.length_eq_zero_iff, List.length_drop, ← Hn.out]; omega
        have HP : Hid (K = piecesT l) := by
          show _ = _
          have := hI.out.1
          rw [hnil] at this
          rw [← this]; simp [piecesT]
        have hr := HO.out
        rw [HP.out] at hr
        obtain ⟨p, cq, rfl, hcq, hS⟩ := slS_of_row hr
        have HS := Lib.hid hS
        have f2 : decide ((f : Int) < (i : Int)) = false := decide_eq_false (by omega)
        obtain ⟨m, hm⟩ : ∃ m, m = (piecesT l).length := ⟨_, rfl⟩
        have HM := Lib.hid hm
        rw [← hm]
        clear hI hn1 hn2 hll hEX hEN hIX hnil hr hS HO hm
        go_wp2_with (fail)
        go_ret
        exact ⟨p, cq, gives_end (by rw [HM.out]; rfl) (by (repeat' (first | (with_reducible assumption) | (with_reducible exact Below.refl _ _) | (with_reducible refine below_wov ?_ ?_ _) | (with_reducible refine below_drewN ?_ _) | (with_reducible refine Below.drew ?_) | (with_reducible refine Below.alloc ?_ ?_ _) | (with_reducible refine Below.setCell ?_ ?_ _) | (with_reducible exact Nat.le_refl _) | omega | (simp only [World.size_alloc, World.size_setCell, World.size_drew, Wov_size, World.heap_drewN]; omega)))), hcq, HS.out⟩
#print axioms pieces31_any
end Go.Proofs.YtpmpapenjcemjaaGreatDoor
