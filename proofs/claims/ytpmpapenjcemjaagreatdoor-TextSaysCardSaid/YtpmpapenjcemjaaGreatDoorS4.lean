/- Rows of strings that a call builds: one append. No condition but on the count. -/
import Derived.Test.YtpmpapenjcemjaaGreatDoorS1
import Derived.Test.YtpmpapenjcemjaaGreatDoorZ0
namespace Go.Proofs.YtpmpapenjcemjaaGreatDoor
set_option linter.unusedSimpArgs false
set_option linter.unusedVariables false
set_option maxRecDepth 10000
open Go Go.RowKit Go.Shelf Go.ChangeShapes Go.WideShapes Go.ChangeAt Go.Joins Go.Deep
attribute [local go_sem] Nat.add_assoc Nat.add_lt_add_iff_left lit_lt_add

def cellsS (xs : List (List UInt8)) : List Value := xs.map fun x => .string (bs x)
theorem cellsS_len (xs : List (List UInt8)) : (cellsS xs).length = xs.length * 1 := by simp [cellsS]
theorem cellsS_app (a b : List (List UInt8)) : cellsS (a ++ b) = cellsS a ++ cellsS b := by simp [cellsS]
theorem cellsS_one (xs : List (List UInt8)) : ∀ u ∈ cellsS xs, u.oneCell' = true := by
  intro u hu
  obtain ⟨x, _, rfl⟩ := List.mem_map.1 hu
  rfl
theorem infoS : (Tryz.prog.info? 9).map (fun i => (i.size, i.bytes)) = some (1, 16) := by kernel_rfl
theorem infoSz : (Tryz.prog.info? 9).map (fun i => i.zero) = some (some (.string ⟨#[]⟩)) := by kernel_rfl
theorem rowS_below {W V : World} {n : Nat} {e : TypeId} {v : Value} {k s : Nat} {xs : List Value} (h : W.ownsRow n e s v k xs) (hb : Below W.heap.size W V) : V.ownsRow n e s v k xs := by
  obtain ⟨h0, h | ⟨g, cap, cur, h1, h2, h3, h4⟩⟩ := h
  · exact ⟨h0, .inl h⟩
  · exact ⟨h0, .inr ⟨g, cap, cur, h1, h2, (hb.block g (Array.getElem?_eq_some_iff.1 h3).1).trans h3, h4⟩⟩
theorem rowS_grown {X W V : World} {n : Nat} {e : TypeId} {v : Value} {k s : Nat} {xs : List Value} (h : W.ownsRow n e s v k xs) (hb : Below n X W) (hg : W.grownBy V v.ownBlock) (hn : n ≤ W.heap.size) : Below n X V := by
  refine hb.grown hg hn fun g hk => ?_
  rcases h.2 with ⟨rfl, _⟩ | ⟨g', cap, cur, rfl, hg', _⟩
  · simp [Value.ownBlock] at hk
  · simp [Value.ownBlock] at hk; omega
/-- What a row holds, the strings are. -/
theorem slS_of_row {W : World} {base : Nat} {e : TypeId} {v : Value} {xs : List (List UInt8)} (h : W.ownsRow base e 1 v xs.length (cellsS xs)) : ∃ p c, v = .slice p xs.length c ∧ xs.length ≤ c ∧ SlS W p xs := by
  rcases h.2 with ⟨rfl, h0⟩ | ⟨g, cap, cur, rfl, hg, hgb, hc1, _, hc, ht⟩
  · rw [h0]; exact ⟨none, 0, rfl, Nat.le_refl _, .inl (List.length_eq_zero_iff.1 h0)⟩
  · refine ⟨_, cap, rfl, hc1, .inr ⟨g, 0, rfl, (Array.getElem?_eq_some_iff.1 hgb).1, fun j x hx => ?_⟩⟩
    have hj : j < xs.length := (List.getElem?_eq_some_iff.1 hx).1
    have h1 : (cellsS xs)[j]? = some (.string (bs x)) := by unfold cellsS; rw [List.getElem?_map, hx]; rfl
    rw [← ht, List.getElem?_take_of_lt (by omega), Array.getElem?_toList] at h1
    rw [Nat.zero_add]
    simp only [World.cell?, hgb]; simpa using h1
theorem wp_appS {o : Oper} {a : Act} {K' : Act → World → Prop} {Q : Exit → Act → World → Prop} (X : World) (base : Nat)
    (s x : Operand) (hop : o.op = Op.call { callee := Callee.builtin Builtin.append, args := #[s, x], argTypes := #[22, 22] }) (hty : o.type = 22)
    (v : Value) (K L : List (List UInt8)) (hs : a.eval s = v) (hown : X.ownsRow base 9 1 v K.length (cellsS K)) (ad : Addr) (cq : Nat) (hx : a.eval x = .slice (some ad) L.length cq) (hR : ∀ j y, L[j]? = some y → X.cell? (ad.add j) = some (.string (bs y))) (hM : K.length + L.length ≤ 1000000) (hb : base ≤ X.heap.size)
    (h : ∀ v' w', w'.ownsRow base 9 1 v' (K ++ L).length (cellsS (K ++ L)) → X.grownBy w' v.ownBlock → K' (a.put o.dst v') w') :
    Oper.wp Tryz.prog o a X K' Q := by
  unfold Oper.wp
  obtain ⟨i0, hi, hz1, hz2⟩ : ∃ i0, Tryz.prog.info? 9 = some i0 ∧ i0.size = 1 ∧ i0.bytes = 16 := by
    have := infoS
    cases h : Tryz.prog.info? 9 with
    | none => rw [h] at this; cases this
    | some i => rw [h] at this; simp at this; exact ⟨i, rfl, this.1, this.2⟩
  have hz0 : i0.zero = some (.string ⟨#[]⟩) := by
    have := infoSz
    rw [hi] at this; simpa using this
  have hc : ∀ j u, (cellsS L)[j]? = some u → X.cell? (ad.add j) = some u := by
    intro j u hj
    unfold cellsS at hj
    rw [List.getElem?_map] at hj
    cases hy : L[j]? with
    | none => rw [hy] at hj; cases hj
    | some y =>
      rw [hy] at hj
      simp only [Option.map_some, Option.some.injEq] at hj
      rw [← hj]; exact hR j y hy
  obtain ⟨v', w', hrun, r1, r2, r3⟩ := run_append_own (P := Tryz.prog) X base 22 22 9 i0 _ 1 16 Tryz.underlying22 hi hz0 hz1 hz2 rfl (by decide) v K.length (cellsS K) hown ad L.length cq (cellsS L) (cellsS_len L) hc (cellsS_one L) (by unfold maxLen; omega) (by omega) hb
  simp [execOp, hop, hty, resolve, invoke, builtin, hs, hx, hrun, Result.andThen]
  refine h v' w' ?_ r2
  rw [List.length_append, cellsS_app]; exact r1
theorem step_appS {ops : Array Oper} {o : Oper} {a : Act} {K' : Act → World → Prop} {Q : Exit → Act → World → Prop} {E : Prop} (X : World) (base : Nat) (hgd : o.guard = none)
    (s x : Operand) (hop : o.op = Op.call { callee := Callee.builtin Builtin.append, args := #[s, x], argTypes := #[22, 22] }) (hty : o.type = 22)
    (v : Value) (K L : List (List UInt8)) (hs : a.eval s = v) (hown : X.ownsRow base 9 1 v K.length (cellsS K)) (ad : Addr) (cq : Nat) (hx : a.eval x = .slice (some ad) L.length cq) (hR : ∀ j y, L[j]? = some y → X.cell? (ad.add j) = some (.string (bs y))) (hM : K.length + L.length ≤ 1000000) (hb : base ≤ X.heap.size)
    (h : ∀ v' w', w'.ownsRow base 9 1 v' (K ++ L).length (cellsS (K ++ L)) → X.grownBy w' v.ownBlock → K' (a.put o.dst v') w') :
    if Region.wanted o (yielded ops a.tmps) = true then Oper.wp Tryz.prog o a X K' Q else E := by
  have hw : Region.wanted o (yielded ops a.tmps) = true := by simp [Region.wanted, hgd]
  rw [if_pos hw]
  exact wp_appS X base s x hop hty v K L hs hown ad cq hx hR hM hb h
#print axioms step_appS
end Go.Proofs.YtpmpapenjcemjaaGreatDoor
