/- Rows of things, whatever the things: slices in memory, one append. No condition but on the count. -/
import Derived.Test.YtccbhblklhmcpaaGreatDoorQF
import Derived.Deep.Slices
import Derived.Laws.OwnMore
import Derived.Deep.RegionLaw
import Derived.Deep.RegionHeld3
namespace Go.Proofs.YtccbhblklhmcpaaGreatDoor
set_option linter.unusedSimpArgs false
set_option linter.unusedVariables false
set_option maxRecDepth 10000
open Go Go.RowKit Go.ChangeShapes Go.WideShapes Go.ChangeAt Go.Joins Go.Deep
attribute [local go_sem] Nat.add_assoc Nat.add_lt_add_iff_left lit_lt_add

/-- A kind of things, and how one lies in memory. -/
structure EK (α : Type) where
  tS : TypeId
  tE : TypeId
  k : Nat
  b : Nat
  zero : Value
  enc : α → List Value
/-- What is known of it. -/
structure EK.Ok {α : Type} (D : EK α) : Prop where
  und : Tryz.prog.underlying D.tS = some (.slice D.tE)
  info : (Tryz.prog.info? D.tE).map (fun i => (i.size, i.bytes)) = some (D.k, D.b)
  zer : (Tryz.prog.info? D.tE).map (fun i => i.zero) = some (some D.zero)
  zsz : D.zero.cells.size = D.k
  pos : 0 < D.k
  len : ∀ x, (D.enc x).length = D.k
  one : ∀ x, ∀ u ∈ D.enc x, u.oneCell' = true
  room : D.b ≤ 1000
section
variable {α : Type} (D : EK α)
def cellsK (xs : List α) : List Value := (xs.map D.enc).flatten
theorem cellsK_nil : cellsK D [] = [] := rfl
theorem cellsK_cons (x : α) (xs : List α) : cellsK D (x :: xs) = D.enc x ++ cellsK D xs := by unfold cellsK; simp
theorem cellsK_app (a b : List α) : cellsK D (a ++ b) = cellsK D a ++ cellsK D b := by unfold cellsK; simp
variable {D} (h : D.Ok)
include h
theorem cellsK_len : ∀ xs : List α, (cellsK D xs).length = xs.length * D.k
  | [] => by rw [cellsK_nil]; simp
  | x :: xs => by rw [cellsK_cons, List.length_append, h.len, cellsK_len xs, List.length_cons, Nat.add_mul]; omega
theorem cellsK_one (xs : List α) : ∀ u ∈ cellsK D xs, u.oneCell' = true := by
  intro u hu
  unfold cellsK at hu
  obtain ⟨l, hl, hu⟩ := List.mem_flatten.1 hu
  obtain ⟨x, _, rfl⟩ := List.mem_map.1 hl
  exact h.one x u hu
theorem cellsK_get : ∀ (xs : List α) (i j : Nat) (x : α), xs[i]? = some x → j < D.k → (cellsK D xs)[i * D.k + j]? = (D.enc x)[j]?
  | [], i, j, x, hx, _ => by simp at hx
  | y :: xs, 0, j, x, hx, hj => by
    simp only [List.getElem?_cons_zero, Option.some.injEq] at hx
    subst hx
    rw [cellsK_cons, Nat.zero_mul, Nat.zero_add, List.getElem?_append_left (by rw [h.len]; exact hj)]
  | y :: xs, i + 1, j, x, hx, hj => by
    rw [List.getElem?_cons_succ] at hx
    rw [cellsK_cons, List.getElem?_append_right (by rw [h.len, Nat.add_mul]; omega), h.len]
    rw [show (i + 1) * D.k + j - D.k = i * D.k + j by rw [Nat.add_mul]; omega]
    exact cellsK_get xs i j x hx hj
theorem cellsK_inv (xs : List α) (n : Nat) (u : Value) (hu : (cellsK D xs)[n]? = some u) : ∃ i j x, n = i * D.k + j ∧ j < D.k ∧ xs[i]? = some x ∧ (D.enc x)[j]? = some u := by
  have hn := (List.getElem?_eq_some_iff.1 hu).1
  rw [cellsK_len h] at hn
  have hi : n / D.k < xs.length := (Nat.div_lt_iff_lt_mul h.pos).2 hn
  have hj := Nat.mod_lt n h.pos
  have e : n = n / D.k * D.k + n % D.k := by rw [Nat.mul_comm]; exact (Nat.div_add_mod n D.k).symm
  refine ⟨n / D.k, n % D.k, xs[n / D.k], e, hj, List.getElem?_eq_getElem hi, ?_⟩
  rw [← cellsK_get h xs (n / D.k) (n % D.k) _ (List.getElem?_eq_getElem hi) hj, ← e]
  exact hu
end
section
variable {α : Type} (D : EK α)
/-- Things in memory, one behind the other. -/
def SlK (W : World) (p : Option Addr) (xs : List α) : Prop := xs = [] ∨ ∃ A o, p = some ⟨A, o, none⟩ ∧ A < W.heap.size ∧ ∀ i j x u, xs[i]? = some x → (D.enc x)[j]? = some u → W.cell? ⟨A, o + (i * D.k + j), none⟩ = some u
/-- A row of the call's own. -/
def RowK (n : Nat) (W : World) (v : Value) (xs : List α) : Prop := W.ownsRow n D.tE D.k v xs.length (cellsK D xs)
variable {D}
theorem SlK.below {W V : World} {p : Option Addr} {xs : List α} (h : SlK D W p xs) (hb : Below W.heap.size W V) : SlK D V p xs := by
  rcases h with h | ⟨A, o, rfl, h1, h2⟩
  · exact .inl h
  · exact .inr ⟨A, o, rfl, Nat.lt_of_lt_of_le h1 hb.size, fun i j x u hx hu => (hb.cell (p := ⟨A, o + (i * D.k + j), none⟩) h1).trans (h2 i j x u hx hu)⟩
theorem RowK.nil (n : Nat) (W : World) : RowK D n W (.slice none 0 0) [] := World.ownsRow_nil _ _ _ _
theorem RowK.below {W V : World} {n : Nat} {v : Value} {xs : List α} (h : RowK D n W v xs) (hb : Below W.heap.size W V) : RowK D n V v xs := by
  obtain ⟨h0, h | ⟨g, cap, cur, h1, h2, h3, h4⟩⟩ := h
  · exact ⟨h0, .inl h⟩
  · exact ⟨h0, .inr ⟨g, cap, cur, h1, h2, (hb.block g (Array.getElem?_eq_some_iff.1 h3).1).trans h3, h4⟩⟩
theorem RowK.own_lt {W : World} {n : Nat} {v : Value} {xs : List α} (h : RowK D n W v xs) : ∀ g, v.ownBlock = some g → n ≤ g ∧ g < W.heap.size := by
  intro g hg
  rcases h.2 with ⟨rfl, _⟩ | ⟨g', cap, cur, rfl, hn, hgb, _⟩
  · simp [Value.ownBlock] at hg
  · simp [Value.ownBlock] at hg; subst hg; exact ⟨hn, (Array.getElem?_eq_some_iff.1 hgb).1⟩
theorem RowK.grown {X W V : World} {n : Nat} {v : Value} {xs : List α} (h : RowK D n W v xs) (hb : Below n X W) (hg : W.grownBy V v.ownBlock) (hn : n ≤ W.heap.size) : Below n X V :=
  hb.grown hg hn fun g hk => (h.own_lt g hk).1
/-- What a row holds, the things are. -/
theorem RowK.sl (hD : D.Ok) {W : World} {n : Nat} {v : Value} {xs : List α} (h : RowK D n W v xs) : ∃ p c, v = .slice p xs.length c ∧ xs.length ≤ c ∧ (p = none → c = 0) ∧ SlK D W p xs := by
  rcases h.2 with ⟨rfl, h0⟩ | ⟨g, cap, cur, rfl, hg, hgb, hc1, _, hc, ht⟩
  · rw [h0]; exact ⟨none, 0, rfl, Nat.le_refl _, fun _ => rfl, .inl (List.length_eq_zero_iff.1 h0)⟩
  · refine ⟨_, cap, rfl, hc1, (fun h => by cases h), .inr ⟨g, 0, rfl, (Array.getElem?_eq_some_iff.1 hgb).1, fun i j x u hx hu => ?_⟩⟩
    have hi : i < xs.length := (List.getElem?_eq_some_iff.1 hx).1
    have hj : j < D.k := by have := (List.getElem?_eq_some_iff.1 hu).1; rwa [hD.len] at this
    have h1 := cellsK_get hD xs i j x hx hj
    have hlt : i * D.k + j < xs.length * D.k := by
      have : (i + 1) * D.k ≤ xs.length * D.k := Nat.mul_le_mul_right _ hi
      rw [Nat.add_mul] at this; omega
    rw [hu, ← ht, List.getElem?_take_of_lt hlt, Array.getElem?_toList] at h1
    rw [Nat.zero_add]
    simp only [World.cell?, hgb]; simpa using h1
theorem run_appK (hD : D.Ok) (X : World) (base : Nat) (v : Value) (K L : List α) (hown : RowK D base X v K) (q : Option Addr) (cq : Nat) (hq : q = none → cq = 0) (hR : SlK D X q L) (hM : K.length + L.length ≤ 1000000) (hb : base ≤ X.heap.size) :
    ∃ v' w', (Builtin.append_ #[D.tS, D.tS] D.tS #[v, .slice q L.length cq]).run Tryz.prog X = .ok v' w' ∧ RowK D base w' v' (K ++ L) ∧ X.grownBy w' v.ownBlock := by
  obtain ⟨i0, hi, hz1, hz2⟩ : ∃ i0, Tryz.prog.info? D.tE = some i0 ∧ i0.size = D.k ∧ i0.bytes = D.b := by
    have := hD.info
    cases h : Tryz.prog.info? D.tE with
    | none => rw [h] at this; cases this
    | some i => rw [h] at this; simp at this; exact ⟨i, rfl, this.1, this.2⟩
  have hz0 : i0.zero = some D.zero := by
    have := hD.zer
    rw [hi] at this; simpa using this
  cases q with
  | none =>
    obtain rfl := hq rfl
    have hL : L = [] := by
      rcases hR with h | ⟨A, o, h, _⟩
      · exact h
      · cases h
    subst hL
    have hrun := run_append_owned_none (P := Tryz.prog) X base D.tS D.tS D.tE i0 D.k hD.und hi v K.length (cellsK D K) hown
    refine ⟨v, X, hrun, ?_, ⟨rfl, rfl, rfl, Nat.le_refl _, fun _ _ _ => rfl⟩⟩
    rw [List.append_nil]; exact hown
  | some ad =>
    have hc : ∀ j u, (cellsK D L)[j]? = some u → X.cell? (ad.add j) = some u := by
      intro n u hn
      rcases hR with h | ⟨A, o, h, hlt, hv⟩
      · subst h; simp [cellsK_nil] at hn
      · cases h
        obtain ⟨i, j, x, rfl, hj, hx, hu⟩ := cellsK_inv hD L n u hn
        rw [Addr.add_lit]
        exact hv i j x u hx hu
    have hbb : (K.length + L.length) * D.b ≤ 140737488355328 := Nat.le_trans (Nat.mul_le_mul hM hD.room) (by decide)
    obtain ⟨v', w', hrun, r1, r2, r3⟩ := run_append_own (P := Tryz.prog) X base D.tS D.tS D.tE i0 _ D.k D.b hD.und hi hz0 hz1 hz2 hD.zsz hD.pos v K.length (cellsK D K) hown ad L.length cq (cellsK D L) (cellsK_len hD L) hc (cellsK_one hD L) (by unfold maxLen; omega) hbb hb
    refine ⟨v', w', hrun, ?_, r2⟩
    unfold RowK
    rw [List.length_append, cellsK_app]; exact r1
theorem wp_appK (hD : D.Ok) {o : Oper} {a : Act} {K' : Act → World → Prop} {Q : Exit → Act → World → Prop} (X : World) (base : Nat)
    (s x : Operand) (hop : o.op = Op.call { callee := Callee.builtin Builtin.append, args := #[s, x], argTypes := #[D.tS, D.tS] }) (hty : o.type = D.tS)
    (v : Value) (K L : List α) (hs : a.eval s = v) (hown : RowK D base X v K) (q : Option Addr) (cq : Nat) (hx : a.eval x = .slice q L.length cq) (hq : q = none → cq = 0) (hR : SlK D X q L) (hM : K.length + L.length ≤ 1000000) (hb : base ≤ X.heap.size)
    (h : ∀ v' w', RowK D base w' v' (K ++ L) → X.grownBy w' v.ownBlock → K' (a.put o.dst v') w') :
    Oper.wp Tryz.prog o a X K' Q := by
  unfold Oper.wp
  obtain ⟨v', w', hrun, r1, r2⟩ := run_appK hD X base v K L hown q cq hq hR hM hb
  simp [execOp, hop, hty, resolve, invoke, builtin, hs, hx, hrun, Result.andThen]
  exact h v' w' r1 r2
theorem wpList_appK (hD : D.Ok) {ops : Array Oper} {rest : List Oper} {o : Oper} {a : Act} {Q : Exit → Act → World → Prop} (X : World) (base : Nat)
    (hgd : o.guard = none) (s x : Operand) (hop : o.op = Op.call { callee := Callee.builtin Builtin.append, args := #[s, x], argTypes := #[D.tS, D.tS] }) (hty : o.type = D.tS)
    (v : Value) (K L : List α) (hs : a.eval s = v) (hown : RowK D base X v K) (q : Option Addr) (cq : Nat) (hx : a.eval x = .slice q L.length cq) (hq : q = none → cq = 0) (hR : SlK D X q L) (hM : K.length + L.length ≤ 1000000) (hb : base ≤ X.heap.size)
    (h : ∀ v' w', RowK D base w' v' (K ++ L) → X.grownBy w' v.ownBlock → wpList Tryz.prog ops Q rest (a.put o.dst v') w') :
    wpList Tryz.prog ops Q (o :: rest) a X := by
  refine wpList_plain hgd fun K' hK' => ?_
  exact wp_appK hD X base s x hop hty v K L hs hown q cq hx hq hR hM hb fun v' w' h1 h2 => hK' _ _ (h v' w' h1 h2)
theorem step_appK (hD : D.Ok) {ops : Array Oper} {o : Oper} {a : Act} {K' : Act → World → Prop} {Q : Exit → Act → World → Prop} {E : Prop} (X : World) (base : Nat) (hgd : o.guard = none)
    (s x : Operand) (hop : o.op = Op.call { callee := Callee.builtin Builtin.append, args := #[s, x], argTypes := #[D.tS, D.tS] }) (hty : o.type = D.tS)
    (v : Value) (K L : List α) (hs : a.eval s = v) (hown : RowK D base X v K) (q : Option Addr) (cq : Nat) (hx : a.eval x = .slice q L.length cq) (hq : q = none → cq = 0) (hR : SlK D X q L) (hM : K.length + L.length ≤ 1000000) (hb : base ≤ X.heap.size)
    (h : ∀ v' w', RowK D base w' v' (K ++ L) → X.grownBy w' v.ownBlock → K' (a.put o.dst v') w') :
    if Region.wanted o (yielded ops a.tmps) = true then Oper.wp Tryz.prog o a X K' Q else E := by
  have hw : Region.wanted o (yielded ops a.tmps) = true := by simp [Region.wanted, hgd]
  rw [if_pos hw]
  exact wp_appK hD X base s x hop hty v K L hs hown q cq hx hq hR hM hb h
/-- One thing in a block of its own. -/
theorem SlK.one {W : World} {A : Nat} {x : α} (hA : A < W.heap.size) (hc : ∀ j u, (D.enc x)[j]? = some u → W.cell? ⟨A, j, none⟩ = some u) : SlK D W (some ⟨A, 0, none⟩) [x] := by
  refine .inr ⟨A, 0, rfl, hA, fun i j y u hy hu => ?_⟩
  have hi : i = 0 := by
    have := (List.getElem?_eq_some_iff.1 hy).1
    simpa using this
  subst hi
  simp only [List.getElem?_cons_zero, Option.some.injEq] at hy
  subst hy
  rw [Nat.zero_add, Nat.zero_mul, Nat.zero_add]
  exact hc j u hu
end
#print axioms step_appK
end Go.Proofs.YtccbhblklhmcpaaGreatDoor
