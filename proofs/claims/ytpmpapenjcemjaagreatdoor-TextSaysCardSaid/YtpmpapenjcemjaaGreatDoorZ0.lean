/- Zones in memory: lists, appends, what came in. (Made by mkz0.py.) No condition. -/
import Derived.Test.YtpmpapenjcemjaaGreatDoorH11
import Derived.Test.YtpmpapenjcemjaaGreatDoorH5
import Derived.Test.YtpmpapenjcemjaaGreatDoorMK
import Derived.Deep.Slices
import Derived.Laws.OwnMore
import Derived.Deep.RegionLaw
namespace Go.Proofs.YtpmpapenjcemjaaGreatDoor
set_option linter.unusedSimpArgs false
set_option linter.unusedVariables false
set_option maxRecDepth 10000
open Go Go.RowKit Go.Shelf Go.ChangeShapes Go.WideShapes Go.ChangeAt Go.Joins Go.Deep
attribute [local go_sem] Nat.add_assoc Nat.add_lt_add_iff_left lit_lt_add
/-- A zone of some. -/
def nthZ (L : List (Nat → Int)) (i : Nat) : Nat → Int := L.getD i fun _ => 0
theorem nthZ_mem {L : List (Nat → Int)} {i : Nat} (h : i < L.length) : nthZ L i ∈ L := by
  unfold nthZ
  rw [List.getD_eq_getElem?_getD, List.getElem?_eq_getElem h]
  exact List.getElem_mem h
theorem nthZ_eq {L : List (Nat → Int)} {i : Nat} (h : i < L.length) : nthZ L i = L[i] := by
  unfold nthZ
  rw [List.getD_eq_getElem?_getD, List.getElem?_eq_getElem h]; rfl
theorem infoZ : (Tryz.prog.info? 49).map (fun i => (i.size, i.bytes)) = some (6, 48) := by kernel_rfl
theorem infoZz : (Tryz.prog.info? 49).map (fun i => i.zero) = some (some (.agg #[.int .i64 0, .int .i64 0, .int .i64 0, .int .i64 0, .int .i64 0, .int .i64 0])) := by kernel_rfl
/-- The cells of zones, one behind the other. -/
def cellsZ : List (Nat → Int) → List Value
  | [] => []
  | z :: l => [.int .i64 (z 0), .int .i64 (z 1), .int .i64 (z 2), .int .i64 (z 3), .int .i64 (z 4), .int .i64 (z 5)] ++ cellsZ l
theorem cellsZ_len : ∀ l, (cellsZ l).length = l.length * 6
  | [] => rfl
  | z :: l => by rw [cellsZ, List.length_append, cellsZ_len l]; simp only [List.length_cons, List.length_nil]; omega
theorem cellsZ_app : ∀ a b, cellsZ (a ++ b) = cellsZ a ++ cellsZ b
  | [], b => rfl
  | z :: a, b => by rw [List.cons_append, cellsZ, cellsZ_app a b, cellsZ, List.append_assoc]
theorem cellsZ_one : ∀ l, ∀ u ∈ cellsZ l, u.oneCell' = true
  | [], u, hu => by cases hu
  | z :: l, u, hu => by
    rcases List.mem_append.1 hu with h | h
    · simp only [List.mem_cons, List.not_mem_nil, or_false] at h
      rcases h with rfl | rfl | rfl | rfl | rfl | rfl <;> rfl
    · exact cellsZ_one l u h
theorem cellsZ_get : ∀ (l : List (Nat → Int)) (i j : Nat), i < l.length → j < 6 → (cellsZ l)[i * 6 + j]? = some (.int .i64 (nthZ l i j))
  | [], i, j, hi, _ => by simp at hi
  | z :: l, 0, j, _, hj => by
    rw [cellsZ, List.getElem?_append_left (by simp; omega)]
    rcases six hj with rfl | rfl | rfl | rfl | rfl | rfl <;> rfl
  | z :: l, i + 1, j, hi, hj => by
    rw [cellsZ, List.getElem?_append_right (by simp; omega)]
    have := cellsZ_get l i j (by simp at hi; omega) hj
    simp only [List.length_cons, List.length_nil]
    rw [show (i + 1) * 6 + j - (0 + 1 + 1 + 1 + 1 + 1 + 1) = i * 6 + j by omega, this]
    rfl
/-- Zones in memory. -/
def SlZ (W : World) (p : Option Addr) (l : List (Nat → Int)) : Prop := l = [] ∨ ∃ A o, p = some ⟨A, o, none⟩ ∧ A < W.heap.size ∧ ∀ i j, i < l.length → j < 6 → W.cell? ⟨A, o + (i * 6 + j), none⟩ = some (.int .i64 (nthZ l i j))
theorem SlZ.below {W V : World} {p : Option Addr} {l : List (Nat → Int)} (h : SlZ W p l) (hb : Below W.heap.size W V) : SlZ V p l := by
  rcases h with h | ⟨A, o, rfl, h1, h2⟩
  · exact .inl h
  · exact .inr ⟨A, o, rfl, Nat.lt_of_lt_of_le h1 hb.size, fun i j hi hj => (hb.cell (p := ⟨A, o + (i * 6 + j), none⟩) h1).trans (h2 i j hi hj)⟩
/-- Zones of the call's own. -/
def OwnZ (w W : World) (p : Option Addr) (l : List (Nat → Int)) : Prop := l = [] ∨ ∃ B, p = some ⟨B, 0, none⟩ ∧ w.heap.size ≤ B ∧ B < W.heap.size ∧ ∀ i j, i < l.length → j < 6 → W.cell? ⟨B, i * 6 + j, none⟩ = some (.int .i64 (nthZ l i j)) ∧ W.frozen? ⟨B, i * 6 + j, none⟩ = false
theorem OwnZ.slz {w W : World} {p : Option Addr} {l : List (Nat → Int)} (h : OwnZ w W p l) : SlZ W p l := by
  rcases h with h | ⟨B, rfl, _, h1, h2⟩
  · exact .inl h
  · exact .inr ⟨B, 0, rfl, h1, fun i j hi hj => by rw [Nat.zero_add]; exact (h2 i j hi hj).1⟩
/-- What a row holds, the zones hold. -/
theorem ownZ_of_row {w W : World} {base : Nat} {e : TypeId} {v : Value} {l : List (Nat → Int)} (h : W.ownsRow base e 6 v l.length (cellsZ l)) (hb : w.heap.size ≤ base) : ∃ p c, v = .slice p l.length c ∧ (p = none → c = 0) ∧ OwnZ w W p l := by
  rcases h.2 with ⟨rfl, h0⟩ | ⟨g, cap, cur, rfl, hg, hgb, _, _, hc, ht⟩
  · rw [h0]; exact ⟨none, 0, rfl, fun _ => rfl, .inl (List.length_eq_zero_iff.1 h0)⟩
  · refine ⟨_, cap, rfl, (fun h => by cases h), .inr ⟨g, rfl, by omega, (Array.getElem?_eq_some_iff.1 hgb).1, fun i j hi hj => ?_⟩⟩
    have hx : i * 6 + j < l.length * 6 := by omega
    have h1 := cellsZ_get l i j hi hj
    rw [← ht, List.getElem?_take_of_lt hx] at h1
    rw [Array.getElem?_toList] at h1
    refine ⟨?_, ?_⟩
    · simp only [World.cell?, hgb]; simpa using h1
    · simp only [World.frozen?, hgb]; simp
/-- Zones as a result, with an error's number. -/
def zlC (w : World) (r : List (Nat → Int) × Int) (e : Ending) (W : World) : Prop := (∃ p c, e = .returned (.tuple #[.slice p r.1.length c, .int .i64 r.2]) ∧ (p = none → c = 0) ∧ OwnZ w W p r.1) ∧ ∃ q, W = Wov w q
/-- The cells of a zone of some. -/
theorem slz_cells {W : World} {A o : Nat} {l : List (Nat → Int)} {t : Nat} (h : ∀ i j, i < l.length → j < 6 → W.cell? ⟨A, o + (i * 6 + j), none⟩ = some (.int .i64 (nthZ l i j))) (ht : t < l.length) :
    W.cell? ⟨A, o + t * 6, none⟩ = some (.int .i64 (nthZ l t 0)) ∧ W.cell? ⟨A, o + (t * 6 + 1), none⟩ = some (.int .i64 (nthZ l t 1)) ∧ W.cell? ⟨A, o + (t * 6 + 2), none⟩ = some (.int .i64 (nthZ l t 2)) ∧ W.cell? ⟨A, o + (t * 6 + 3), none⟩ = some (.int .i64 (nthZ l t 3)) ∧ W.cell? ⟨A, o + (t * 6 + 4), none⟩ = some (.int .i64 (nthZ l t 4)) ∧ W.cell? ⟨A, o + (t * 6 + 5), none⟩ = some (.int .i64 (nthZ l t 5)) :=
  ⟨h t 0 ht (by omega), h t 1 ht (by omega), h t 2 ht (by omega), h t 3 ht (by omega), h t 4 ht (by omega), h t 5 ht (by omega)⟩
theorem OwnZ.below {w W V : World} {p : Option Addr} {l : List (Nat → Int)} (h : OwnZ w W p l) (hb : Below W.heap.size W V) : OwnZ w V p l := by
  rcases h with h | ⟨B, rfl, h1, h2, h3⟩
  · exact .inl h
  · exact .inr ⟨B, rfl, h1, Nat.lt_of_lt_of_le h2 hb.size, fun i j hi hj => ⟨(hb.cell (p := ⟨B, i * 6 + j, none⟩) h2).trans (h3 i j hi hj).1, (hb.frozen (p := ⟨B, i * 6 + j, none⟩) h2).trans (h3 i j hi hj).2⟩⟩
theorem ownZ_one {w X : World} {a : Nat → Int} {t : TypeId} {B : Nat} (hB : B = X.heap.size) (hw : w.heap.size ≤ X.heap.size) : OwnZ w (X.alloc (.cells #[.int .i64 (a 0), .int .i64 (a 1), .int .i64 (a 2), .int .i64 (a 3), .int .i64 (a 4), .int .i64 (a 5)] t)) (some ⟨B, 0, none⟩) [a] := by
  subst hB
  refine .inr ⟨X.heap.size, rfl, hw, by simp, fun i j hi hj => ?_⟩
  obtain rfl : i = 0 := by simpa using hi
  rcases six hj with rfl | rfl | rfl | rfl | rfl | rfl <;> (constructor <;> simp [go_sem, nthZ])
/-- The cells of one zone. -/
theorem trod_zone {H : Type} {enc : TypeId × Value → H} {W : World} {n : Nat} {sp : Nat → Bool} {he : Bool} {cs : List Value} {d : DataW H} {p : List MemPlace} (hl : cs.length = 6) (h : DataW.trod enc Tryz.prog W 0 sp he n 49 cs = some (d, p)) :
    ∃ z : Nat → Int, FitsZ z ∧ ∀ j, j < 6 → cs[j]? = some (.int .i64 (z j)) := by
  have hu := Tryz.underlying49
  obtain ⟨xs, m, _, _, _, hlen, hx⟩ := DataW.trod_array hu h
  match cs, hl, xs, hlen with
  | [c0, c1, c2, c3, c4, c5], _, [y0, y1, y2, y3, y4, y5], _ =>
    have h0 := hx 0 (by omega)
    have h1 := hx 1 (by omega)
    have h2 := hx 2 (by omega)
    have h3 := hx 3 (by omega)
    have h4 := hx 4 (by omega)
    have h5 := hx 5 (by omega)
    simp [cellsBnd, Value.cells] at h0 h1 h2 h3 h4 h5
    obtain ⟨a0, e0, _, w0⟩ := DataW.trod_int Tryz.underlying47 h0
    obtain ⟨a1, e1, _, w1⟩ := DataW.trod_int Tryz.underlying47 h1
    obtain ⟨a2, e2, _, w2⟩ := DataW.trod_int Tryz.underlying47 h2
    obtain ⟨a3, e3, _, w3⟩ := DataW.trod_int Tryz.underlying47 h3
    obtain ⟨a4, e4, _, w4⟩ := DataW.trod_int Tryz.underlying47 h4
    obtain ⟨a5, e5, _, w5⟩ := DataW.trod_int Tryz.underlying47 h5
    simp at e0 e1 e2 e3 e4 e5
    subst e0 e1 e2 e3 e4 e5
    refine ⟨row6 a0 a1 a2 a3 a4 a5, fun i hi => ?_, fun j hj => ?_⟩
    · rcases six hi with rfl | rfl | rfl | rfl | rfl | rfl
      · exact fits_of_wf w0
      · exact fits_of_wf w1
      · exact fits_of_wf w2
      · exact fits_of_wf w3
      · exact fits_of_wf w4
      · exact fits_of_wf w5
    · rcases six hj with rfl | rfl | rfl | rfl | rfl | rfl <;> rfl
theorem nthZ_range {f : Nat → Nat → Int} {n i : Nat} (h : i < n) : nthZ ((List.range n).map f) i = f i := by
  rw [nthZ_eq (by simpa using h)]; simp
/-- A slice of zones that came in. -/
theorem open_zones {H : Type} {enc : TypeId × Value → H} {W : World} {base : Nat} {v : Value} {d : DataW H} {p : List MemPlace}
    (hv : Value.okWide Tryz.prog W .any base 36 v) (h : DataW.Trod enc Tryz.prog W 0 (fun _ => true) true 36 v d p) :
    ∃ (q : Option Addr) (cq : Nat) (L : List (Nat → Int)), v = .slice q L.length cq ∧ SlZ W q L ∧ (∀ z, z ∈ L → FitsZ z) ∧ L.length ≤ maxLen := by
  obtain ⟨a0, l0, k0, rfl⟩ := okWide_slice Tryz.underlying36 hv
  obtain ⟨n, h⟩ := h
  rcases open_slice Tryz.underlying36 h with ⟨h1, _⟩ | ⟨a, len, cap, m, n', D, Pl, h1, hb, hl, hm, hmm, _, hx⟩
  · have h1 : Value.slice a0 l0 k0 = .slice none 0 0 := by simpa [Value.cells] using h1
    exact ⟨none, 0, [], h1, .inl rfl, (fun z hz => by cases hz), by simp [maxLen]⟩
  · have h1 : Value.slice a0 l0 k0 = .slice (some a) len cap := by simpa [Value.cells] using h1
    simp only [if_true] at hmm
    subst hmm
    have hg : ∀ i, ∃ z : Nat → Int, i < m → FitsZ z ∧ ∀ j, j < 6 → W.cell? ((a.add (i * 6)).add j) = some (.int .i64 (z j)) := by
      intro i
      by_cases hi : i < m
      · obtain ⟨cs', c1, c2⟩ := hx i hi
        rw [cellsZone] at c1
        obtain ⟨_, hlen, hcell⟩ := World.cells?_some c1
        obtain ⟨z, hf, hz⟩ := trod_zone hlen c2
        refine ⟨z, fun _ => ⟨hf, fun j hj => ?_⟩⟩
        exact (hcell j hj).trans (hz j hj)
      · exact ⟨fun _ => 0, fun h => absurd h hi⟩
    obtain ⟨Z, hZ⟩ := Classical.axiomOfChoice hg
    refine ⟨some a, m, (List.range len).map Z, by rw [h1]; simp, ?_, ?_, by simp; omega⟩
    · by_cases h0 : len = 0
      · subst h0; exact .inl rfl
      · obtain ⟨B, off, spot⟩ := a
        have c00 := (hZ 0 (by omega)).2 0 (by omega)
        have hspot : spot = none := by simpa [Addr.add] using World.cell?_spot c00
        subst hspot
        refine .inr ⟨B, off, rfl, ?_, fun i j hi hj => ?_⟩
        · have := World.block_lt_of_cell? W _ c00
          simpa [Addr.add] using this
        · rw [List.length_map, List.length_range] at hi
          rw [nthZ_range hi]
          have := (hZ i (by omega)).2 j hj
          rw [Addr.add_lit, Addr.add_lit, Nat.add_assoc] at this
          exact this
    · intro z hz
      obtain ⟨i, hi, rfl⟩ := List.mem_map.1 hz
      rw [List.mem_range] at hi
      exact (hZ i (by omega)).1
/-- Zones behind zones: one append, of however many. -/
theorem wpList_appZ {ops : Array Oper} {rest : List Oper} {o : Oper} {a : Act} {Q : Exit → Act → World → Prop} (X : World) (base : Nat)
    (hgd : o.guard = none) (s x : Operand) (hop : o.op = Op.call { callee := Callee.builtin Builtin.append, args := #[s, x], argTypes := #[36, 36] }) (hty : o.type = 36)
    (v : Value) (K L : List (Nat → Int)) (hs : a.eval s = v) (hown : X.ownsRow base 49 6 v K.length (cellsZ K)) (q : Option Addr) (cq : Nat) (hx : a.eval x = .slice q L.length cq) (hq : q = none → cq = 0) (hR : SlZ X q L) (hM : K.length + L.length ≤ 1000000) (hb : base ≤ X.heap.size)
    (h : ∀ v' w', w'.ownsRow base 49 6 v' (K ++ L).length (cellsZ (K ++ L)) → X.grownBy w' v.ownBlock → wpList Tryz.prog ops Q rest (a.put o.dst v') w') :
    wpList Tryz.prog ops Q (o :: rest) a X := by
  refine wpList_plain hgd fun K' hK' => ?_
  unfold Oper.wp
  obtain ⟨i0, hi, hz1, hz2⟩ : ∃ i0, Tryz.prog.info? 49 = some i0 ∧ i0.size = 6 ∧ i0.bytes = 48 := by
    have := infoZ
    cases h : Tryz.prog.info? 49 with
    | none => rw [h] at this; cases this
    | some i => rw [h] at this; simp at this; exact ⟨i, rfl, this.1, this.2⟩
  have hz0 : i0.zero = some (.agg #[.int .i64 0, .int .i64 0, .int .i64 0, .int .i64 0, .int .i64 0, .int .i64 0]) := by
    have := infoZz
    rw [hi] at this; simpa using this
  cases q with
  | none =>
    obtain rfl := hq rfl
    have hL : L = [] := by
      rcases hR with h | ⟨A, o, h, _⟩
      · exact h
      · cases h
    subst hL
    have hrun := run_append_owned_none (P := Tryz.prog) X base 36 36 49 i0 6 Tryz.underlying36 hi v K.length (cellsZ K) hown
    simp only [List.length_nil] at hx
    simp [execOp, hop, hty, resolve, invoke, builtin, hs, hx, hrun, Result.andThen]
    refine hK' _ _ (h v X ?_ ⟨rfl, rfl, rfl, Nat.le_refl _, fun _ _ _ => rfl⟩)
    rw [List.append_nil]; exact hown
  | some ad =>
    have hc : ∀ j u, (cellsZ L)[j]? = some u → X.cell? (ad.add j) = some u := by
      intro j u hj
      rcases hR with h | ⟨A, o, h, hlt, hv⟩
      · subst h; simp [cellsZ] at hj
      · cases h
        have hjl : j < L.length * 6 := by
          have := (List.getElem?_eq_some_iff.1 hj).1
          rwa [cellsZ_len] at this
        have h1 := cellsZ_get L (j / 6) (j % 6) (by omega) (by omega)
        have h2 := hv (j / 6) (j % 6) (by omega) (by omega)
        rw [show j / 6 * 6 + j % 6 = j by omega] at h1 h2
        rw [h1] at hj
        rw [Addr.add_lit, h2]; exact hj
    obtain ⟨v', w', hrun, r1, r2, r3⟩ := run_append_own (P := Tryz.prog) X base 36 36 49 i0 _ 6 48 Tryz.underlying36 hi hz0 hz1 hz2 rfl (by decide) v K.length (cellsZ K) hown ad L.length cq (cellsZ L) (cellsZ_len L) hc (cellsZ_one L) (by unfold maxLen; omega) (by omega) hb
    simp [execOp, hop, hty, resolve, invoke, builtin, hs, hx, hrun, Result.andThen]
    refine hK' _ _ (h v' w' ?_ r2)
    rw [List.length_append, cellsZ_app]; exact r1
theorem wp_appZ {o : Oper} {a : Act} {K' : Act → World → Prop} {Q : Exit → Act → World → Prop} (X : World) (base : Nat)
    (s x : Operand) (hop : o.op = Op.call { callee := Callee.builtin Builtin.append, args := #[s, x], argTypes := #[36, 36] }) (hty : o.type = 36)
    (v : Value) (K L : List (Nat → Int)) (hs : a.eval s = v) (hown : X.ownsRow base 49 6 v K.length (cellsZ K)) (q : Option Addr) (cq : Nat) (hx : a.eval x = .slice q L.length cq) (hq : q = none → cq = 0) (hR : SlZ X q L) (hM : K.length + L.length ≤ 1000000) (hb : base ≤ X.heap.size)
    (h : ∀ v' w', w'.ownsRow base 49 6 v' (K ++ L).length (cellsZ (K ++ L)) → X.grownBy w' v.ownBlock → K' (a.put o.dst v') w') :
    Oper.wp Tryz.prog o a X K' Q := by
  unfold Oper.wp
  obtain ⟨i0, hi, hz1, hz2⟩ : ∃ i0, Tryz.prog.info? 49 = some i0 ∧ i0.size = 6 ∧ i0.bytes = 48 := by
    have := infoZ
    cases h : Tryz.prog.info? 49 with
    | none => rw [h] at this; cases this
    | some i => rw [h] at this; simp at this; exact ⟨i, rfl, this.1, this.2⟩
  have hz0 : i0.zero = some (.agg #[.int .i64 0, .int .i64 0, .int .i64 0, .int .i64 0, .int .i64 0, .int .i64 0]) := by
    have := infoZz
    rw [hi] at this; simpa using this
  cases q with
  | none =>
    obtain rfl := hq rfl
    have hL : L = [] := by
      rcases hR with h | ⟨A, o, h, _⟩
      · exact h
      · cases h
    subst hL
    have hrun := run_append_owned_none (P := Tryz.prog) X base 36 36 49 i0 6 Tryz.underlying36 hi v K.length (cellsZ K) hown
    simp only [List.length_nil] at hx
    simp [execOp, hop, hty, resolve, invoke, builtin, hs, hx, hrun, Result.andThen]
    refine (h v X ?_ ⟨rfl, rfl, rfl, Nat.le_refl _, fun _ _ _ => rfl⟩)
    rw [List.append_nil]; exact hown
  | some ad =>
    have hc : ∀ j u, (cellsZ L)[j]? = some u → X.cell? (ad.add j) = some u := by
      intro j u hj
      rcases hR with h | ⟨A, o, h, hlt, hv⟩
      · subst h; simp [cellsZ] at hj
      · cases h
        have hjl : j < L.length * 6 := by
          have := (List.getElem?_eq_some_iff.1 hj).1
          rwa [cellsZ_len] at this
        have h1 := cellsZ_get L (j / 6) (j % 6) (by omega) (by omega)
        have h2 := hv (j / 6) (j % 6) (by omega) (by omega)
        rw [show j / 6 * 6 + j % 6 = j by omega] at h1 h2
        rw [h1] at hj
        rw [Addr.add_lit, h2]; exact hj
    obtain ⟨v', w', hrun, r1, r2, r3⟩ := run_append_own (P := Tryz.prog) X base 36 36 49 i0 _ 6 48 Tryz.underlying36 hi hz0 hz1 hz2 rfl (by decide) v K.length (cellsZ K) hown ad L.length cq (cellsZ L) (cellsZ_len L) hc (cellsZ_one L) (by unfold maxLen; omega) (by omega) hb
    simp [execOp, hop, hty, resolve, invoke, builtin, hs, hx, hrun, Result.andThen]
    refine h v' w' ?_ r2
    rw [List.length_append, cellsZ_app]; exact r1
theorem step_appZ {ops : Array Oper} {o : Oper} {a : Act} {K' : Act → World → Prop} {Q : Exit → Act → World → Prop} {E : Prop} (X : World) (base : Nat) (hgd : o.guard = none)
    (s x : Operand) (hop : o.op = Op.call { callee := Callee.builtin Builtin.append, args := #[s, x], argTypes := #[36, 36] }) (hty : o.type = 36)
    (v : Value) (K L : List (Nat → Int)) (hs : a.eval s = v) (hown : X.ownsRow base 49 6 v K.length (cellsZ K)) (q : Option Addr) (cq : Nat) (hx : a.eval x = .slice q L.length cq) (hq : q = none → cq = 0) (hR : SlZ X q L) (hM : K.length + L.length ≤ 1000000) (hb : base ≤ X.heap.size)
    (h : ∀ v' w', w'.ownsRow base 49 6 v' (K ++ L).length (cellsZ (K ++ L)) → X.grownBy w' v.ownBlock → K' (a.put o.dst v') w') :
    if Region.wanted o (yielded ops a.tmps) = true then Oper.wp Tryz.prog o a X K' Q else E := by
  have hw : Region.wanted o (yielded ops a.tmps) = true := by simp [Region.wanted, hgd]
  rw [if_pos hw]
  exact wp_appZ X base s x hop hty v K L hs hown q cq hx hq hR hM hb h
theorem slz_one {X : World} {b : Nat → Int} {t : TypeId} : SlZ (X.alloc (.cells #[.int .i64 (b 0), .int .i64 (b 1), .int .i64 (b 2), .int .i64 (b 3), .int .i64 (b 4), .int .i64 (b 5)] t)) (some ⟨X.heap.size, 0, none⟩) [b] := by
  refine .inr ⟨_, 0, rfl, by simp, fun i j hi hj => ?_⟩
  obtain rfl : i = 0 := by simpa using hi
  rcases six hj with rfl | rfl | rfl | rfl | rfl | rfl <;> simp [go_sem, nthZ]
set_option maxRecDepth 10000 in
theorem open_zones_nil {H : Type} {enc : TypeId × Value → H} {W : World} {base : Nat} {q : Option Addr} {cq n : Nat} {d : DataW H} {p : List MemPlace}
    (hv : Value.okWide Tryz.prog W .any base 36 (.slice q n cq)) (h : DataW.Trod enc Tryz.prog W 0 (fun _ => true) true 36 (.slice q n cq) d p) : q = none → cq = 0 := by
  obtain ⟨k, h⟩ := h
  rcases open_slice Tryz.underlying36 h with ⟨h1, _⟩ | ⟨a, len, cap, m, n', D, Pl, h1, _⟩
  · have h1 : Value.slice q n cq = .slice none 0 0 := by simpa [Value.cells] using h1
    simp only [Value.slice.injEq] at h1
    exact fun _ => h1.2.2
  · have h1 : Value.slice q n cq = .slice (some a) len cap := by simpa [Value.cells] using h1
    simp only [Value.slice.injEq] at h1
    intro hq
    rw [hq] at h1; cases h1.1
end Go.Proofs.YtpmpapenjcemjaaGreatDoor
