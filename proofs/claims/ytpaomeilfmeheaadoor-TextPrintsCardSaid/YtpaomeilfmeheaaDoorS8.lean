/- The document's zones' texts: contract of One; rows of bytes. No condition but that the zone may be. -/
import Derived.Test.YtpaomeilfmeheaaDoorS7
import Derived.Lib.AppendStr
import Derived.Laws.BytesArg
namespace Go.Proofs.YtpaomeilfmeheaaDoor
set_option linter.unusedSimpArgs false
set_option linter.unusedVariables false
open Go Go.RowKit Go.Shelf
attribute [local go_sem] Nat.add_assoc Nat.add_lt_add_iff_left lit_lt_add

theorem ivT_len {lo hi : Int} (h1 : mayB lo = true) (h2 : mayB hi = true) : (ivT lo hi).length ≤ 300 := by
  have l1 : ∀ b, mayB b = true → (lowT b).length ≤ 101 ∧ (highT b).length ≤ 101 := by
    intro b hb
    unfold lowT highT
    by_cases e : b = noneB
    · rw [if_pos e, if_pos e]; decide
    · have b2 : -288230376151711744 ≤ b / 2 ∧ b / 2 ≤ 288230376151711744 := (mayB_bd hb).resolve_left e
      rw [if_neg e, if_neg e]
      have i1 := itoa_len (n := -(b / 2)) (by omega) (by omega)
      have i2 := itoa_len (n := b / 2) (by omega) (by omega)
      simp only [List.length_cons, List.length_append, List.length_nil]
      omega
  have a0 := l1 _ h1
  have a1 := l1 _ h2
  unfold ivT
  simp only [List.length_append, List.length_cons]
  omega
set_option maxRecDepth 10000 in
set_option maxHeartbeats 2000000 in
theorem one31_any (z : Nat → Int) (hz : okZ z = true) (w : World) : Calls Tryd.prog 19 #[zoneV z] w (Gives w (.string (bs (oneT z)))) := by
  have IV : ∀ i j, i < 6 → j < 6 → Hid (∀ w, Calls Tryd.prog 35 #[.int .i64 (z i), .int .i64 (z j)] w (Gives w (.string (bs (ivT (z i) (z j)))))) := fun i j hi hj w => interval_any _ _ (okZ_mayB hz hi) (okZ_mayB hz hj) w
  have W1 := IV 1 0 (by omega) (by omega)
  have W2 := IV 3 2 (by omega) (by omega)
  have W3 := IV 5 4 (by omega) (by omega)
  have SZ : ∀ i j, i < 6 → j < 6 → (bs (ivT (z i) (z j))).size ≤ 300 := fun i j hi hj => by rw [bs_size]; exact ivT_len (okZ_mayB hz hi) (okZ_mayB hz hj)
  have s1 := SZ 1 0 (by omega) (by omega)
  have s2 := SZ 3 2 (by omega) (by omega)
  have s3 := SZ 5 4 (by omega) (by omega)
  have e : bs (oneT z) = bs (ivT (z 1) (z 0)) ++ bs (ivT (z 3) (z 2)) ++ bs (ivT (z 5) (z 4)) := by
    unfold oneT
    rw [bs_app, bs_app, List.append_assoc]
  rw [e]
  obtain ⟨b1, hb1⟩ : ∃ b, b = bs (ivT (z 1) (z 0)) := ⟨_, rfl⟩
  obtain ⟨b2, hb2⟩ : ∃ b, b = bs (ivT (z 3) (z 2)) := ⟨_, rfl⟩
  obtain ⟨b3, hb3⟩ : ∃ b, b = bs (ivT (z 5) (z 4)) := ⟨_, rfl⟩
  rw [← hb1] at W1 s1 ⊢
  rw [← hb2] at W2 s2 ⊢
  rw [← hb3] at W3 s3 ⊢
  have k1 : ¬ 9223372036854775807 < b1.size + b2.size := by omega
  have k2 : ¬ 9223372036854775807 < (b1 ++ b2).size + b3.size := by rw [ByteArray.size_append]; omega
  have k3 : ¬ 9223372036854775807 < b1.size + (b2.size + b3.size) := by omega
  clear IV SZ e hb1 hb2 hb3 s1 s2 s3 hz
  unfold zoneV
  go_enter Tryd.func19, Tryd.ntmps19
  go_wp2
  refine wp_world (fun W => Below w.heap.size w W ∧ BoxZ W w.heap.size z) ⟨by (repeat' (first | (with_reducible assumption) | (with_reducible exact Below.refl _ _) | (with_reducible refine below_wov ?_ ?_ _) | (with_reducible refine below_drewN ?_ _) | (with_reducible refine Below.drew ?_) | (with_reducible refine Below.alloc ?_ ?_ _) | (with_reducible refine Below.setCell ?_ ?_ _) | (with_reducible exact Nat.le_refl _) | omega | (simp only [World.size_alloc, World.size_setCell, World.size_drew, Wov_size, World.heap_drewN]; omega))), (BoxZ.new (W := w) (t := 44) rfl).below (by (repeat' (first | (with_reducible assumption) | (with_reducible exact Below.refl _ _) | (with_reducible refine below_wov ?_ ?_ _) | (with_reducible refine below_drewN ?_ _) | (with_reducible refine Below.drew ?_) | (with_reducible refine Below.alloc ?_ ?_ _) | (with_reducible refine Below.setCell ?_ ?_ _) | (with_reducible exact Nat.le_refl _) | omega | (simp only [World.size_alloc, World.size_setCell, World.size_drew, Wov_size, World.heap_drewN]; omega))))⟩ ?_
  rintro W ⟨hbW, ⟨al, a0, a1, a2, a3, a4, a5⟩⟩
  have hsW := hbW.size
  go_region_held3 (fun w' => w'.cell? ⟨w.heap.size, 0, none⟩ = some (.int .i64 (z 0)) ∧ w'.cell? ⟨w.heap.size, 1, none⟩ = some (.int .i64 (z 1)) ∧ w'.cell? ⟨w.heap.size, 2, none⟩ = some (.int .i64 (z 2)) ∧ w'.cell? ⟨w.heap.size, 3, none⟩ = some (.int .i64 (z 3)) ∧ w'.cell? ⟨w.heap.size, 4, none⟩ = some (.int .i64 (z 4)) ∧ w'.cell? ⟨w.heap.size, 5, none⟩ = some (.int .i64 (z 5)))
    ((simp [go_sem, *]))
    (first
    | (go_at_call_of 35 (Value.int IntKind.i64 (z 1)); (refine (W1.out _).mono ?_); rintro e w' ⟨rfl, qa, rfl⟩)
    | (go_at_call_of 35 (Value.int IntKind.i64 (z 3)); (refine (W2.out _).mono ?_); rintro e w' ⟨rfl, qb, rfl⟩)
    | (go_at_call_of 35 (Value.int IntKind.i64 (z 5)); (refine (W3.out _).mono ?_); rintro e w' ⟨rfl, qc, rfl⟩))
  all_goals
    go_wp2
    go_ret
    exact gives_end rfl (by (repeat' (first | (with_reducible assumption) | (with_reducible exact Below.refl _ _) | (with_reducible refine below_wov ?_ ?_ _) | (with_reducible refine below_drewN ?_ _) | (with_reducible refine Below.drew ?_) | (with_reducible refine Below.alloc ?_ ?_ _) | (with_reducible refine Below.setCell ?_ ?_ _) | (with_reducible exact Nat.le_refl _) | omega | (simp only [World.size_alloc, World.size_setCell, World.size_drew, Wov_size, World.heap_drewN]; omega))))

/-- Bytes as cells. -/
def cellsB (l : List UInt8) : List Value := Lib.strCells (bs l)
theorem cellsB_len (l : List UInt8) : (cellsB l).length = l.length := by unfold cellsB; rw [Lib.strCells_length, bs_size]
theorem cellsB_app (a b : List UInt8) : cellsB a ++ cellsB b = cellsB (a ++ b) := by
  unfold cellsB Lib.strCells
  rw [bs_list, bs_list, bs_list, List.map_append]
theorem infoY : (Tryd.prog.info? 5).map (fun i => (i.size, i.bytes)) = some (1, 1) := by kernel_rfl
theorem infoYz : (Tryd.prog.info? 5).map (fun i => i.zero) = some (some (.int .u8 0)) := by kernel_rfl
/-- A row of bytes as a string. -/
theorem conv_row {W : World} {base : Nat} {v : Value} {l : List UInt8} (h : W.ownsRow base 5 1 v l.length (cellsB l)) : (convert 48 9 v).run Tryd.prog W = .ok (.string (bs l)) W := by
  obtain ⟨h0, ⟨rfl, hl⟩ | ⟨g, cap, cur, rfl, _, hg, h1, h2, h3, h4⟩⟩ := h
  · have : l = [] := List.length_eq_zero_iff.1 hl
    subst this
    exact run_convert_bytes_nil W 48 5 Tryd.underlying48 Tryd.underlying5 0 0 9 Tryd.underlying9
  · have := run_convert_bytes_arg (P := Tryd.prog) W 48 5 Tryd.underlying48 Tryd.underlying5 g 0 l.length cap (l.map fun b => (b.toNat : Int)) (by simp) (fun i hi => by
      have e1 : (cellsB l)[i]? = some (.int .u8 (((l.map fun b => (b.toNat : Int)).getD i 0))) := by
        unfold cellsB Lib.strCells
        rw [bs_list, List.getElem?_map, List.getElem?_eq_getElem hi]
        simp [List.getD, List.getElem?_eq_getElem hi]
      rw [← h4, List.getElem?_take_of_lt (by omega), Array.getElem?_toList] at e1
      rw [Nat.zero_add]
      simp only [World.cell?, hg]; simpa using e1) 9 Tryd.underlying9
    have e : strOfNums (l.map fun b => (b.toNat : Int)) = bs l := by
      apply ByteArray.ext
      simp only [strOfNums, bs, List.map_map]
      have : ∀ m : List UInt8, m.map ((fun n : Int => UInt8.ofNat n.toNat) ∘ fun b : UInt8 => (b.toNat : Int)) = m := by
        intro m
        induction m with
        | nil => rfl
        | cons x r ih => rw [List.map_cons, ih]; simp [Function.comp]
      rw [this]
    rw [this, e]
#print axioms conv_row
end Go.Proofs.YtpaomeilfmeheaaDoor
