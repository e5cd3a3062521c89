/- Small laws for all walks of this seat: worlds that have grown ('ov'), calls that leave such a world, regions that draw their order and hold such calls. No condition. -/
import Derived.Test.YtccbhblklhmcpaaGreatDoorProg
import Derived.WalkKit
import Derived.BigQuiet
import Derived.RegionTactic
import Derived.Lib.Hide
import Derived.IntWalk
import Derived.LoopTactic
import Derived.Outline
import Derived.Handy
import Derived.Test.YtccbhblklhmcpaaGreatDoorM1
namespace Go.Proofs.YtccbhblklhmcpaaGreatDoor
set_option linter.unusedSimpArgs false
set_option linter.unusedVariables false
open Go Go.RowKit

/-- By what a world has grown: new blocks, and the count of draws. -/
structure Gr where
  bl : Array Obj
  dr : Nat
instance : Inhabited Gr := ⟨⟨#[], 0⟩⟩

/-- A world that has grown by some blocks, and drawn: what was there is as it was. -/
def Wov (w : World) (p : Gr) : World := { w with heap := w.heap ++ p.bl, drawn := p.dr }

section
variable (w : World) (p q : Gr)
@[go_sem] theorem Wov_size : (Wov w p).heap.size = w.heap.size + p.bl.size := by simp [Wov]
@[go_sem] theorem Wov_Wov : Wov (Wov w p) q = Wov w ⟨p.bl ++ q.bl, q.dr⟩ := by simp [Wov]
@[go_sem] theorem Wov_drew : (Wov w p).drew = Wov w ⟨p.bl, p.dr + 1⟩ := rfl
@[go_sem] theorem drew_Wov : Wov w.drew p = Wov w p := rfl
@[go_sem] theorem drewN_Wov (n : Nat) : Wov (w.drewN n) p = Wov w p := rfl
@[go_sem] theorem Wov_drewN (n : Nat) : (Wov w p).drewN n = Wov w ⟨p.bl, p.dr + n⟩ := rfl
theorem Wov_heap (k : Nat) (h : k < w.heap.size) : (Wov w p).heap[k]? = w.heap[k]? := by
  simp only [Wov]
  rw [Array.getElem?_append_left h]
@[go_sem] theorem Wov_cell_past (n i : Nat) (hn : n < w.heap.size) : (Wov w p).cell? ⟨n, i, none⟩ = w.cell? ⟨n, i, none⟩ :=
  World.cell?_of_block (w := w) (Wov_heap w p n hn)
@[go_sem] theorem Wov_frozen_past (n i : Nat) (hn : n < w.heap.size) : (Wov w p).frozen? ⟨n, i, none⟩ = w.frozen? ⟨n, i, none⟩ :=
  World.frozen?_of_block (w := w) (Wov_heap w p n hn)
@[go_sem] theorem Wov_cell_some (a : Addr) (h : (w.cell? a).isSome = true) : (Wov w p).cell? a = w.cell? a := by
  obtain ⟨u, hu⟩ := Option.isSome_iff_exists.1 h
  exact World.cell?_of_block (w := w) (Wov_heap w p _ (World.block_lt_of_cell? w a hu))
@[go_sem] theorem Wov_frozen_some (a : Addr) (h : (w.cell? a).isSome = true) : (Wov w p).frozen? a = w.frozen? a := by
  obtain ⟨u, hu⟩ := Option.isSome_iff_exists.1 h
  exact World.frozen?_of_block (w := w) (Wov_heap w p _ (World.block_lt_of_cell? w a hu))
@[go_sem] theorem setCell_cell_self (a : Addr) (v : Value) : (w.setCell a v).cell? a = (w.cell? a).map (fun _ => v) := by
  cases h : w.cell? a with
  | some u => exact World.cell?_setCell_same _ _ _ h
  | none =>
    simp only [Option.map_none]
    simp only [World.cell?, World.setCell, Array.getElem?_modify, if_pos] at h ⊢
    cases hb : w.heap[a.block]? with
    | none => simp
    | some o =>
      rw [hb] at h
      cases o <;> simp_all
@[go_sem] theorem alloc_cell_some (a : Addr) (o : Obj) (h : (w.cell? a).isSome = true) : (w.alloc o).cell? a = w.cell? a := by
  obtain ⟨u, hu⟩ := Option.isSome_iff_exists.1 h
  exact World.cell?_alloc_lt _ _ _ (World.block_lt_of_cell? w a hu)
@[go_sem] theorem alloc_frozen_some (a : Addr) (o : Obj) (h : (w.cell? a).isSome = true) : (w.alloc o).frozen? a = w.frozen? a := by
  obtain ⟨u, hu⟩ := Option.isSome_iff_exists.1 h
  exact World.frozen?_alloc_old _ _ _ (by have := World.block_lt_of_cell? w a hu; omega)
end

theorem Wov_self (w : World) : Wov w ⟨#[], w.drawn⟩ = w := by cases w; simp [Wov]
theorem Wov_of_drewN (w : World) (n : Nat) : ∃ p, w.drewN n = Wov w p := ⟨⟨#[], w.drawn + n⟩, by simp [Wov, World.drewN]⟩
theorem below_Wov (w : World) (p : Gr) : Below w.heap.size w (Wov w p) :=
  ⟨rfl, rfl, rfl, by simp [Wov], fun k hk => Wov_heap w p k hk⟩
theorem Wov_of_below {w w' : World} (h : Below w.heap.size w w') : ∃ p, w' = Wov w p := by
  refine ⟨⟨w'.heap.extract w.heap.size w'.heap.size, w'.drawn⟩, ?_⟩
  have hh : w'.heap = w.heap ++ w'.heap.extract w.heap.size w'.heap.size := by
    apply Array.ext_getElem?
    intro i
    by_cases hi : i < w.heap.size
    · rw [Array.getElem?_append_left hi]; exact h.block i hi
    · rw [Array.getElem?_append_right (by omega), Array.getElem?_extract]
      have := h.size
      by_cases h2 : i < w'.heap.size
      · rw [if_pos (by omega)]; congr 1; omega
      · rw [if_neg (by omega)]; exact Array.getElem?_eq_none (by omega)
  cases w'; cases w
  simp only [Wov] at *
  have h1 := h.os; have h2 := h.tape; have h3 := h.output
  simp only at h1 h2 h3 hh
  subst h1; subst h2; subst h3
  rw [World.mk.injEq]
  exact ⟨hh, rfl, rfl, rfl, rfl⟩

/-- Behind a call: it hands back a value and leaves a world that has grown. -/
def Gives (w : World) (v : Value) (e : Ending) (w' : World) : Prop := e = .returned v ∧ ∃ p, w' = Wov w p
/-- A call that hands back a value and leaves a world that has grown. -/
def Pure (P : Program) (f : FuncId) (args : Array Value) (v : Value) : Prop := ∀ w, Calls P f args w (Gives w v)

theorem Pure.at {P : Program} {f : FuncId} {args : Array Value} {v : Value} (h : Pure P f args v) (w : World) (p : Gr) :
    Calls P f args (Wov w p) fun e w'' => e = .returned v ∧ ∃ q, w'' = Wov w q :=
  (h (Wov w p)).mono fun _ _ ⟨he, q, hq⟩ => ⟨he, ⟨p.bl ++ q.bl, q.dr⟩, by rw [hq, Wov_Wov]⟩

theorem Pure.at2 {P : Program} {f : FuncId} {args : Array Value} {v : Value} (h : Pure P f args v) (w : World) (a : Array Obj) (n : Gr) :
    Calls P f args (Wov w ⟨a ++ n.bl, n.dr⟩) fun e w'' => e = .returned v ∧ ∃ m : Gr, w'' = Wov w ⟨a ++ m.bl, m.dr⟩ :=
  (h _).mono fun _ _ ⟨he, q, hq⟩ => ⟨he, ⟨n.bl ++ q.bl, q.dr⟩, by rw [hq, Wov_Wov]; simp only [Array.append_assoc]⟩

theorem Pure.at3 {P : Program} {f : FuncId} {args : Array Value} {v : Value} (h : Pure P f args v) (w : World) (a b : Array Obj) (n : Gr) :
    Calls P f args (Wov w ⟨a ++ (b ++ n.bl), n.dr⟩) fun e w'' => e = .returned v ∧ ∃ m : Gr, w'' = Wov w ⟨a ++ (b ++ m.bl), m.dr⟩ :=
  (h _).mono fun _ _ ⟨he, q, hq⟩ => ⟨he, ⟨n.bl ++ q.bl, q.dr⟩, by rw [hq, Wov_Wov]; simp only [Array.append_assoc]⟩

theorem Pure.at4 {P : Program} {f : FuncId} {args : Array Value} {v : Value} (h : Pure P f args v) (w : World) (a b c : Array Obj) (n : Gr) :
    Calls P f args (Wov w ⟨a ++ (b ++ (c ++ n.bl)), n.dr⟩) fun e w'' => e = .returned v ∧ ∃ m : Gr, w'' = Wov w ⟨a ++ (b ++ (c ++ m.bl)), m.dr⟩ :=
  (h _).mono fun _ _ ⟨he, q, hq⟩ => ⟨he, ⟨n.bl ++ q.bl, q.dr⟩, by rw [hq, Wov_Wov]; simp only [Array.append_assoc]⟩

theorem Pure.at5 {P : Program} {f : FuncId} {args : Array Value} {v : Value} (h : Pure P f args v) (w : World) (a b c d : Array Obj) (n : Gr) :
    Calls P f args (Wov w ⟨a ++ (b ++ (c ++ (d ++ n.bl))), n.dr⟩) fun e w'' => e = .returned v ∧ ∃ m : Gr, w'' = Wov w ⟨a ++ (b ++ (c ++ (d ++ m.bl))), m.dr⟩ :=
  (h _).mono fun _ _ ⟨he, q, hq⟩ => ⟨he, ⟨n.bl ++ q.bl, q.dr⟩, by rw [hq, Wov_Wov]; simp only [Array.append_assoc]⟩

theorem Pure.at6 {P : Program} {f : FuncId} {args : Array Value} {v : Value} (h : Pure P f args v) (w : World) (a b c d g : Array Obj) (n : Gr) :
    Calls P f args (Wov w ⟨a ++ (b ++ (c ++ (d ++ (g ++ n.bl)))), n.dr⟩) fun e w'' => e = .returned v ∧ ∃ m : Gr, w'' = Wov w ⟨a ++ (b ++ (c ++ (d ++ (g ++ m.bl)))), m.dr⟩ :=
  (h _).mono fun _ _ ⟨he, q, hq⟩ => ⟨he, ⟨n.bl ++ q.bl, q.dr⟩, by rw [hq, Wov_Wov]; simp only [Array.append_assoc]⟩

theorem Pure.of_drewN {P : Program} {f : FuncId} {args : Array Value} {v : Value} (h : ∀ w, Calls P f args w fun e w' => e = .returned v ∧ ∃ m, w' = w.drewN m) : Pure P f args v :=
  fun w => (h w).mono fun _ _ ⟨he, m, hm⟩ => ⟨he, ⟨#[], w.drawn + m⟩, by rw [hm]; simp [Wov, World.drewN]⟩
theorem Pure.of_same {P : Program} {f : FuncId} {args : Array Value} {v : Value} (h : ∀ w, Calls P f args w fun e w' => e = .returned v ∧ w = w') : Pure P f args v :=
  fun w => (h w).mono fun _ _ ⟨he, hm⟩ => ⟨he, ⟨#[], w.drawn⟩, by rw [← hm, Wov_self]⟩

theorem gives_end {w w' : World} {v v' : Value} (he : v' = v) (h : Below w.heap.size w w') : Gives w v (.returned v') w' := ⟨by rw [he], Wov_of_below h⟩
theorem gives_int {w w' : World} {k : IntKind} {a b : Int} (he : a = b) (h : Below w.heap.size w w') : Gives w (.int k b) (.returned (.int k a)) w' := gives_end (by rw [he]) h
theorem gives_bool {w w' : World} {a b : Bool} (he : a = b) (h : Below w.heap.size w w') : Gives w (.bool b) (.returned (.bool a)) w' := gives_end (by rw [he]) h

/-- The end of a walk: the world at hand has grown out of the first one. -/
theorem Wov_end {w w' : World} {e : Ending} {v : Value} (he : e = .returned v) (h : Below w.heap.size w w') : e = .returned v ∧ ∃ p, w' = Wov w p := ⟨he, Wov_of_below h⟩

theorem below_wov {B : Nat} {a w : World} (h : Below B a w) (hB : B ≤ w.heap.size) (p : Gr) : Below B a (Wov w p) :=
  h.trans ((below_Wov w p).mono hB)
theorem below_drewN {B : Nat} {a w : World} (h : Below B a w) (n : Nat) : Below B a (w.drewN n) := ⟨h.os, h.tape, h.output, h.size, h.block⟩

/-- A region that draws its order, whose operations read, and whose callees leave a world that has grown. -/
theorem wp_region_wov {P : Program} {id : Nat} {Q : Exit → Act → World → Prop} {a : Act} {w : World} {l : List Oper} (hm : P.follows .mixedOrders = true) (hB : Region.lexB .any l.toArray = true)
    (h : wpQuiet P l.toArray (fun w' => ∃ n, w' = Wov w n) (fun a' => ∀ w', (∃ n, w' = Wov w n) → Q .normal a' w') l a) : (Code.region id l.toArray true).wp P Q a w :=
  wp_region_quiet (C := fun w' => ∃ n, w' = Wov w n) hm hB ⟨⟨#[], w.drawn + 1⟩, by simp [Wov]⟩ (by simpa using h)

/-- From here on the world is known by some facts alone. -/
theorem wp_world {P : Program} {c : Code} {Q : Exit → Act → World → Prop} {a : Act} {W0 : World} (F : World → Prop) (hF : F W0) (h : ∀ W, F W → Code.wp P c Q a W) : Code.wp P c Q a W0 := h _ hF

theorem ret2 {k l : IntKind} {a b c d : Int} (h : a = b) (g : c = d) : Ending.returned (.tuple #[.int k a, .int l c]) = .returned (.tuple #[.int k b, .int l d]) := by rw [h, g]
theorem ret_bool {a b : Bool} (h : a = b) : Ending.returned (.bool a) = .returned (.bool b) := by rw [h]
theorem ret_int {k : IntKind} {a b : Int} (h : a = b) : Ending.returned (.int k a) = .returned (.int k b) := by rw [h]

#print axioms wp_region_wov
end Go.Proofs.YtccbhblklhmcpaaGreatDoor
