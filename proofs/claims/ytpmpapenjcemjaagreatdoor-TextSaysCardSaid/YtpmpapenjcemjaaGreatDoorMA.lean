/- Plain laws of whole numbers: quotients rounded down beside those cut off. No condition. Small laws for all walks of this seat: worlds that have grown ('ov'), calls that leave such a world, regions that draw their order and hold such calls. No condition. Contracts of the small functions of package rat: sizes, quotients rounded down, the greatest common divisor. No condition but that numbers are of their kinds. Contracts of packages num and bound. No condition but that numbers are of their kind. Contracts of bound.Value, Add, Not, Keeps. No condition but that numbers are of their kind. Contracts of rat.product (two words), and of the comparisons of package cmp. No condition but that numbers are of their kind. Contracts of cmp.Compare, rat.first, rat.compare, rat.checked, rat.Cmp. No condition but that numbers are of their kind. Contracts of rat.low and rat.Of: the fraction in lowest terms, if it may be. No condition but that numbers are of their kind. The walk of rat.sum. No condition but that numbers are of their kind, and what its premises say of the numbers between. Plain laws of the sum of two fractions in lowest terms. No condition. Contracts of rat.sum, rat.Add and rat.Mid. No condition but that numbers are of their kind. Contracts of rat.Add, Mid, Keeps, Floor. No condition but that numbers are of their kind. Contract of rat.Keeps. No condition but that numbers are of their kind. Contracts of the document's own functions on numbers and bounds (rallentandoref01, 02). No condition but that numbers are of their kind. -/
import Derived.WalkKit
import Derived.Test.YtpmpapenjcemjaaGreatDoorProg
import Derived.BigQuiet
import Derived.RegionTactic
import Derived.Lib.Hide
import Derived.IntWalk
import Derived.LoopTactic
import Derived.Outline
import Derived.Handy
import Derived.Shelf.Bits.Mul64
namespace Go.Proofs.YtpmpapenjcemjaaGreatDoor
open Go Go.RowKit

theorem tdiv_neg (n d : Int) (hd : 0 < d) (h : n.tmod d < 0) : n / d = n.tdiv d - 1 ∧ n % d = n.tmod d + d := by
  have e := Int.mul_tdiv_add_tmod n d
  have l : -d < n.tmod d := by
    exact Int.lt_tmod_of_pos n hd
  have e2 : n = (n.tmod d + d) + d * (n.tdiv d - 1) := by rw [Int.mul_sub]; omega
  constructor
  · rw [e2, Int.add_mul_ediv_left _ _ (by omega : d ≠ 0), Int.ediv_eq_zero_of_lt (by omega) (by omega), ← e2]; omega
  · rw [e2, Int.add_mul_emod_self_left, Int.emod_eq_of_lt (by omega) (by omega), ← e2]
theorem tdiv_pos (n d : Int) (hd : 0 < d) (h : 0 ≤ n.tmod d) : n / d = n.tdiv d ∧ n % d = n.tmod d := by
  have e := Int.mul_tdiv_add_tmod n d
  have l : n.tmod d < d := Int.tmod_lt_of_pos n hd
  have e2 : n = n.tmod d + d * n.tdiv d := by omega
  constructor
  · conv => lhs; rw [e2]
    rw [Int.add_mul_ediv_left _ _ (by omega : d ≠ 0), Int.ediv_eq_zero_of_lt (by omega) (by omega)]; omega
  · conv => lhs; rw [e2]
    rw [Int.add_mul_emod_self_left, Int.emod_eq_of_lt (by omega) (by omega)]

theorem ediv_bd (n d : Int) (hd : 0 < d) (h1 : -9223372036854775808 ≤ n) (h2 : n ≤ 9223372036854775807) : -9223372036854775808 ≤ n / d ∧ n / d ≤ 9223372036854775807 := by
  constructor
  · apply Int.le_ediv_of_mul_le hd
    have : -9223372036854775808 * d ≤ -9223372036854775808 * 1 := by omega
    omega
  · have : n / d ≤ 9223372036854775807 / d := Int.ediv_le_ediv hd h2
    have := Int.ediv_le_self (a := 9223372036854775807) d (by omega)
    omega
theorem emod_bd (n d : Int) (hd : 0 < d) : 0 ≤ n % d ∧ n % d < d := ⟨Int.emod_nonneg _ (by omega), Int.emod_lt_of_pos _ hd⟩

theorem wrap64_id {a : Int} (h1 : -9223372036854775808 ≤ a) (h2 : a ≤ 9223372036854775807) : wrap64 a = a := by
  unfold wrap64; omega
theorem floor_neg (n d : Int) (hd : 0 < d) (hd2 : d ≤ 9223372036854775807) (h1 : -9223372036854775808 ≤ n) (h2 : n ≤ 9223372036854775807) (h : n.tmod d < 0) : wrap64 (n.tdiv d - 1) = n / d ∧ wrap64 (n.tmod d + d) = n % d := by
  have ⟨a, b⟩ := tdiv_neg n d hd h
  have := ediv_bd n d hd h1 h2
  have := emod_bd n d hd
  rw [← a, ← b]
  exact ⟨wrap64_id (by omega) (by omega), wrap64_id (by omega) (by omega)⟩
theorem floor_pos (n d : Int) (hd : 0 < d) (h : 0 ≤ n.tmod d) : n.tdiv d = n / d ∧ n.tmod d = n % d := by
  have ⟨a, b⟩ := tdiv_pos n d hd h
  exact ⟨a.symm, b.symm⟩

theorem tdiv_exact (n : Int) (g : Nat) (hg : 0 < g) (h : (g : Int) ∣ n) : n.tdiv g = n / g := by
  obtain ⟨k, rfl⟩ := h
  rw [Int.mul_tdiv_cancel_left _ (by omega), Int.mul_ediv_cancel_left _ (by omega)]
theorem gcd_dvd_l (n d : Int) : ((Nat.gcd n.natAbs d.natAbs : Nat) : Int) ∣ n := by
  have := Int.natCast_dvd_natCast.2 (Nat.gcd_dvd_left n.natAbs d.natAbs)
  exact Int.dvd_natAbs.1 this
theorem gcd_dvd_r (n d : Int) : ((Nat.gcd n.natAbs d.natAbs : Nat) : Int) ∣ d := by
  have := Int.natCast_dvd_natCast.2 (Nat.gcd_dvd_right n.natAbs d.natAbs)
  exact Int.dvd_natAbs.1 this
theorem ediv_bd' (n : Int) (g : Nat) (hg : 0 < g) (h1 : -9223372036854775808 ≤ n) (h2 : n ≤ 9223372036854775807) : -9223372036854775808 ≤ n / g ∧ n / g ≤ 9223372036854775807 := ediv_bd n g (by omega) h1 h2
theorem ediv_pos' (d : Int) (g : Nat) (hg : 0 < g) (hd : 0 < d) (h : (g : Int) ∣ d) : 0 < d / g := by
  obtain ⟨k, rfl⟩ := h
  rw [Int.mul_ediv_cancel_left _ (by omega)]
  exact Int.pos_of_mul_pos_right (by simpa using hd) (by omega) |> fun h => h

theorem bv_and_one (x : BitVec 64) : (x &&& 1#64).toNat = x.toNat % 2 := by
  rw [BitVec.toNat_and]
  show x.toNat &&& 1 = _
  exact Nat.and_one_is_mod _
theorem i64_and1 (n : Int) : bits .and .i64 n 1 = n % 2 := by
  show IntKind.i64.wrap ((BitVec.ofInt 64 n &&& BitVec.ofInt 64 1).toNat : Int) = _
  have e : (BitVec.ofInt 64 1) = 1#64 := by decide
  rw [e, bv_and_one, BitVec.toNat_ofInt, IntKind.wrap_i64]
  omega
theorem nat_or_one (a : Nat) : (2 * a) ||| 1 = 2 * a + 1 := by
  have := Nat.two_pow_add_eq_or_of_lt (i := 1) (b := 1) (by decide) a
  simpa using this.symm
theorem i64_or1 (c : Int) (h1 : -2305843009213693952 ≤ c) (h2 : c ≤ 2305843009213693952) : bits .or .i64 (c * 2) 1 = 2 * c + 1 := by
  show IntKind.i64.wrap ((BitVec.ofInt 64 (c * 2) ||| BitVec.ofInt 64 1).toNat : Int) = _
  have e : (BitVec.ofInt 64 1).toNat = 1 := by decide
  have f : (BitVec.ofInt 64 (c * 2)).toNat = 2 * ((c % 9223372036854775808).toNat) := by
    rw [BitVec.toNat_ofInt]; omega
  rw [BitVec.toNat_or, e, f, nat_or_one, IntKind.wrap_i64]
  omega
end Go.Proofs.YtpmpapenjcemjaaGreatDoor

namespace Go.Proofs.YtpmpapenjcemjaaGreatDoor
set_option linter.unusedSimpArgs false
set_option linter.unusedVariables false
open Go Go.RowKit

/-- By what a world has grown: new blocks, and the count of draws. -/
structure Gr where
  bl : Array Obj
  dr : Nat
instance : Inhabited Gr := ⟨⟨#[], 0⟩⟩

/-- A world that has grown by some blocks, and drawn: what was there is as it was. -/
def Wov (w : World) (p : Gr) : World := { w with heap := w.heap ++ p.bl, drawn := p.dr }

section
variable (w : World) (p q : Gr)
@[go_sem] theorem Wov_size : (Wov w p).heap.size = w.heap.size + p.bl.size := by simp [Wov]
@[go_sem] theorem Wov_Wov : Wov (Wov w p) q = Wov w ⟨p.bl ++ q.bl, q.dr⟩ := by simp [Wov]
@[go_sem] theorem Wov_drew : (Wov w p).drew = Wov w ⟨p.bl, p.dr + 1⟩ := rfl
@[go_sem] theorem drew_Wov : Wov w.drew p = Wov w p := rfl
@[go_sem] theorem drewN_Wov (n : Nat) : Wov (w.drewN n) p = Wov w p := rfl
@[go_sem] theorem Wov_drewN (n : Nat) : (Wov w p).drewN n = Wov w ⟨p.bl, p.dr + n⟩ := rfl
theorem Wov_heap (k : Nat) (h : k < w.heap.size) : (Wov w p).heap[k]? = w.heap[k]? := by
  simp only [Wov]
  rw [Array.getElem?_append_left h]
@[go_sem] theorem Wov_cell_past (n i : Nat) (hn : n < w.heap.size) : (Wov w p).cell? ⟨n, i, none⟩ = w.cell? ⟨n, i, none⟩ :=
  World.cell?_of_block (w := w) (Wov_heap w p n hn)
@[go_sem] theorem Wov_frozen_past (n i : Nat) (hn : n < w.heap.size) : (Wov w p).frozen? ⟨n, i, none⟩ = w.frozen? ⟨n, i, none⟩ :=
  World.frozen?_of_block (w := w) (Wov_heap w p n hn)
@[go_sem] theorem Wov_cell_some (a : Addr) (h : (w.cell? a).isSome = true) : (Wov w p).cell? a = w.cell? a := by
  obtain ⟨u, hu⟩ := Option.isSome_iff_exists.1 h
  exact World.cell?_of_block (w := w) (Wov_heap w p _ (World.block_lt_of_cell? w a hu))
@[go_sem] theorem Wov_frozen_some (a : Addr) (h : (w.cell? a).isSome = true) : (Wov w p).frozen? a = w.frozen? a := by
  obtain ⟨u, hu⟩ := Option.isSome_iff_exists.1 h
  exact World.frozen?_of_block (w := w) (Wov_heap w p _ (World.block_lt_of_cell? w a hu))
@[go_sem] theorem setCell_cell_self (a : Addr) (v : Value) : (w.setCell a v).cell? a = (w.cell? a).map (fun _ => v) := by
  cases h : w.cell? a with
  | some u => exact World.cell?_setCell_same _ _ _ h
  | none =>
    simp only [Option.map_none]
    simp only [World.cell?, World.setCell, Array.getElem?_modify, if_pos] at h ⊢
    cases hb : w.heap[a.block]? with
    | none => simp
    | some o =>
      rw [hb] at h
      cases o <;> simp_all
@[go_sem] theorem alloc_cell_some (a : Addr) (o : Obj) (h : (w.cell? a).isSome = true) : (w.alloc o).cell? a = w.cell? a := by
  obtain ⟨u, hu⟩ := Option.isSome_iff_exists.1 h
  exact World.cell?_alloc_lt _ _ _ (World.block_lt_of_cell? w a hu)
@[go_sem] theorem alloc_frozen_some (a : Addr) (o : Obj) (h : (w.cell? a).isSome = true) : (w.alloc o).frozen? a = w.frozen? a := by
  obtain ⟨u, hu⟩ := Option.isSome_iff_exists.1 h
  exact World.frozen?_alloc_old _ _ _ (by have := World.block_lt_of_cell? w a hu; omega)
end

theorem Wov_self (w : World) : Wov w ⟨#[], w.drawn⟩ = w := by cases w; simp [Wov]
theorem Wov_of_drewN (w : World) (n : Nat) : ∃ p, w.drewN n = Wov w p := ⟨⟨#[], w.drawn + n⟩, by simp [Wov, World.drewN]⟩
theorem below_Wov (w : World) (p : Gr) : Below w.heap.size w (Wov w p) :=
  ⟨rfl, rfl, rfl, by simp [Wov], fun k hk => Wov_heap w p k hk⟩
theorem Wov_of_below {w w' : World} (h : Below w.heap.size w w') : ∃ p, w' = Wov w p := by
  refine ⟨⟨w'.heap.extract w.heap.size w'.heap.size, w'.drawn⟩, ?_⟩
  have hh : w'.heap = w.heap ++ w'.heap.extract w.heap.size w'.heap.size := by
    apply Array.ext_getElem?
    intro i
    by_cases hi : i < w.heap.size
    · rw [Array.getElem?_append_left hi]; exact h.block i hi
    · rw [Array.getElem?_append_right (by omega), Array.getElem?_extract]
      have := h.size
      by_cases h2 : i < w'.heap.size
      · rw [if_pos (by omega)]; congr 1; omega
      · rw [if_neg (by omega)]; exact Array.getElem?_eq_none (by omega)
  cases w'; cases w
  simp only [Wov] at *
  have h1 := h.os; have h2 := h.tape; have h3 := h.output
  simp only at h1 h2 h3 hh
  subst h1; subst h2; subst h3
  rw [World.mk.injEq]
  exact ⟨hh, rfl, rfl, rfl, rfl⟩

/-- Behind a call: it hands back a value and leaves a world that has grown. -/
def Gives (w : World) (v : Value) (e : Ending) (w' : World) : Prop := e = .returned v ∧ ∃ p, w' = Wov w p
/-- A call that hands back a value and leaves a world that has grown. -/
def Pure (P : Program) (f : FuncId) (args : Array Value) (v : Value) : Prop := ∀ w, Calls P f args w (Gives w v)

theorem Pure.at {P : Program} {f : FuncId} {args : Array Value} {v : Value} (h : Pure P f args v) (w : World) (p : Gr) :
    Calls P f args (Wov w p) fun e w'' => e = .returned v ∧ ∃ q, w'' = Wov w q :=
  (h (Wov w p)).mono fun _ _ ⟨he, q, hq⟩ => ⟨he, ⟨p.bl ++ q.bl, q.dr⟩, by rw [hq, Wov_Wov]⟩

theorem Pure.at2 {P : Program} {f : FuncId} {args : Array Value} {v : Value} (h : Pure P f args v) (w : World) (a : Array Obj) (n : Gr) :
    Calls P f args (Wov w ⟨a ++ n.bl, n.dr⟩) fun e w'' => e = .returned v ∧ ∃ m : Gr, w'' = Wov w ⟨a ++ m.bl, m.dr⟩ :=
  (h _).mono fun _ _ ⟨he, q, hq⟩ => ⟨he, ⟨n.bl ++ q.bl, q.dr⟩, by rw [hq, Wov_Wov]; simp only [Array.append_assoc]⟩

theorem Pure.at3 {P : Program} {f : FuncId} {args : Array Value} {v : Value} (h : Pure P f args v) (w : World) (a b : Array Obj) (n : Gr) :
    Calls P f args (Wov w ⟨a ++ (b ++ n.bl), n.dr⟩) fun e w'' => e = .returned v ∧ ∃ m : Gr, w'' = Wov w ⟨a ++ (b ++ m.bl), m.dr⟩ :=
  (h _).mono fun _ _ ⟨he, q, hq⟩ => ⟨he, ⟨n.bl ++ q.bl, q.dr⟩, by rw [hq, Wov_Wov]; simp only [Array.append_assoc]⟩

theorem Pure.at4 {P : Program} {f : FuncId} {args : Array Value} {v : Value} (h : Pure P f args v) (w : World) (a b c : Array Obj) (n : Gr) :
    Calls P f args (Wov w ⟨a ++ (b ++ (c ++ n.bl)), n.dr⟩) fun e w'' => e = .returned v ∧ ∃ m : Gr, w'' = Wov w ⟨a ++ (b ++ (c ++ m.bl)), m.dr⟩ :=
  (h _).mono fun _ _ ⟨he, q, hq⟩ => ⟨he, ⟨n.bl ++ q.bl, q.dr⟩, by rw [hq, Wov_Wov]; simp only [Array.append_assoc]⟩

theorem Pure.at5 {P : Program} {f : FuncId} {args : Array Value} {v : Value} (h : Pure P f args v) (w : World) (a b c d : Array Obj) (n : Gr) :
    Calls P f args (Wov w ⟨a ++ (b ++ (c ++ (d ++ n.bl))), n.dr⟩) fun e w'' => e = .returned v ∧ ∃ m : Gr, w'' = Wov w ⟨a ++ (b ++ (c ++ (d ++ m.bl))), m.dr⟩ :=
  (h _).mono fun _ _ ⟨he, q, hq⟩ => ⟨he, ⟨n.bl ++ q.bl, q.dr⟩, by rw [hq, Wov_Wov]; simp only [Array.append_assoc]⟩

theorem Pure.at6 {P : Program} {f : FuncId} {args : Array Value} {v : Value} (h : Pure P f args v) (w : World) (a b c d g : Array Obj) (n : Gr) :
    Calls P f args (Wov w ⟨a ++ (b ++ (c ++ (d ++ (g ++ n.bl)))), n.dr⟩) fun e w'' => e = .returned v ∧ ∃ m : Gr, w'' = Wov w ⟨a ++ (b ++ (c ++ (d ++ (g ++ m.bl)))), m.dr⟩ :=
  (h _).mono fun _ _ ⟨he, q, hq⟩ => ⟨he, ⟨n.bl ++ q.bl, q.dr⟩, by rw [hq, Wov_Wov]; simp only [Array.append_assoc]⟩

theorem Pure.of_drewN {P : Program} {f : FuncId} {args : Array Value} {v : Value} (h : ∀ w, Calls P f args w fun e w' => e = .returned v ∧ ∃ m, w' = w.drewN m) : Pure P f args v :=
  fun w => (h w).mono fun _ _ ⟨he, m, hm⟩ => ⟨he, ⟨#[], w.drawn + m⟩, by rw [hm]; simp [Wov, World.drewN]⟩
theorem Pure.of_same {P : Program} {f : FuncId} {args : Array Value} {v : Value} (h : ∀ w, Calls P f args w fun e w' => e = .returned v ∧ w = w') : Pure P f args v :=
  fun w => (h w).mono fun _ _ ⟨he, hm⟩ => ⟨he, ⟨#[], w.drawn⟩, by rw [← hm, Wov_self]⟩

theorem gives_end {w w' : World} {v v' : Value} (he : v' = v) (h : Below w.heap.size w w') : Gives w v (.returned v') w' := ⟨by rw [he], Wov_of_below h⟩
theorem gives_int {w w' : World} {k : IntKind} {a b : Int} (he : a = b) (h : Below w.heap.size w w') : Gives w (.int k b) (.returned (.int k a)) w' := gives_end (by rw [he]) h
theorem gives_bool {w w' : World} {a b : Bool} (he : a = b) (h : Below w.heap.size w w') : Gives w (.bool b) (.returned (.bool a)) w' := gives_end (by rw [he]) h

/-- The end of a walk: the world at hand has grown out of the first one. -/
theorem Wov_end {w w' : World} {e : Ending} {v : Value} (he : e = .returned v) (h : Below w.heap.size w w') : e = .returned v ∧ ∃ p, w' = Wov w p := ⟨he, Wov_of_below h⟩

theorem below_wov {B : Nat} {a w : World} (h : Below B a w) (hB : B ≤ w.heap.size) (p : Gr) : Below B a (Wov w p) :=
  h.trans ((below_Wov w p).mono hB)
theorem below_drewN {B : Nat} {a w : World} (h : Below B a w) (n : Nat) : Below B a (w.drewN n) := ⟨h.os, h.tape, h.output, h.size, h.block⟩

/-- A region that draws its order, whose operations read, and whose callees leave a world that has grown. -/
theorem wp_region_wov {P : Program} {id : Nat} {Q : Exit → Act → World → Prop} {a : Act} {w : World} {l : List Oper} (hm : P.follows .mixedOrders = true) (hB : Region.lexB .any l.toArray = true)
    (h : wpQuiet P l.toArray (fun w' => ∃ n, w' = Wov w n) (fun a' => ∀ w', (∃ n, w' = Wov w n) → Q .normal a' w') l a) : (Code.region id l.toArray true).wp P Q a w :=
  wp_region_quiet (C := fun w' => ∃ n, w' = Wov w n) hm hB ⟨⟨#[], w.drawn + 1⟩, by simp [Wov]⟩ (by simpa using h)

/-- From here on the world is known by some facts alone. -/
theorem wp_world {P : Program} {c : Code} {Q : Exit → Act → World → Prop} {a : Act} {W0 : World} (F : World → Prop) (hF : F W0) (h : ∀ W, F W → Code.wp P c Q a W) : Code.wp P c Q a W0 := h _ hF

theorem ret2 {k l : IntKind} {a b c d : Int} (h : a = b) (g : c = d) : Ending.returned (.tuple #[.int k a, .int l c]) = .returned (.tuple #[.int k b, .int l d]) := by rw [h, g]
theorem ret_bool {a b : Bool} (h : a = b) : Ending.returned (.bool a) = .returned (.bool b) := by rw [h]
theorem ret_int {k : IntKind} {a b : Int} (h : a = b) : Ending.returned (.int k a) = .returned (.int k b) := by rw [h]

#print axioms wp_region_wov
end Go.Proofs.YtpmpapenjcemjaaGreatDoor

namespace Go.Proofs.YtpmpapenjcemjaaGreatDoor
set_option linter.unusedSimpArgs false
set_option linter.unusedVariables false
open Go Go.RowKit

def lo64 : Int := -9223372036854775808
def hi64 : Int := 9223372036854775807

set_option maxHeartbeats 400000 in
theorem size_any (n : Int) (w : World) (h1 : -9223372036854775808 ≤ n) (h2 : n ≤ 9223372036854775807) :
    Calls Tryz.prog 82 #[.int .i64 n] w fun e w' => e = .returned (.int .u64 (n.natAbs : Int)) ∧ w = w' := by
  go_enter Tryz.func82, Tryz.ntmps82
  go_wp2
  · go_ret
    refine ⟨ret_int ?_, rfl⟩
    simp only [IntKind.wrap_u64]
    omega
  · go_ret
    refine ⟨ret_int ?_, rfl⟩
    omega

set_option maxHeartbeats 400000 in
theorem floor_any (n d : Int) (w : World) (h1 : -9223372036854775808 ≤ n) (h2 : n ≤ 9223372036854775807) (h3 : 0 < d) (h4 : d ≤ 9223372036854775807) :
    Calls Tryz.prog 126 #[.int .i64 n, .int .i64 d] w fun e w' => e = .returned (.tuple #[.int .i64 (n / d), .int .i64 (n % d)]) ∧ ∃ m, w' = w.drewN m := by
  go_enter Tryz.func126, Tryz.ntmps126
  go_wp2
  go_quiet (fail)
  go_wp2
  · go_ret2
    have hf := floor_neg n d h3 h4 h1 h2 ‹_›
    exact ⟨ret2 hf.1 hf.2, nq, rfl⟩
  · go_ret2
    have hf := floor_pos n d h3 ‹_›
    exact ⟨ret2 hf.1 hf.2, nq, rfl⟩

set_option maxHeartbeats 400000 in
theorem gcd_any (a b : Nat) (w : World) (h1 : a < 18446744073709551616) (h2 : b < 18446744073709551616) :
    Calls Tryz.prog 81 #[.int .u64 a, .int .u64 b] w fun e w' => e = .returned (.int .u64 (Nat.gcd a b : Nat)) ∧ ∃ n, w' = w.drewN n := by
  go_enter Tryz.func81, Tryz.ntmps81
  go_wp2
  go_loopw [0, 1] (fun x y wr => ∃ p q n : Nat, x = .int .u64 p ∧ y = .int .u64 q ∧ Nat.gcd p q = Nat.gcd a b ∧ p < 18446744073709551616 ∧ q < 18446744073709551616 ∧ wr = w.drewN n) (fun _ y _ => (intOf y).toNat)
  case atStart => exact ⟨a, b, 0, rfl, rfl, rfl, h1, h2, rfl⟩
  case round =>
    obtain ⟨p, q, n, rfl, rfl, hg, hp, hq, rfl⟩ := hrel
    have HG := Lib.hid hg
    clear hg
    by_cases h0 : 0 < q
    · have hm : (p : Int) % (q : Int) = ((p % q : Nat) : Int) := by simp
      have hl : p % q < q := Nat.mod_lt _ h0
      go_wp2
      go_quiet (fail)
      go_wp2
      go_roundw
      case rel => exact ⟨q, p % q, _, rfl, by rw [hm], by rw [Nat.gcd_comm, ← Nat.gcd_rec]; exact (Nat.gcd_comm _ _).trans HG.out, hq, by omega, World.drewN_drewN _ _ _⟩
      case measure => simp [intOf]; omega
    · have h0 : q = 0 := by omega
      subst h0
      go_wp2
      go_ret
      exact ⟨ret_int (by have := HG.out; simp at this; rw [this]), n, rfl⟩

/-! ### within, Check -/
def ratV (n d : Int) : Value := .agg #[.int .i64 n, .int .i64 d]
def withinB (n d : Int) : Bool := decide (-2305843009213693952 ≤ n / d ∧ (n / d < 2305843009213693952 ∨ n / d = 2305843009213693952 ∧ n % d = 0))

set_option maxHeartbeats 400000 in
theorem within_any (n d : Int) (h1 : -9223372036854775808 ≤ n) (h2 : n ≤ 9223372036854775807) (h3 : 0 < d) (h4 : d ≤ 9223372036854775807) :
    Pure Tryz.prog 80 #[.agg #[.int .i64 n, .int .i64 d]] (.bool (withinB n d)) := by
  intro w
  go_enter Tryz.func80, Tryz.ntmps80
  go_wp2_with (go_at_call 126; refine (floor_any _ _ _ h1 h2 h3 h4).mono ?_; rintro e w' ⟨rfl, m, rfl⟩)
  all_goals
    go_ret
    refine gives_bool ?_ (by (repeat' (first | (with_reducible assumption) | (with_reducible exact Below.refl _ _) | (with_reducible refine below_wov ?_ ?_ _) | (with_reducible refine below_drewN ?_ _) | (with_reducible refine Below.drew ?_) | (with_reducible refine Below.alloc ?_ ?_ _) | (with_reducible refine Below.setCell ?_ ?_ _) | (with_reducible exact Nat.le_refl _) | omega | (simp only [World.size_alloc, World.size_setCell, World.size_drew, Wov_size, World.heap_drewN]; omega))))
    rw [Bool.eq_iff_iff]
    simp [withinB]
    try omega

def okRat (n d : Int) : Bool := decide (1 ≤ d) && (decide (d ≤ 1048576) && (withinB n d && decide (Nat.gcd n.natAbs d.natAbs = 1)))
def rcode (b : Bool) : Int := if b then 0 else 8

theorem dec_lt_f {a b : Int} (h : b ≤ a) : decide (a < b) = false := by simp; omega
theorem dec_lt_t {a b : Int} (h : a < b) : decide (a < b) = true := by simp; omega
theorem beq_f {a b : Int} (h : a ≠ b) : (a == b) = false := by simp; omega
theorem bne_t {a b : Int} (h : a ≠ b) : (a != b) = true := by simp; omega
theorem bne_f {a b : Int} (h : a = b) : (a != b) = false := by simp; omega

set_option maxHeartbeats 800000 in
theorem ratCheck_any (n d : Int) (h1 : -9223372036854775808 ≤ n) (h2 : n ≤ 9223372036854775807) :
    Pure Tryz.prog 41 #[.agg #[.int .i64 n, .int .i64 d]] (.int .i64 (rcode (okRat n d))) := by
  intro w
  by_cases ha : 1 ≤ d
  · have ga := dec_lt_f ha
    by_cases hb : d ≤ 1048576
    · have gb := dec_lt_f hb
      by_cases hc : withinB n d = true
      · have hd : (d : Int) = (d.natAbs : Int) := by omega
        have HD := Lib.hid hd
        clear hd
        by_cases hg : Nat.gcd n.natAbs d.natAbs = 1
        all_goals
          have HG := Lib.hid hg
          clear hg
          go_enter Tryz.func41, Tryz.ntmps41
          go_wp2
          refine wp_region_wov (by kernel_rfl) (by kernel_rfl) ?_
          repeat (go_big_quiet_step (first
            | (go_at_call 80; exact (within_any n d h1 h2 (by omega) (by omega)).at _ _)
            | (go_at_call 82; (first | exact ((Pure.of_same (fun w => size_any n w h1 h2))).at _ _ | exact ((Pure.of_same (fun w => size_any n w h1 h2))).at2 _ _ _ | exact ((Pure.of_same (fun w => size_any n w h1 h2))).at3 _ _ _ _ | exact ((Pure.of_same (fun w => size_any n w h1 h2))).at4 _ _ _ _ _ | exact ((Pure.of_same (fun w => size_any n w h1 h2))).at5 _ _ _ _ _ _ | exact ((Pure.of_same (fun w => size_any n w h1 h2))).at6 _ _ _ _ _ _ _))
            | (go_at_call 81; rw [HD.out]; (first | exact ((Pure.of_drewN (fun w => gcd_any n.natAbs d.natAbs w (by omega) (by omega)))).at _ _ | exact ((Pure.of_drewN (fun w => gcd_any n.natAbs d.natAbs w (by omega) (by omega)))).at2 _ _ _ | exact ((Pure.of_drewN (fun w => gcd_any n.natAbs d.natAbs w (by omega) (by omega)))).at3 _ _ _ _ | exact ((Pure.of_drewN (fun w => gcd_any n.natAbs d.natAbs w (by omega) (by omega)))).at4 _ _ _ _ _ | exact ((Pure.of_drewN (fun w => gcd_any n.natAbs d.natAbs w (by omega) (by omega)))).at5 _ _ _ _ _ _ | exact ((Pure.of_drewN (fun w => gcd_any n.natAbs d.natAbs w (by omega) (by omega)))).at6 _ _ _ _ _ _ _))))
          refine wpQuiet_nil ?_
          rintro _ ⟨pq, rfl⟩
          go_wp2
          all_goals
            go_ret
            refine gives_int ?_ (by (repeat' (first | (with_reducible assumption) | (with_reducible exact Below.refl _ _) | (with_reducible refine below_wov ?_ ?_ _) | (with_reducible refine below_drewN ?_ _) | (with_reducible refine Below.drew ?_) | (with_reducible refine Below.alloc ?_ ?_ _) | (with_reducible refine Below.setCell ?_ ?_ _) | (with_reducible exact Nat.le_refl _) | omega | (simp only [World.size_alloc, World.size_setCell, World.size_drew, Wov_size, World.heap_drewN]; omega))))
            have hg := HG.out
            first | (simp [rcode, okRat, ha, hb, hc, hg]; done) | (exfalso; simp_all; done) | (exfalso; simp_all; omega)
      · have hc : withinB n d = false := by simpa using hc
        go_enter Tryz.func41, Tryz.ntmps41
        go_wp2
        refine wp_region_wov (by kernel_rfl) (by kernel_rfl) ?_
        repeat (go_big_quiet_step ((go_at_call 80; exact (within_any n d h1 h2 (by omega) (by omega)).at _ _)))
        refine wpQuiet_nil ?_
        rintro _ ⟨pq, rfl⟩
        go_wp2
        go_ret
        exact gives_int (by simp [rcode, okRat, hc]) (by (repeat' (first | (with_reducible assumption) | (with_reducible exact Below.refl _ _) | (with_reducible refine below_wov ?_ ?_ _) | (with_reducible refine below_drewN ?_ _) | (with_reducible refine Below.drew ?_) | (with_reducible refine Below.alloc ?_ ?_ _) | (with_reducible refine Below.setCell ?_ ?_ _) | (with_reducible exact Nat.le_refl _) | omega | (simp only [World.size_alloc, World.size_setCell, World.size_drew, Wov_size, World.heap_drewN]; omega))))
    · have gb : decide (1048576 < d) = true := dec_lt_t (by omega)
      have hb : ¬ d ≤ 1048576 := by omega
      go_enter Tryz.func41, Tryz.ntmps41
      go_wp2
      refine wp_region_wov (by kernel_rfl) (by kernel_rfl) ?_
      repeat (go_big_quiet_step (fail))
      refine wpQuiet_nil ?_
      rintro _ ⟨pq, rfl⟩
      go_wp2
      go_ret
      have hb : ¬ d ≤ 1048576 := by omega
      exact gives_int (by simp [rcode, okRat, hb]) (by (repeat' (first | (with_reducible assumption) | (with_reducible exact Below.refl _ _) | (with_reducible refine below_wov ?_ ?_ _) | (with_reducible refine below_drewN ?_ _) | (with_reducible refine Below.drew ?_) | (with_reducible refine Below.alloc ?_ ?_ _) | (with_reducible refine Below.setCell ?_ ?_ _) | (with_reducible exact Nat.le_refl _) | omega | (simp only [World.size_alloc, World.size_setCell, World.size_drew, Wov_size, World.heap_drewN]; omega))))
  · go_enter Tryz.func41, Tryz.ntmps41
    go_wp2
    refine wp_region_wov (by kernel_rfl) (by kernel_rfl) ?_
    repeat (go_big_quiet_step (fail))
    refine wpQuiet_nil ?_
    rintro _ ⟨pq, rfl⟩
    go_wp2
    go_ret
    have ha : ¬ 1 ≤ d := by omega
    exact gives_int (by simp [rcode, okRat, ha]) (by (repeat' (first | (with_reducible assumption) | (with_reducible exact Below.refl _ _) | (with_reducible refine below_wov ?_ ?_ _) | (with_reducible refine below_drewN ?_ _) | (with_reducible refine Below.drew ?_) | (with_reducible refine Below.alloc ?_ ?_ _) | (with_reducible refine Below.setCell ?_ ?_ _) | (with_reducible exact Nat.le_refl _) | omega | (simp only [World.size_alloc, World.size_setCell, World.size_drew, Wov_size, World.heap_drewN]; omega))))

theorem ratCheck_ok {n d : Int} (h1 : -9223372036854775808 ≤ n) (h2 : n ≤ 9223372036854775807) (h : okRat n d = true) :
    Pure Tryz.prog 41 #[.agg #[.int .i64 n, .int .i64 d]] (.int .i64 0) := by
  have := ratCheck_any n d h1 h2
  rwa [h] at this
theorem ratCheck_bad {n d : Int} (h1 : -9223372036854775808 ≤ n) (h2 : n ≤ 9223372036854775807) (h : okRat n d = false) :
    Pure Tryz.prog 41 #[.agg #[.int .i64 n, .int .i64 d]] (.int .i64 8) := by
  have := ratCheck_any n d h1 h2
  rwa [h] at this
end Go.Proofs.YtpmpapenjcemjaaGreatDoor

namespace Go.Proofs.YtpmpapenjcemjaaGreatDoor
set_option linter.unusedSimpArgs false
set_option linter.unusedVariables false
open Go Go.RowKit

def okN (n : Int) : Bool := decide (-2305843009213693952 ≤ n) && decide (n ≤ 2305843009213693952)
def ncode (b : Bool) : Int := if b then 0 else 10

set_option maxHeartbeats 400000 in
theorem numCheck_any (n : Int) (w : World) (h1 : -9223372036854775808 ≤ n) (h2 : n ≤ 9223372036854775807) :
    Calls Tryz.prog 171 #[.int .i64 n] w fun e w' => e = .returned (.int .i64 (ncode (okN n))) ∧ w = w' := by
  by_cases ha : n < -2305843009213693952
  · go_enter Tryz.func171, Tryz.ntmps171
    go_wp2
    go_ret
    exact ⟨ret_int (by have : ¬ (-2305843009213693952 ≤ n) := by omega
                       simp [ncode, okN, this]), rfl⟩
  · go_enter Tryz.func171, Tryz.ntmps171
    go_wp2
    all_goals
      go_ret
      refine ⟨ret_int ?_, rfl⟩
      have : -2305843009213693952 ≤ n := by omega
      first
        | (have h3 : n ≤ 2305843009213693952 := by omega
           simp [ncode, okN, this, h3]; done)
        | (have h3 : ¬ n ≤ 2305843009213693952 := by omega
           simp [ncode, okN, this, h3]; done)

@[go_sem] theorem run_lim0 (c : Int) (s : Bool) (w : World) : (Instr.field 247 (.agg #[.int .i64 c, .bool s]) 0).run Tryz.prog w = .ok (.int .i64 c) w := by kernel_rfl
@[go_sem] theorem run_lim1 (c : Int) (s : Bool) (w : World) : (Instr.field 247 (.agg #[.int .i64 c, .bool s]) 1).run Tryz.prog w = .ok (.bool s) w := by kernel_rfl
def limV (c : Int) (s : Bool) : Value := .agg #[.int .i64 c, .bool s]
def bnum (b : Int) : Int := b / 2
def bstr (b : Int) : Bool := decide (b % 2 = 0)

set_option maxHeartbeats 400000 in
theorem boundOf_any (b : Int) (h1 : -9223372036854775808 ≤ b) (h2 : b ≤ 9223372036854775807) :
    Pure Tryz.prog 172 #[.int .i64 b] (.agg #[.int .i64 (bnum b), .bool (bstr b)]) := by
  intro w
  go_enter Tryz.func172, Tryz.ntmps172
  go_wp2
  go_returns
  exact gives_end (by simp [bnum, bstr, i64_and1]; rw [Bool.eq_iff_iff]; simp) (by (repeat' (first | (with_reducible assumption) | (with_reducible exact Below.refl _ _) | (with_reducible refine below_wov ?_ ?_ _) | (with_reducible refine below_drewN ?_ _) | (with_reducible refine Below.drew ?_) | (with_reducible refine Below.alloc ?_ ?_ _) | (with_reducible refine Below.setCell ?_ ?_ _) | (with_reducible exact Nat.le_refl _) | omega | (simp only [World.size_alloc, World.size_setCell, World.size_drew, Wov_size, World.heap_drewN]; omega))))

def mkB (c : Int) (s : Bool) : Int := 2 * c + (if s then 0 else 1)

set_option maxHeartbeats 400000 in
theorem told_any (c : Int) (s : Bool) (h1 : -2305843009213693952 ≤ c) (h2 : c ≤ 2305843009213693952) :
    Pure Tryz.prog 211 #[.agg #[.int .i64 c, .bool s]] (.int .i64 (mkB c s)) := by
  intro w
  cases s
  · go_enter Tryz.func211, Tryz.ntmps211
    go_wp2
    go_ret
    exact gives_int (by rw [i64_or1 c h1 h2]; simp [mkB]) (by (repeat' (first | (with_reducible assumption) | (with_reducible exact Below.refl _ _) | (with_reducible refine below_wov ?_ ?_ _) | (with_reducible refine below_drewN ?_ _) | (with_reducible refine Below.drew ?_) | (with_reducible refine Below.alloc ?_ ?_ _) | (with_reducible refine Below.setCell ?_ ?_ _) | (with_reducible exact Nat.le_refl _) | omega | (simp only [World.size_alloc, World.size_setCell, World.size_drew, Wov_size, World.heap_drewN]; omega))))
  · go_enter Tryz.func211, Tryz.ntmps211
    go_wp2
    go_ret
    exact gives_int (by simp [mkB]; omega) (by (repeat' (first | (with_reducible assumption) | (with_reducible exact Below.refl _ _) | (with_reducible refine below_wov ?_ ?_ _) | (with_reducible refine below_drewN ?_ _) | (with_reducible refine Below.drew ?_) | (with_reducible refine Below.alloc ?_ ?_ _) | (with_reducible refine Below.setCell ?_ ?_ _) | (with_reducible exact Nat.le_refl _) | omega | (simp only [World.size_alloc, World.size_setCell, World.size_drew, Wov_size, World.heap_drewN]; omega))))

/-- A number's bound, or the error. -/
def madeR (c : Int) (s : Bool) : Int × Int := if okN c then (mkB c s, 0) else (0, 10)
def pair2 (r : Int × Int) : Value := .tuple #[.int .i64 r.1, .int .i64 r.2]
theorem gives_pair {w w' : World} {a b : Int} {r : Int × Int} (he : r = (a, b)) (h : Below w.heap.size w w') : Gives w (pair2 r) (.returned (.tuple #[.int .i64 a, .int .i64 b])) w' := gives_end (by rw [he]; rfl) h

theorem okN_bd {c : Int} (h : okN c = true) : -2305843009213693952 ≤ c ∧ c ≤ 2305843009213693952 := by simpa [okN] using h

theorem numCheck_ok {n : Int} (w : World) (h : okN n = true) :
    Calls Tryz.prog 171 #[.int .i64 n] w fun e w' => e = .returned (.int .i64 0) ∧ w = w' := by
  have hb := okN_bd h
  have := numCheck_any n w (by omega) (by omega)
  rwa [h] at this
theorem numCheck_bad {n : Int} (w : World) (h1 : -9223372036854775808 ≤ n) (h2 : n ≤ 9223372036854775807) (h : okN n = false) :
    Calls Tryz.prog 171 #[.int .i64 n] w fun e w' => e = .returned (.int .i64 10) ∧ w = w' := by
  have := numCheck_any n w h1 h2
  rwa [h] at this

set_option maxHeartbeats 400000 in
theorem made_any (c : Int) (s : Bool) (h1 : -9223372036854775808 ≤ c) (h2 : c ≤ 9223372036854775807) :
    Pure Tryz.prog 196 #[.agg #[.int .i64 c, .bool s]] (pair2 (madeR c s)) := by
  intro w
  cases hk : okN c
  · have C := fun w => numCheck_bad w h1 h2 hk
    have R : Hid (madeR c s = (0, 10)) := by show _ = _; rw [madeR, hk]; rfl
    have HC := Lib.hid C
    clear hk C
    go_enter Tryz.func196, Tryz.ntmps196
    go_wp2_with (go_at_call 171; refine (HC.out _).mono ?_; rintro e w' ⟨rfl, rfl⟩)
    go_ret2
    exact gives_pair R.out (by (repeat' (first | (with_reducible assumption) | (with_reducible exact Below.refl _ _) | (with_reducible refine below_wov ?_ ?_ _) | (with_reducible refine below_drewN ?_ _) | (with_reducible refine Below.drew ?_) | (with_reducible refine Below.alloc ?_ ?_ _) | (with_reducible refine Below.setCell ?_ ?_ _) | (with_reducible exact Nat.le_refl _) | omega | (simp only [World.size_alloc, World.size_setCell, World.size_drew, Wov_size, World.heap_drewN]; omega))))
  · have hb := okN_bd hk
    have C := fun w => numCheck_ok w hk
    have T := told_any c s hb.1 hb.2
    have R : Hid (madeR c s = (mkB c s, 0)) := by show _ = _; rw [madeR, hk]; rfl
    have HC := Lib.hid C
    clear hk hb C
    go_enter Tryz.func196, Tryz.ntmps196
    go_wp2_with (first
      | (go_at_call 171; refine (HC.out _).mono ?_; rintro e w' ⟨rfl, rfl⟩)
      | (go_at_call 211; refine (T _).mono ?_; rintro e w' ⟨rfl, p, rfl⟩))
    go_ret2
    exact gives_pair R.out (by (repeat' (first | (with_reducible assumption) | (with_reducible exact Below.refl _ _) | (with_reducible refine below_wov ?_ ?_ _) | (with_reducible refine below_drewN ?_ _) | (with_reducible refine Below.drew ?_) | (with_reducible refine Below.alloc ?_ ?_ _) | (with_reducible refine Below.setCell ?_ ?_ _) | (with_reducible exact Nat.le_refl _) | omega | (simp only [World.size_alloc, World.size_setCell, World.size_drew, Wov_size, World.heap_drewN]; omega))))

set_option maxHeartbeats 400000 in
theorem most_any (c : Int) (h1 : -9223372036854775808 ≤ c) (h2 : c ≤ 9223372036854775807) :
    Pure Tryz.prog 213 #[.int .i64 c] (pair2 (madeR c false)) := by
  intro w
  have C := made_any c false h1 h2
  obtain ⟨⟨x, y⟩, hr⟩ : ∃ r, r = madeR c false := ⟨_, rfl⟩
  rw [← hr] at C ⊢
  clear hr
  simp only [pair2] at C
  go_enter Tryz.func213, Tryz.ntmps213
  go_wp2_with (go_at_call 196; refine (C _).mono ?_; rintro e w' ⟨rfl, p, rfl⟩)
  go_ret2
  exact gives_pair rfl (by (repeat' (first | (with_reducible assumption) | (with_reducible exact Below.refl _ _) | (with_reducible refine below_wov ?_ ?_ _) | (with_reducible refine below_drewN ?_ _) | (with_reducible refine Below.drew ?_) | (with_reducible refine Below.alloc ?_ ?_ _) | (with_reducible refine Below.setCell ?_ ?_ _) | (with_reducible exact Nat.le_refl _) | omega | (simp only [World.size_alloc, World.size_setCell, World.size_drew, Wov_size, World.heap_drewN]; omega))))

/-- None: no bound. -/
def noneB : Int := 9223372036854775807
def okB (b : Int) : Bool := decide (b = noneB) || okN (bnum b)

theorem isNone_t {b : Int} (h : b = noneB) : (b == 9223372036854775807) = true := by subst h; rfl
theorem isNone_f {b : Int} (h : b ≠ noneB) : (b == 9223372036854775807) = false := by
  rw [beq_eq_false_iff_ne]; exact h
theorem notNone_t {b : Int} (h : b ≠ noneB) : (b != 9223372036854775807) = true := by
  rw [bne_iff_ne]; exact h
theorem notNone_f {b : Int} (h : b = noneB) : (b != 9223372036854775807) = false := by subst h; rfl
theorem bnum_bd {b : Int} (h1 : -9223372036854775808 ≤ b) (h2 : b ≤ 9223372036854775807) : -9223372036854775808 ≤ bnum b ∧ bnum b ≤ 9223372036854775807 := by unfold bnum; omega

set_option maxRecDepth 10000 in
set_option maxHeartbeats 400000 in
theorem boundCheck_any (b : Int) (h1 : -9223372036854775808 ≤ b) (h2 : b ≤ 9223372036854775807) :
    Pure Tryz.prog 133 #[.int .i64 b] (.int .i64 (rcode (okB b))) := by
  intro w
  by_cases hn : b = noneB
  · have e := notNone_f hn
    have R : Hid (okB b = true) := by show _ = _; simp [okB, hn]
    clear hn
    go_enter Tryz.func133, Tryz.ntmps133
    go_wp2
    go_ret
    exact gives_int (by rw [R.out]; rfl) (by (repeat' (first | (with_reducible assumption) | (with_reducible exact Below.refl _ _) | (with_reducible refine below_wov ?_ ?_ _) | (with_reducible refine below_drewN ?_ _) | (with_reducible refine Below.drew ?_) | (with_reducible refine Below.alloc ?_ ?_ _) | (with_reducible refine Below.setCell ?_ ?_ _) | (with_reducible exact Nat.le_refl _) | omega | (simp only [World.size_alloc, World.size_setCell, World.size_drew, Wov_size, World.heap_drewN]; omega))))
  · have e := notNone_t hn
    have R : Hid (okB b = okN (bnum b)) := by show _ = _; simp [okB, hn]
    have B := boundOf_any b h1 h2
    obtain ⟨c1, c2⟩ := bnum_bd h1 h2
    have HC := Lib.hid (fun w => numCheck_any (bnum b) w c1 c2)
    obtain ⟨c, hc⟩ : ∃ c, c = bnum b := ⟨_, rfl⟩
    rw [← hc] at B c1 c2 HC R
    clear hn hc
    cases hk : okN c
    · have HC2 := Lib.hid (fun w => numCheck_bad w c1 c2 hk)
      have HK := Lib.hid hk
      clear hk HC
      go_enter Tryz.func133, Tryz.ntmps133
      go_wp2_with (first
        | (go_at_call 172; refine (B _).mono ?_; rintro e w' ⟨rfl, p, rfl⟩)
        | (go_at_call 171; refine (HC2.out _).mono ?_; rintro e w' ⟨rfl, rfl⟩))
      go_ret
      exact gives_int (by rw [R.out, HK.out]; rfl) (by (repeat' (first | (with_reducible assumption) | (with_reducible exact Below.refl _ _) | (with_reducible refine below_wov ?_ ?_ _) | (with_reducible refine below_drewN ?_ _) | (with_reducible refine Below.drew ?_) | (with_reducible refine Below.alloc ?_ ?_ _) | (with_reducible refine Below.setCell ?_ ?_ _) | (with_reducible exact Nat.le_refl _) | omega | (simp only [World.size_alloc, World.size_setCell, World.size_drew, Wov_size, World.heap_drewN]; omega))))
    · have HC2 := Lib.hid (fun w => numCheck_ok w hk)
      have HK := Lib.hid hk
      clear hk HC
      go_enter Tryz.func133, Tryz.ntmps133
      go_wp2_with (first
        | (go_at_call 172; refine (B _).mono ?_; rintro e w' ⟨rfl, p, rfl⟩)
        | (go_at_call 171; refine (HC2.out _).mono ?_; rintro e w' ⟨rfl, rfl⟩))
      go_ret
      exact gives_int (by rw [R.out, HK.out]; rfl) (by (repeat' (first | (with_reducible assumption) | (with_reducible exact Below.refl _ _) | (with_reducible refine below_wov ?_ ?_ _) | (with_reducible refine below_drewN ?_ _) | (with_reducible refine Below.drew ?_) | (with_reducible refine Below.alloc ?_ ?_ _) | (with_reducible refine Below.setCell ?_ ?_ _) | (with_reducible exact Nat.le_refl _) | omega | (simp only [World.size_alloc, World.size_setCell, World.size_drew, Wov_size, World.heap_drewN]; omega))))
end Go.Proofs.YtpmpapenjcemjaaGreatDoor

namespace Go.Proofs.YtpmpapenjcemjaaGreatDoor
set_option linter.unusedSimpArgs false
set_option linter.unusedVariables false
open Go Go.RowKit

theorem boundCheck_ok {b : Int} (h1 : -9223372036854775808 ≤ b) (h2 : b ≤ 9223372036854775807) (h : okB b = true) :
    Pure Tryz.prog 133 #[.int .i64 b] (.int .i64 0) := by
  have := boundCheck_any b h1 h2
  rwa [h] at this
theorem boundCheck_bad {b : Int} (h1 : -9223372036854775808 ≤ b) (h2 : b ≤ 9223372036854775807) (h : okB b = false) :
    Pure Tryz.prog 133 #[.int .i64 b] (.int .i64 8) := by
  have := boundCheck_any b h1 h2
  rwa [h] at this

/-- What a value of three numbers or marks ends in. -/
theorem ret3_eq {k l : IntKind} {a b c d : Int} {s t : Bool} (h : a = b) (g : s = t) (i : c = d) : (.tuple #[.int k a, .bool s, .int l c] : Value) = .tuple #[.int k b, .bool t, .int l d] := by rw [h, g, i]

set_option maxRecDepth 10000 in
set_option maxHeartbeats 400000 in
theorem value_bad {b : Int} (h1 : -9223372036854775808 ≤ b) (h2 : b ≤ 9223372036854775807) (h : okB b = false) :
    Pure Tryz.prog 134 #[.int .i64 b] (.tuple #[.int .i64 0, .bool false, .int .i64 8]) := by
  intro w
  have C := boundCheck_bad h1 h2 h
  clear h
  go_enter Tryz.func134, Tryz.ntmps134
  go_wp2_with (go_at_call 133; refine (C _).mono ?_; rintro e w' ⟨rfl, p, rfl⟩)
  go_ret3
  exact gives_end rfl (by (repeat' (first | (with_reducible assumption) | (with_reducible exact Below.refl _ _) | (with_reducible refine below_wov ?_ ?_ _) | (with_reducible refine below_drewN ?_ _) | (with_reducible refine Below.drew ?_) | (with_reducible refine Below.alloc ?_ ?_ _) | (with_reducible refine Below.setCell ?_ ?_ _) | (with_reducible exact Nat.le_refl _) | omega | (simp only [World.size_alloc, World.size_setCell, World.size_drew, Wov_size, World.heap_drewN]; omega))))

set_option maxRecDepth 10000 in
set_option maxHeartbeats 400000 in
theorem value_none :
    Pure Tryz.prog 134 #[.int .i64 9223372036854775807] (.tuple #[.int .i64 0, .bool false, .int .i64 6]) := by
  intro w
  have C := boundCheck_ok (b := 9223372036854775807) (by decide) (by decide) (by decide)
  go_enter Tryz.func134, Tryz.ntmps134
  go_wp2_with (go_at_call 133; refine (C _).mono ?_; rintro e w' ⟨rfl, p, rfl⟩)
  go_ret3
  exact gives_end rfl (by (repeat' (first | (with_reducible assumption) | (with_reducible exact Below.refl _ _) | (with_reducible refine below_wov ?_ ?_ _) | (with_reducible refine below_drewN ?_ _) | (with_reducible refine Below.drew ?_) | (with_reducible refine Below.alloc ?_ ?_ _) | (with_reducible refine Below.setCell ?_ ?_ _) | (with_reducible exact Nat.le_refl _) | omega | (simp only [World.size_alloc, World.size_setCell, World.size_drew, Wov_size, World.heap_drewN]; omega))))

set_option maxRecDepth 10000 in
set_option maxHeartbeats 400000 in
theorem value_ok {b : Int} (h1 : -9223372036854775808 ≤ b) (h2 : b ≤ 9223372036854775807) (h : okB b = true) (hn : b ≠ noneB) :
    Pure Tryz.prog 134 #[.int .i64 b] (.tuple #[.int .i64 (bnum b), .bool (bstr b), .int .i64 0]) := by
  intro w
  have C := boundCheck_ok h1 h2 h
  have e := isNone_f hn
  have B := boundOf_any b h1 h2
  obtain ⟨c, hc⟩ : ∃ c, c = bnum b := ⟨_, rfl⟩
  obtain ⟨s, hs⟩ : ∃ s, s = bstr b := ⟨_, rfl⟩
  rw [← hc, ← hs] at B ⊢
  clear h hn hc hs
  go_enter Tryz.func134, Tryz.ntmps134
  go_wp2_with (first
    | (go_at_call 133; refine (C _).mono ?_; rintro e w' ⟨rfl, p, rfl⟩)
    | (go_at_call 172; refine (B _).mono ?_; rintro e w' ⟨rfl, p2, rfl⟩))
  go_quiet (fail)
  go_wp2
  go_ret3
  exact gives_end rfl (by (repeat' (first | (with_reducible assumption) | (with_reducible exact Below.refl _ _) | (with_reducible refine below_wov ?_ ?_ _) | (with_reducible refine below_drewN ?_ _) | (with_reducible refine Below.drew ?_) | (with_reducible refine Below.alloc ?_ ?_ _) | (with_reducible refine Below.setCell ?_ ?_ _) | (with_reducible exact Nat.le_refl _) | omega | (simp only [World.size_alloc, World.size_setCell, World.size_drew, Wov_size, World.heap_drewN]; omega))))

/-- The sum of two bounds, or the error. -/
def addR (a b : Int) : Int × Int :=
  if okB a && okB b then (if a = noneB ∨ b = noneB then (noneB, 0) else madeR (bnum a + bnum b) (bstr a || bstr b)) else (0, 8)

theorem addR_bad {a b : Int} (h : (okB a && okB b) = false) : addR a b = (0, 8) := by rw [addR, h]; rfl
theorem addR_none {a b : Int} (h1 : okB a = true) (h2 : okB b = true) (h : a = noneB ∨ b = noneB) : addR a b = (noneB, 0) := by rw [addR, h1, h2, if_pos h]; rfl
theorem addR_ok {a b : Int} (h1 : okB a = true) (h2 : okB b = true) (h3 : a ≠ noneB) (h4 : b ≠ noneB) : addR a b = madeR (bnum a + bnum b) (bstr a || bstr b) := by
  simp [addR, h1, h2, h3, h4]
theorem okB_num {b : Int} (h : okB b = true) (hn : b ≠ noneB) : -2305843009213693952 ≤ bnum b ∧ bnum b ≤ 2305843009213693952 := by
  simp [okB, hn] at h; exact okN_bd h

set_option maxRecDepth 10000 in
set_option maxHeartbeats 800000 in
theorem add_any (a b : Int) (h1 : -9223372036854775808 ≤ a) (h2 : a ≤ 9223372036854775807) (h3 : -9223372036854775808 ≤ b) (h4 : b ≤ 9223372036854775807) :
    Pure Tryz.prog 164 #[.int .i64 a, .int .i64 b] (pair2 (addR a b)) := by
  intro w
  cases ha : okB a
  · have C := boundCheck_bad h1 h2 ha
    have R : Hid (addR a b = (0, 8)) := by show _ = _; exact addR_bad (by rw [ha]; rfl)
    clear ha
    go_enter Tryz.func164, Tryz.ntmps164
    go_wp2_with (go_at_call 133; refine (C _).mono ?_; rintro e w' ⟨rfl, p, rfl⟩)
    go_ret2
    exact gives_pair R.out (by (repeat' (first | (with_reducible assumption) | (with_reducible exact Below.refl _ _) | (with_reducible refine below_wov ?_ ?_ _) | (with_reducible refine below_drewN ?_ _) | (with_reducible refine Below.drew ?_) | (with_reducible refine Below.alloc ?_ ?_ _) | (with_reducible refine Below.setCell ?_ ?_ _) | (with_reducible exact Nat.le_refl _) | omega | (simp only [World.size_alloc, World.size_setCell, World.size_drew, Wov_size, World.heap_drewN]; omega))))
  · have CA := boundCheck_ok h1 h2 ha
    cases hb : okB b
    · have CB := boundCheck_bad h3 h4 hb
      have R : Hid (addR a b = (0, 8)) := by show _ = _; exact addR_bad (by rw [ha, hb]; rfl)
      clear ha hb
      go_enter Tryz.func164, Tryz.ntmps164
      go_wp2_with (fail)
      refine (CA _).mono ?_; rintro e w' ⟨rfl, p, rfl⟩
      go_wp2_with (fail)
      refine (CB _).mono ?_; rintro e w' ⟨rfl, p2, rfl⟩
      go_wp2
      go_ret2
      exact gives_pair R.out (by (repeat' (first | (with_reducible assumption) | (with_reducible exact Below.refl _ _) | (with_reducible refine below_wov ?_ ?_ _) | (with_reducible refine below_drewN ?_ _) | (with_reducible refine Below.drew ?_) | (with_reducible refine Below.alloc ?_ ?_ _) | (with_reducible refine Below.setCell ?_ ?_ _) | (with_reducible exact Nat.le_refl _) | omega | (simp only [World.size_alloc, World.size_setCell, World.size_drew, Wov_size, World.heap_drewN]; omega))))
    · have CB := boundCheck_ok h3 h4 hb
      by_cases hna : a = noneB
      · have R : Hid (addR a b = (noneB, 0)) := by show _ = _; exact addR_none ha hb (.inl hna)
        have e := isNone_t hna
        clear ha hb hna
        go_enter Tryz.func164, Tryz.ntmps164
        go_wp2_with (fail)
        refine (CA _).mono ?_; rintro e w' ⟨rfl, p, rfl⟩
        go_wp2_with (fail)
        refine (CB _).mono ?_; rintro e w' ⟨rfl, p2, rfl⟩
        go_wp2
        go_ret2
        exact gives_pair R.out (by (repeat' (first | (with_reducible assumption) | (with_reducible exact Below.refl _ _) | (with_reducible refine below_wov ?_ ?_ _) | (with_reducible refine below_drewN ?_ _) | (with_reducible refine Below.drew ?_) | (with_reducible refine Below.alloc ?_ ?_ _) | (with_reducible refine Below.setCell ?_ ?_ _) | (with_reducible exact Nat.le_refl _) | omega | (simp only [World.size_alloc, World.size_setCell, World.size_drew, Wov_size, World.heap_drewN]; omega))))
      · have e := isNone_f hna
        by_cases hnb : b = noneB
        · have R : Hid (addR a b = (noneB, 0)) := by show _ = _; exact addR_none ha hb (.inr hnb)
          have e2 := isNone_t hnb
          clear ha hb hna hnb
          go_enter Tryz.func164, Tryz.ntmps164
          go_wp2_with (fail)
          refine (CA _).mono ?_; rintro e w' ⟨rfl, p, rfl⟩
          go_wp2_with (fail)
          refine (CB _).mono ?_; rintro e w' ⟨rfl, p2, rfl⟩
          go_wp2
          go_ret2
          exact gives_pair R.out (by (repeat' (first | (with_reducible assumption) | (with_reducible exact Below.refl _ _) | (with_reducible refine below_wov ?_ ?_ _) | (with_reducible refine below_drewN ?_ _) | (with_reducible refine Below.drew ?_) | (with_reducible refine Below.alloc ?_ ?_ _) | (with_reducible refine Below.setCell ?_ ?_ _) | (with_reducible exact Nat.le_refl _) | omega | (simp only [World.size_alloc, World.size_setCell, World.size_drew, Wov_size, World.heap_drewN]; omega))))
        · have e2 := isNone_f hnb
          have na := okB_num ha hna
          have nb := okB_num hb hnb
          have BA := boundOf_any a h1 h2
          have BB := boundOf_any b h3 h4
          obtain ⟨c, hc⟩ : ∃ c, c = bnum a := ⟨_, rfl⟩
          obtain ⟨s, hs⟩ : ∃ s, s = bstr a := ⟨_, rfl⟩
          obtain ⟨d, hd⟩ : ∃ d, d = bnum b := ⟨_, rfl⟩
          obtain ⟨t, ht⟩ : ∃ t, t = bstr b := ⟨_, rfl⟩
          have R : Hid (addR a b = madeR (c + d) (s || t)) := by show _ = _; rw [hc, hs, hd, ht]; exact addR_ok ha hb hna hnb
          rw [← hc, ← hs] at BA
          rw [← hd, ← ht] at BB
          rw [← hc] at na
          rw [← hd] at nb
          obtain ⟨na1, na2⟩ := na
          obtain ⟨nb1, nb2⟩ := nb
          clear ha hb hna hnb hc hs hd ht
          have M := made_any (c + d) (s || t) (by omega) (by omega)
          rw [R.out]
          obtain ⟨⟨x, y⟩, hr⟩ : ∃ r, r = madeR (c + d) (s || t) := ⟨_, rfl⟩
          rw [← hr] at M ⊢
          clear hr R
          simp only [pair2] at M
          cases s
          all_goals
            simp only [Bool.false_or, Bool.true_or] at M
            go_enter Tryz.func164, Tryz.ntmps164
            go_wp2_with (fail)
            refine (CA _).mono ?_; rintro e w' ⟨rfl, p, rfl⟩
            go_wp2_with (fail)
            refine (CB _).mono ?_; rintro e w' ⟨rfl, p2, rfl⟩
            go_wp2_with (fail)
            refine (BA _).mono ?_; rintro e w' ⟨rfl, p3, rfl⟩
            go_wp2_with (fail)
            refine (BB _).mono ?_; rintro e w' ⟨rfl, p4, rfl⟩
            go_wp2_with (fail)
            refine (M _).mono ?_; rintro e w' ⟨rfl, p5, rfl⟩
            go_wp2
            go_ret2
            exact gives_pair rfl (by (repeat' (first | (with_reducible assumption) | (with_reducible exact Below.refl _ _) | (with_reducible refine below_wov ?_ ?_ _) | (with_reducible refine below_drewN ?_ _) | (with_reducible refine Below.drew ?_) | (with_reducible refine Below.alloc ?_ ?_ _) | (with_reducible refine Below.setCell ?_ ?_ _) | (with_reducible exact Nat.le_refl _) | omega | (simp only [World.size_alloc, World.size_setCell, World.size_drew, Wov_size, World.heap_drewN]; omega))))

/-- Not a bound, or the error. -/
def notR (b : Int) : Int × Int := if okB b then (if b = noneB then (0, 6) else madeR (-(bnum b)) (!bstr b)) else (0, 8)

/-- Whether a difference keeps a bound, or the error. -/
def keepsR (d b : Int) : Bool × Int := if okN d then (if okB b then (decide (mkB d false ≤ b), 0) else (false, 8)) else (false, 10)
def bpair (r : Bool × Int) : Value := .tuple #[.bool r.1, .int .i64 r.2]
theorem gives_bpair {w w' : World} {a : Bool} {b : Int} {r : Bool × Int} (he : r = (a, b)) (h : Below w.heap.size w w') : Gives w (bpair r) (.returned (.tuple #[.bool a, .int .i64 b])) w' := gives_end (by rw [he]; rfl) h

end Go.Proofs.YtpmpapenjcemjaaGreatDoor

namespace Go.Proofs
open Go.Shelf
end Go.Proofs
namespace Go.Proofs.YtpmpapenjcemjaaGreatDoor
set_option linter.unusedSimpArgs false
set_option linter.unusedVariables false
open Go Go.RowKit Go.Shelf

def hiP (a b : Int) : Int := a * b / 18446744073709551616
def loP (a b : Int) : Int := a * b % 18446744073709551616

def sub64Entry : Array Value → Sem Value := fun args => do
  let (x, y, b) ← Extern.MathBitsCarry.three "Sub64" args
  pure (Extern.MathBitsCarry.pair ((x + Extern.MathBitsCarry.m64 - y - b) % Extern.MathBitsCarry.m64) (if x < y + b then 1 else 0))

theorem natAbs_mul_le (a b : Int) (h1 : -9223372036854775808 ≤ a) (h2 : a ≤ 9223372036854775807) (h3 : -9223372036854775808 ≤ b) (h4 : b ≤ 9223372036854775807) : a.natAbs * b.natAbs ≤ 85070591730234615865843651857942052864 := by
  have : a.natAbs * b.natAbs ≤ 9223372036854775808 * 9223372036854775808 := Nat.mul_le_mul (by omega) (by omega)
  omega
theorem prod_pos {P h l : Nat} (hP : P = h * 18446744073709551616 + l) (hl : l ≤ 18446744073709551615) (hb : P ≤ 85070591730234615865843651857942052864) :
    (h : Int) = (P : Int) / 18446744073709551616 ∧ (l : Int) = (P : Int) % 18446744073709551616 := by
  omega
theorem prod_neg {P h l L B H : Nat} (hP : P = h * 18446744073709551616 + l) (hl : l ≤ 18446744073709551615) (hb : P ≤ 85070591730234615865843651857942052864) (hL : L ≤ 18446744073709551615)
    (hk : ∃ k : Nat, (L : Int) = k * 18446744073709551616 - l ∧ k ≤ 1 ∧ B = k ∧ (H : Int) = 18446744073709551616 - h - k ∧ (0 < h + k) ∨ (L = 0 ∧ l = 0 ∧ B = 0 ∧ h = 0 ∧ H = 0)) :
    wrap64 H = (-(P : Int)) / 18446744073709551616 ∧ (L : Int) = (-(P : Int)) % 18446744073709551616 := by
  obtain ⟨k, hk⟩ := hk
  unfold wrap64
  rcases hk with ⟨e1, e2, e3, e4, e5⟩ | ⟨e1, e2, e3, e4, e5⟩
  · have : k = 0 ∨ k = 1 := by omega
    rcases this with rfl | rfl <;> omega
  · omega

end Go.Proofs.YtpmpapenjcemjaaGreatDoor

namespace Go.Proofs.YtpmpapenjcemjaaGreatDoor
set_option linter.unusedSimpArgs false
set_option linter.unusedVariables false
open Go Go.RowKit

/-- The sign of a comparison; where the two are the same, c. -/
def sgn3 (a b c : Int) : Int := if a < b then -1 else if b < a then 1 else c

set_option maxHeartbeats 400000 in
theorem cmpInt_any (a b : Int) (w : World) :
    Calls Tryz.prog 137 #[.int .i64 a, .int .i64 b] w fun e w' => e = .returned (.int .i64 (sgn3 a b 0)) ∧ w = w' := by
  go_enter Tryz.func137, Tryz.ntmps137
  go_wp2
  all_goals
    go_ret
    refine ⟨ret_int ?_, rfl⟩
    unfold sgn3
    (repeat split) <;> omega

theorem sgn3_ne {a b : Int} (h : a ≠ b) (c : Int) : sgn3 a b c = sgn3 a b 0 := by unfold sgn3; (repeat split) <;> omega
theorem sgn3_eq (a c : Int) : sgn3 a a c = c := by unfold sgn3; simp

set_option maxHeartbeats 400000 in
theorem first_k1 (a b c : Int) (p1 p2 p3 p4 : Addr) (w : World) (hc : a = b → Calls Tryz.prog 136 #[.pointer (some p1), .pointer (some p2), .pointer (some p3), .pointer (some p4)] w (Gives w (.int .i64 c))) :
    Calls Tryz.prog 135 #[.int .i64 a, .int .i64 b, .func (.func 136) #[] #[.pointer (some p1), .pointer (some p2), .pointer (some p3), .pointer (some p4)]] w (Gives w (.int .i64 (sgn3 a b c))) := by
  by_cases h : a = b
  · have C := hc h
    subst h
    rw [sgn3_eq]
    have e : sgn3 a a 0 = 0 := sgn3_eq a 0
    have H := Lib.hid C
    have M := Lib.hid (cmpInt_any a a)
    rw [e] at M
    clear C hc e
    go_enter Tryz.func135, Tryz.ntmps135
    go_wp2_with (fail)
    refine (M.out _).mono ?_; rintro e w' ⟨rfl, rfl⟩
    go_wp2_with (fail)
    refine H.out.mono ?_; rintro e w' ⟨rfl, p, rfl⟩
    go_wp2
    go_ret
    exact gives_int rfl (by (repeat' (first | (with_reducible assumption) | (with_reducible exact Below.refl _ _) | (with_reducible refine below_wov ?_ ?_ _) | (with_reducible refine below_drewN ?_ _) | (with_reducible refine Below.drew ?_) | (with_reducible refine Below.alloc ?_ ?_ _) | (with_reducible refine Below.setCell ?_ ?_ _) | (with_reducible exact Nat.le_refl _) | omega | (simp only [World.size_alloc, World.size_setCell, World.size_drew, Wov_size, World.heap_drewN]; omega))))
  · rw [sgn3_ne h]
    have e : (sgn3 a b 0 != 0) = true := by rw [bne_iff_ne]; unfold sgn3; (repeat split) <;> omega
    have M := Lib.hid (cmpInt_any a b)
    obtain ⟨s, hs⟩ : ∃ s, s = sgn3 a b 0 := ⟨_, rfl⟩
    rw [← hs] at M e ⊢
    clear hc hs h
    go_enter Tryz.func135, Tryz.ntmps135
    go_wp2_with (fail)
    refine (M.out _).mono ?_; rintro e w' ⟨rfl, rfl⟩
    go_wp2_with (fail)
    go_ret
    exact gives_int rfl (by (repeat' (first | (with_reducible assumption) | (with_reducible exact Below.refl _ _) | (with_reducible refine below_wov ?_ ?_ _) | (with_reducible refine below_drewN ?_ _) | (with_reducible refine Below.drew ?_) | (with_reducible refine Below.alloc ?_ ?_ _) | (with_reducible refine Below.setCell ?_ ?_ _) | (with_reducible exact Nat.le_refl _) | omega | (simp only [World.size_alloc, World.size_setCell, World.size_drew, Wov_size, World.heap_drewN]; omega))))

theorem sgn3_words (X Y : Int) : sgn3 (X / 18446744073709551616) (Y / 18446744073709551616) (sgn3 (X % 18446744073709551616) (Y % 18446744073709551616) 0) = sgn3 X Y 0 := by
  unfold sgn3; (repeat split) <;> omega

def cmpR (n1 d1 n2 d2 : Int) : Int := sgn3 (n1 * d2) (n2 * d1) 0

set_option maxRecDepth 10000 in
set_option maxHeartbeats 800000 in
theorem checked_any (n1 d1 n2 d2 : Int) (b : Nat) (h1 : -9223372036854775808 ≤ n1) (h2 : n1 ≤ 9223372036854775807) (h5 : -9223372036854775808 ≤ n2) (h6 : n2 ≤ 9223372036854775807) (w : World)
    (c0 : w.cell? ⟨b, 0, none⟩ = some (.int .i64 n1)) (c1 : w.cell? ⟨b, 1, none⟩ = some (.int .i64 d1)) (c2 : w.cell? ⟨b, 2, none⟩ = some (.int .i64 n2)) (c3 : w.cell? ⟨b, 3, none⟩ = some (.int .i64 d2)) :
    Calls Tryz.prog 132 #[.slice (some ⟨b, 0, none⟩) 2 2] w (Gives w (.int .i64 (rcode (okRat n1 d1 && okRat n2 d2)))) := by
  cases hk : okRat n1 d1
  · have C := ratCheck_bad h1 h2 hk
    clear hk
    go_enter Tryz.func132, Tryz.ntmps132
    go_wp2
    refine wp_loop_rounds 1 ?_
    rw [rounds_succ]
    go_wp2_with (go_at_call 41; refine (C _).mono ?_; rintro e w' ⟨rfl, p, rfl⟩)
    go_ret
    exact gives_int rfl (by (repeat' (first | (with_reducible assumption) | (with_reducible exact Below.refl _ _) | (with_reducible refine below_wov ?_ ?_ _) | (with_reducible refine below_drewN ?_ _) | (with_reducible refine Below.drew ?_) | (with_reducible refine Below.alloc ?_ ?_ _) | (with_reducible refine Below.setCell ?_ ?_ _) | (with_reducible exact Nat.le_refl _) | omega | (simp only [World.size_alloc, World.size_setCell, World.size_drew, Wov_size, World.heap_drewN]; omega))))
  · have C := ratCheck_ok h1 h2 hk
    cases hk2 : okRat n2 d2
    · have D := ratCheck_bad h5 h6 hk2
      clear hk hk2
      go_enter Tryz.func132, Tryz.ntmps132
      go_wp2
      refine wp_loop_rounds 2 ?_
      rw [rounds_succ]
      go_wp2_with (fail)
      refine (C _).mono ?_; rintro e w' ⟨rfl, p, rfl⟩
      go_wp2_with (fail)
      rw [rounds_succ]
      go_wp2_with (fail)
      refine (D _).mono ?_; rintro e w' ⟨rfl, p2, rfl⟩
      go_wp2
      go_ret
      exact gives_int rfl (by (repeat' (first | (with_reducible assumption) | (with_reducible exact Below.refl _ _) | (with_reducible refine below_wov ?_ ?_ _) | (with_reducible refine below_drewN ?_ _) | (with_reducible refine Below.drew ?_) | (with_reducible refine Below.alloc ?_ ?_ _) | (with_reducible refine Below.setCell ?_ ?_ _) | (with_reducible exact Nat.le_refl _) | omega | (simp only [World.size_alloc, World.size_setCell, World.size_drew, Wov_size, World.heap_drewN]; omega))))
    · have D := ratCheck_ok h5 h6 hk2
      clear hk hk2
      go_enter Tryz.func132, Tryz.ntmps132
      go_wp2
      refine wp_loop_rounds 3 ?_
      rw [rounds_succ]
      go_wp2_with (fail)
      refine (C _).mono ?_; rintro e w' ⟨rfl, p, rfl⟩
      go_wp2_with (fail)
      rw [rounds_succ]
      go_wp2_with (fail)
      refine (D _).mono ?_; rintro e w' ⟨rfl, p2, rfl⟩
      go_wp2_with (fail)
      rw [rounds_succ]
      go_wp2
      go_ret
      exact gives_int rfl (by (repeat' (first | (with_reducible assumption) | (with_reducible exact Below.refl _ _) | (with_reducible refine below_wov ?_ ?_ _) | (with_reducible refine below_drewN ?_ _) | (with_reducible refine Below.drew ?_) | (with_reducible refine Below.alloc ?_ ?_ _) | (with_reducible refine Below.setCell ?_ ?_ _) | (with_reducible exact Nat.le_refl _) | omega | (simp only [World.size_alloc, World.size_setCell, World.size_drew, Wov_size, World.heap_drewN]; omega))))

/-- Comparing two, or the error. -/
def cmpPR (n1 d1 n2 d2 : Int) : Int × Int := if okRat n1 d1 && okRat n2 d2 then (cmpR n1 d1 n2 d2, 0) else (0, 8)

end Go.Proofs.YtpmpapenjcemjaaGreatDoor

namespace Go.Proofs.YtpmpapenjcemjaaGreatDoor
set_option linter.unusedSimpArgs false
set_option linter.unusedVariables false
open Go Go.RowKit

/-- n by d in lowest terms, if it may be: its two numbers, and the error. -/
def lowR (n d : Int) : Int × Int × Int :=
  if okRat (n / (Nat.gcd n.natAbs d.natAbs : Nat)) (d / (Nat.gcd n.natAbs d.natAbs : Nat)) then (n / (Nat.gcd n.natAbs d.natAbs : Nat), d / (Nat.gcd n.natAbs d.natAbs : Nat), 0) else (0, 0, 10)
def rat3 (r : Int × Int × Int) : Value := .tuple #[.agg #[.int .i64 r.1, .int .i64 r.2.1], .int .i64 r.2.2]

theorem okRat_bd {n d : Int} (h : okRat n d = true) : 1 ≤ d ∧ d ≤ 1048576 ∧ withinB n d = true ∧ Nat.gcd n.natAbs d.natAbs = 1 := by
  simp [okRat] at h; exact h

theorem gives_rat {w w' : World} {a b c : Int} {r : Int × Int × Int} (he : r = (a, b, c)) (h : Below w.heap.size w w') : Gives w (rat3 r) (.returned (.tuple #[.agg #[.int .i64 a, .int .i64 b], .int .i64 c])) w' := gives_end (by rw [he]; rfl) h

def ofR (n d : Int) : Int × Int × Int := if d < 1 then (0, 0, 30) else lowR n d

end Go.Proofs.YtpmpapenjcemjaaGreatDoor

namespace Go.Proofs.YtpmpapenjcemjaaGreatDoor
set_option linter.unusedSimpArgs false
set_option linter.unusedVariables false
open Go Go.RowKit

/-- A sum of two words that goes round: as the code asks it. -/
def Goes (h il U t : Int) : Prop := ¬ h = il / 9223372036854775808 ∨ (¬ (U < 0 ↔ t < il) ∧ ¬ U = 0)
theorem goes_2 {h il U t : Int} (h2 : ¬ (U < 0 ↔ t < il)) (h3 : (!decide (U < 0) == decide (t < il)) = true ∧ (U != 0) = true) : Goes h il U t := .inr ⟨h2, by have := h3.2; simpa using this⟩
theorem goes_4 {h il U t : Int} (h1 : ¬ h = il / 9223372036854775808) : Goes h il U t := .inl h1
theorem goes_1 {h il U t : Int} (h1 : h = il / 9223372036854775808) (h2 : U < 0 ↔ t < il) : ¬ Goes h il U t := by
  rintro (h | ⟨h, _⟩)
  · exact h h1
  · exact h h2
theorem goes_3 {h il U t : Int} (h1 : h = il / 9223372036854775808) (h2 : ¬ (U < 0 ↔ t < il)) (h3 : (!decide (U < 0) == decide (t < il)) = false ∨ (U != 0) = false) : ¬ Goes h il U t := by
  rintro (h | ⟨_, h⟩)
  · exact h h1
  · rcases h3 with h3 | h3
    · by_cases a : U < 0 <;> by_cases b : t < il <;> simp_all
    · simp at h3; exact h h3
  
end Go.Proofs.YtpmpapenjcemjaaGreatDoor

namespace Go.Proofs.YtpmpapenjcemjaaGreatDoor
set_option linter.unusedSimpArgs false
set_option linter.unusedVariables false
open Go Go.RowKit

def fits64 (t : Int) : Prop := -9223372036854775808 ≤ t ∧ t ≤ 9223372036854775807
instance (t : Int) : Decidable (fits64 t) := by unfold fits64; exact inferInstance

theorem goes_iff {V U h l il : Int} (hV : -9671406556917033397649408 ≤ V ∧ V ≤ 9671406556917033397649408) (hU : -1048576 ≤ U ∧ U ≤ 1048576) (hs : 0 ≤ V ∧ 0 ≤ U ∨ V ≤ 0 ∧ U ≤ 0)
    (hh : h = V / 18446744073709551616) (hl : l = V % 18446744073709551616) (hil : wrap64 l = il) :
    (Goes h il U (wrap64 (il + U)) → ¬ fits64 (V + U)) ∧ (¬ Goes h il U (wrap64 (il + U)) → fits64 (V + U) ∧ wrap64 (il + U) = V + U) := by
  have e : il = (V + 9223372036854775808) % 18446744073709551616 - 9223372036854775808 := by
    rw [← hil, hl]; unfold wrap64; omega
  by_cases hf : h = il / 9223372036854775808
  · -- V fits
    have hVf : V = il := by omega
    have hb : -9223372036854775808 ≤ il ∧ il ≤ 9223372036854775807 := by omega
    subst hVf
    by_cases hsum : fits64 (V + U)
    · have hw : wrap64 (V + U) = V + U := wrap64_id hsum.1 hsum.2
      refine ⟨fun hg => ?_, fun _ => ⟨hsum, hw⟩⟩
      rcases hg with hg | ⟨hg, hz⟩
      · exact (hg hf).elim
      · rw [hw] at hg
        exact (hg (by omega)).elim
    · refine ⟨fun _ => hsum, fun hg => ?_⟩
      exfalso
      apply hg
      refine .inr ?_
      unfold fits64 at hsum
      rcases hs with ⟨s1, s2⟩ | ⟨s1, s2⟩
      · have hw : wrap64 (V + U) = V + U - 18446744073709551616 := by unfold wrap64; omega
        rw [hw]; omega
      · have hw : wrap64 (V + U) = V + U + 18446744073709551616 := by unfold wrap64; omega
        rw [hw]; omega
  · have hVf : ¬ fits64 V := by
      intro hv
      unfold fits64 at hv
      apply hf
      omega
    refine ⟨fun _ hsum => ?_, fun hg => ?_⟩
    · unfold fits64 at hVf hsum
      omega
    · exact (hg (.inl hf)).elim

/-- T by G in lowest terms, if it may be. -/
def normR (T G : Int) : Int × Int × Int :=
  if fits64 (T / (Nat.gcd T.natAbs G.natAbs : Nat)) ∧ okRat (T / (Nat.gcd T.natAbs G.natAbs : Nat)) (G / (Nat.gcd T.natAbs G.natAbs : Nat)) = true then
    (T / (Nat.gcd T.natAbs G.natAbs : Nat), G / (Nat.gcd T.natAbs G.natAbs : Nat), 0) else (0, 0, 10)

theorem gcd_step (w G p : Int) : Nat.gcd (w * G + p).natAbs G.natAbs = Nat.gcd p.natAbs G.natAbs := by
  have h := Int.gcd_add_mul_right_left G p w
  rw [Int.add_comm] at h
  exact h

theorem div_gcd_co (p G : Int) (hG : 0 < G) : Nat.gcd (p / (Nat.gcd p.natAbs G.natAbs : Nat)).natAbs (G / (Nat.gcd p.natAbs G.natAbs : Nat)).natAbs = 1 := by
  have hg0 : 0 < Nat.gcd p.natAbs G.natAbs := Nat.gcd_pos_of_pos_right _ (by omega)
  have e1 := Int.natAbs_ediv_of_dvd (gcd_dvd_l p G)
  have e2 := Int.natAbs_ediv_of_dvd (gcd_dvd_r p G)
  rw [e1, e2]
  simp only [Int.natAbs_natCast]
  rw [Nat.gcd_div (Nat.gcd_dvd_left _ _) (Nat.gcd_dvd_right _ _), Nat.div_self hg0]

/-- What the code reckons with, beside T = w * G + p. -/
theorem norm_parts {w G p : Int} (hG : 0 < G) (hp0 : 0 ≤ p) (hpG : p < G) {g : Nat} (hg : g = Nat.gcd p.natAbs G.natAbs) {P D : Int} (hP : P = p / g) (hD : D = G / g) :
    0 < g ∧ 0 ≤ P ∧ P < D ∧ 0 < D ∧ D ≤ G ∧ (w * G + p) / (Nat.gcd (w * G + p).natAbs G.natAbs : Nat) = w * D + P ∧ G / (Nat.gcd (w * G + p).natAbs G.natAbs : Nat) = D ∧ Nat.gcd (w * D + P).natAbs D.natAbs = 1 ∧
      p.tdiv g = P ∧ G.tdiv g = D ∧ (g : Int) ≤ G ∧ (w * D + P) / D = w := by
  have hg0 : 0 < g := by rw [hg]; exact Nat.gcd_pos_of_pos_right _ (by omega)
  have hgG : (g : Int) ∣ G := by rw [hg]; exact gcd_dvd_r p G
  have hgp : (g : Int) ∣ p := by rw [hg]; exact gcd_dvd_l p G
  have hco := div_gcd_co p G hG
  rw [← hg, ← hP, ← hD] at hco
  obtain ⟨a, ha⟩ := hgG
  obtain ⟨b, hb⟩ := hgp
  have hgi : (g : Int) ≠ 0 := by omega
  have hDa : D = a := by rw [hD, ha, Int.mul_ediv_cancel_left _ hgi]
  have hPb : P = b := by rw [hP, hb, Int.mul_ediv_cancel_left _ hgi]
  subst hDa; subst hPb
  have hD0 : 0 < D := by
    rw [ha] at hG
    exact Int.pos_of_mul_pos_right hG (by omega)
  have hP0 : 0 ≤ P := by
    rw [hP]; exact Int.ediv_nonneg hp0 (by omega)
  have hPD : P < D := by
    rw [ha, hb] at hpG
    exact Int.lt_of_mul_lt_mul_left hpG (by omega)
  have hDG : D ≤ G := by
    rw [ha]
    have : 1 * D ≤ (g : Int) * D := Int.mul_le_mul_of_nonneg_right (by omega) (by omega)
    omega
  have hgle : (g : Int) ≤ G := Int.le_of_dvd hG ⟨D, ha⟩
  have eT : w * G + p = (g : Int) * (w * D + P) := by
    rw [ha, hb, Int.mul_add]
    congr 1
    rw [← Int.mul_assoc, ← Int.mul_assoc, Int.mul_comm w]
  refine ⟨hg0, hP0, hPD, hD0, hDG, ?_, ?_, ?_, ?_, ?_, hgle, ?_⟩
  · rw [gcd_step, ← hg, eT, Int.mul_ediv_cancel_left _ hgi]
  · rw [gcd_step, ← hg, hD]
  · rw [gcd_step]; exact hco
  · rw [tdiv_exact p g hg0 ⟨P, hb⟩, hP]
  · rw [tdiv_exact G g hg0 ⟨D, ha⟩, hD]
  · rw [Int.add_comm, Int.add_mul_ediv_right _ _ (by omega), Int.ediv_eq_zero_of_lt hP0 hPD]; omega
end Go.Proofs.YtpmpapenjcemjaaGreatDoor

namespace Go.Proofs.YtpmpapenjcemjaaGreatDoor
set_option linter.unusedSimpArgs false
set_option linter.unusedVariables false
open Go Go.RowKit

def sumR (n1 d1 n2 d2 k : Int) : Int × Int × Int := normR (n1 * d2 + n2 * d1) (d1 * d2 * k)

theorem withinB_bd {n d : Int} (h : withinB n d = true) : -2305843009213693952 ≤ n / d ∧ n / d ≤ 2305843009213693952 := by
  simp [withinB] at h; omega

theorem mul_bd {a b M K : Int} (h1 : 0 ≤ a) (h2 : a ≤ M) (h3 : 0 ≤ b) (h4 : b ≤ K) : 0 ≤ a * b ∧ a * b ≤ M * K :=
  ⟨Int.mul_nonneg h1 h3, Int.mul_le_mul h2 h4 h3 (Int.le_trans h1 h2)⟩

theorem lowR_one {t D : Int} (h : Nat.gcd t.natAbs D.natAbs = 1) : lowR t D = if okRat t D then (t, D, 0) else (0, 0, 10) := by
  rw [lowR, h]; simp

theorem withinB_far {w P D : Int} (h : (w * D + P) / D = w) (hw : okN w = false) : withinB (w * D + P) D = false := by
  rw [withinB, h]
  simp [okN] at hw
  simp
  omega

end Go.Proofs.YtpmpapenjcemjaaGreatDoor

namespace Go.Proofs.YtpmpapenjcemjaaGreatDoor
set_option linter.unusedSimpArgs false
set_option linter.unusedVariables false
open Go Go.RowKit

def addPR (n1 d1 n2 d2 k : Int) : Int × Int × Int := if okRat n1 d1 && okRat n2 d2 then sumR n1 d1 n2 d2 k else (0, 0, 8)

/-- A whole number below, whether that is all, and the error. -/
def floorPR (n d : Int) : Int × Bool × Int := if okRat n d then (n / d, decide (n % d = 0), 0) else (0, false, 8)
def trip (r : Int × Bool × Int) : Value := .tuple #[.int .i64 r.1, .bool r.2.1, .int .i64 r.2.2]
theorem gives_trip {w w' : World} {a c : Int} {s : Bool} {r : Int × Bool × Int} (he : r = (a, s, c)) (h : Below w.heap.size w w') : Gives w (trip r) (.returned (.tuple #[.int .i64 a, .bool s, .int .i64 c])) w' := gives_end (by rw [he]; rfl) h

end Go.Proofs.YtpmpapenjcemjaaGreatDoor

namespace Go.Proofs.YtpmpapenjcemjaaGreatDoor
set_option linter.unusedSimpArgs false
set_option linter.unusedVariables false
open Go Go.RowKit

/-- Whether a difference of two that may be keeps a bound that may. -/
def keptB (n1 d1 n2 d2 x : Int) : Bool :=
  decide (x = noneB) || (decide (n1 * d2 - n2 * d1 < bnum x * (d1 * d2)) || (decide (n1 * d2 - n2 * d1 = bnum x * (d1 * d2)) && !bstr x))

theorem mul_lt_iff {W E A B : Int} (hA0 : 0 ≤ A) (hA : A < E) (hB0 : 0 ≤ B) (hB : B < E) : (W * E + A - B < 0 ↔ W < 0 ∨ W = 0 ∧ A < B) ∧ (W * E + A - B = 0 ↔ W = 0 ∧ A = B) := by
  rcases Int.lt_trichotomy W 0 with h | h | h
  · have : W * E ≤ -1 * E := Int.mul_le_mul_of_nonneg_right (by omega) (by omega)
    omega
  · subst h; omega
  · have : 1 * E ≤ W * E := Int.mul_le_mul_of_nonneg_right (by omega) (by omega)
    omega

/-- Whole parts first, then what is left over: as the code and the document ask it. -/
theorem kept_parts {n1 d1 n2 d2 c : Int} (h1 : 0 < d1) (h2 : 0 < d2) :
    (n1 * d2 - n2 * d1 < c * (d1 * d2) ↔ n1 / d1 - n2 / d2 < c ∨ n1 / d1 - n2 / d2 = c ∧ n1 % d1 * d2 < n2 % d2 * d1) ∧
    (n1 * d2 - n2 * d1 = c * (d1 * d2) ↔ n1 / d1 - n2 / d2 = c ∧ n1 % d1 * d2 = n2 % d2 * d1) := by
  have eX := Int.mul_ediv_add_emod n1 d1
  have eY := Int.mul_ediv_add_emod n2 d2
  have hR := emod_bd n1 d1 h1
  have hS := emod_bd n2 d2 h2
  have a0 : 0 ≤ n1 % d1 * d2 := Int.mul_nonneg hR.1 (by omega)
  have a1 : n1 % d1 * d2 < d1 * d2 := Int.mul_lt_mul_of_pos_right hR.2 h2
  have b0 : 0 ≤ n2 % d2 * d1 := Int.mul_nonneg hS.1 (by omega)
  have b1 : n2 % d2 * d1 < d1 * d2 := by rw [Int.mul_comm d1 d2]; exact Int.mul_lt_mul_of_pos_right hS.2 h1
  have key := mul_lt_iff (W := n1 / d1 - n2 / d2 - c) (E := d1 * d2) a0 a1 b0 b1
  have t1 : n1 * d2 = n1 / d1 * (d1 * d2) + n1 % d1 * d2 := by
    conv => lhs; rw [← eX]
    rw [Int.add_mul, Int.mul_comm d1, Int.mul_assoc]
  have t2 : n2 * d1 = n2 / d2 * (d1 * d2) + n2 % d2 * d1 := by
    conv => lhs; rw [← eY]
    rw [Int.add_mul, Int.mul_comm d2 (n2 / d2), Int.mul_assoc, Int.mul_comm d2 d1]
  have t3 : (n1 / d1 - n2 / d2 - c) * (d1 * d2) = n1 / d1 * (d1 * d2) - n2 / d2 * (d1 * d2) - c * (d1 * d2) := by rw [Int.sub_mul, Int.sub_mul]
  rw [t3] at key
  rw [t1, t2]
  generalize n1 % d1 * d2 = A at *
  generalize n2 % d2 * d1 = B at *
  generalize n1 / d1 * (d1 * d2) = U at *
  generalize n2 / d2 * (d1 * d2) = V at *
  generalize c * (d1 * d2) = Z at *
  omega

def keepsPR (n1 d1 n2 d2 x : Int) : Bool × Int := if okRat n1 d1 && okRat n2 d2 && okB x then (keptB n1 d1 n2 d2 x, 0) else (false, 8)

set_option maxHeartbeats 400000 in
theorem k1_any (r d2 s d1 nb na : Int) (b1 b2 b3 b4 : Nat) (w : World) (hA : 0 ≤ r * d2 ∧ r * d2 ≤ 1099511627776) (hB : 0 ≤ s * d1 ∧ s * d1 ≤ 1099511627776)
    (c1 : w.cell? ⟨b1, 0, none⟩ = some (.int .i64 r)) (c2 : w.cell? ⟨b2, 0, none⟩ = some (.int .i64 nb)) (c2' : w.cell? ⟨b2, 1, none⟩ = some (.int .i64 d2)) (c3 : w.cell? ⟨b3, 0, none⟩ = some (.int .i64 s)) (c4 : w.cell? ⟨b4, 0, none⟩ = some (.int .i64 na)) (c4' : w.cell? ⟨b4, 1, none⟩ = some (.int .i64 d1)) :
    Calls Tryz.prog 136 #[.pointer (some ⟨b1, 0, none⟩), .pointer (some ⟨b2, 0, none⟩), .pointer (some ⟨b3, 0, none⟩), .pointer (some ⟨b4, 0, none⟩)] w (Gives w (.int .i64 (sgn3 (r * d2) (s * d1) 0))) := by
  obtain ⟨a1, a2⟩ := hA
  obtain ⟨a3, a4⟩ := hB
  have M := Lib.hid (fun w => cmpInt_any (r * d2) (s * d1) w)
  obtain ⟨A, hA⟩ : ∃ A, r * d2 = A := ⟨_, rfl⟩
  obtain ⟨B, hB⟩ : ∃ B, s * d1 = B := ⟨_, rfl⟩
  rw [hA, hB] at M ⊢
  rw [hA] at a1 a2
  rw [hB] at a3 a4
  go_enter Tryz.func136, Tryz.ntmps136
  go_wp2_with (fail)
  refine (M.out _).mono ?_; rintro e w' ⟨rfl, rfl⟩
  go_wp2
  go_ret
  exact gives_int rfl (by (repeat' (first | (with_reducible assumption) | (with_reducible exact Below.refl _ _) | (with_reducible refine below_wov ?_ ?_ _) | (with_reducible refine below_drewN ?_ _) | (with_reducible refine Below.drew ?_) | (with_reducible refine Below.alloc ?_ ?_ _) | (with_reducible refine Below.setCell ?_ ?_ _) | (with_reducible exact Nat.le_refl _) | omega | (simp only [World.size_alloc, World.size_setCell, World.size_drew, Wov_size, World.heap_drewN]; omega))))

theorem keeps_sign (X Y c A B : Int) : ((X - Y < c ∨ X - Y = c ∧ A < B) ↔ sgn3 (X - Y) c (sgn3 A B 0) < 0) ∧ ((X - Y = c ∧ A = B) ↔ sgn3 (X - Y) c (sgn3 A B 0) = 0) := by
  unfold sgn3
  constructor <;> (repeat split) <;> omega
theorem or_and_dec {p q : Prop} [Decidable p] [Decidable q] {p' q' : Prop} [Decidable p'] [Decidable q'] (s : Bool) (h : p ↔ p') (g : q ↔ q') : (decide p || (decide q && !s)) = (decide p' || (decide q' && !s)) := by
  rw [decide_eq_decide.2 h, decide_eq_decide.2 g]

set_option maxRecDepth 10000 in
set_option maxHeartbeats 2000000 in
theorem ratKeeps_any (n1 d1 n2 d2 x : Int) (h1 : fits64 n1) (h2 : fits64 n2) (h3 : fits64 x) :
    Pure Tryz.prog 87 #[.agg #[.int .i64 n1, .int .i64 d1], .agg #[.int .i64 n2, .int .i64 d2], .int .i64 x] (bpair (keepsPR n1 d1 n2 d2 x)) := by
  intro w
  have K := Lib.hid (fun b w => checked_any n1 d1 n2 d2 b h1.1 h1.2 h2.1 h2.2 w)
  cases hk : okRat n1 d1 && okRat n2 d2
  · have R : Hid (keepsPR n1 d1 n2 d2 x = (false, 8)) := by show _ = _; rw [keepsPR, hk]; rfl
    rw [hk, show rcode false = 8 from rfl] at K
    clear hk h1 h2 h3
    go_enter Tryz.func87, Tryz.ntmps87
    go_wp2_with (fail)
    refine (K.out _ _ ?_ ?_ ?_ ?_).mono ?_
    · simp [go_sem]
    · simp [go_sem]
    · simp [go_sem]
    · simp [go_sem]
    rintro e w' ⟨rfl, p, rfl⟩
    go_wp2
    go_ret2
    exact gives_bpair R.out (by (repeat' (first | (with_reducible assumption) | (with_reducible exact Below.refl _ _) | (with_reducible refine below_wov ?_ ?_ _) | (with_reducible refine below_drewN ?_ _) | (with_reducible refine Below.drew ?_) | (with_reducible refine Below.alloc ?_ ?_ _) | (with_reducible refine Below.setCell ?_ ?_ _) | (with_reducible exact Nat.le_refl _) | omega | (simp only [World.size_alloc, World.size_setCell, World.size_drew, Wov_size, World.heap_drewN]; omega))))
  · rw [hk, show rcode true = 0 from rfl] at K
    cases hx : okB x
    · have R : Hid (keepsPR n1 d1 n2 d2 x = (false, 8)) := by show _ = _; rw [keepsPR, hk, hx]; rfl
      have C := boundCheck_bad h3.1 h3.2 hx
      clear hk hx h1 h2 h3
      go_enter Tryz.func87, Tryz.ntmps87
      go_wp2_with (fail)
      refine (K.out _ _ ?_ ?_ ?_ ?_).mono ?_
      · simp [go_sem]
      · simp [go_sem]
      · simp [go_sem]
      · simp [go_sem]
      rintro e w' ⟨rfl, p, rfl⟩
      go_wp2_with (fail)
      refine (C _).mono ?_; rintro e w' ⟨rfl, p2, rfl⟩
      go_wp2
      go_ret2
      exact gives_bpair R.out (by (repeat' (first | (with_reducible assumption) | (with_reducible exact Below.refl _ _) | (with_reducible refine below_wov ?_ ?_ _) | (with_reducible refine below_drewN ?_ _) | (with_reducible refine Below.drew ?_) | (with_reducible refine Below.alloc ?_ ?_ _) | (with_reducible refine Below.setCell ?_ ?_ _) | (with_reducible exact Nat.le_refl _) | omega | (simp only [World.size_alloc, World.size_setCell, World.size_drew, Wov_size, World.heap_drewN]; omega))))
    · have R0 : keepsPR n1 d1 n2 d2 x = (keptB n1 d1 n2 d2 x, 0) := by rw [keepsPR, hk, hx]; rfl
      have C := boundCheck_ok h3.1 h3.2 hx
      by_cases hn : x = noneB
      · have R : Hid (keepsPR n1 d1 n2 d2 x = (true, 0)) := by show _ = _; rw [R0, keptB, hn]; simp
        have V := value_none
        have e : x = 9223372036854775807 := hn
        subst e
        clear hk hx hn R0 h1 h2 h3
        go_enter Tryz.func87, Tryz.ntmps87
        go_wp2_with (fail)
        refine (K.out _ _ ?_ ?_ ?_ ?_).mono ?_
        · simp [go_sem]
        · simp [go_sem]
        · simp [go_sem]
        · simp [go_sem]
        rintro e w' ⟨rfl, p, rfl⟩
        go_wp2_with (fail)
        refine (C _).mono ?_; rintro e w' ⟨rfl, p2, rfl⟩
        go_wp2_with (fail)
        refine (V _).mono ?_; rintro e w' ⟨rfl, p3, rfl⟩
        go_wp2
        go_ret2
        exact gives_bpair R.out (by (repeat' (first | (with_reducible assumption) | (with_reducible exact Below.refl _ _) | (with_reducible refine below_wov ?_ ?_ _) | (with_reducible refine below_drewN ?_ _) | (with_reducible refine Below.drew ?_) | (with_reducible refine Below.alloc ?_ ?_ _) | (with_reducible refine Below.setCell ?_ ?_ _) | (with_reducible exact Nat.le_refl _) | omega | (simp only [World.size_alloc, World.size_setCell, World.size_drew, Wov_size, World.heap_drewN]; omega))))
      · have V := value_ok h3.1 h3.2 hx hn
        have ho : okRat n1 d1 = true ∧ okRat n2 d2 = true := by simpa using hk
        obtain ⟨p1, p2, p3, p4⟩ := okRat_bd ho.1
        obtain ⟨q1, q2, q3, q4⟩ := okRat_bd ho.2
        have hX := withinB_bd p3
        have hY := withinB_bd q3
        have hRr := emod_bd n1 d1 (by omega)
        have hS := emod_bd n2 d2 (by omega)
        have hA := mul_bd (a := n1 % d1) (b := d2) (M := 1048576) (K := 1048576) hRr.1 (by omega) (by omega) q2
        have hB := mul_bd (a := n2 % d2) (b := d1) (M := 1048576) (K := 1048576) hS.1 (by omega) (by omega) p2
        have F1 := Lib.hid (fun w => floor_any n1 d1 w h1.1 h1.2 (by omega) (by omega))
        have F2 := Lib.hid (fun w => floor_any n2 d2 w h2.1 h2.2 (by omega) (by omega))
        have kp := kept_parts (n1 := n1) (d1 := d1) (n2 := n2) (d2 := d2) (c := bnum x) (by omega) (by omega)
        have hkept : keptB n1 d1 n2 d2 x = (decide (sgn3 (n1 / d1 - n2 / d2) (bnum x) (sgn3 (n1 % d1 * d2) (n2 % d2 * d1) 0) < 0) || (decide (sgn3 (n1 / d1 - n2 / d2) (bnum x) (sgn3 (n1 % d1 * d2) (n2 % d2 * d1) 0) = 0) && !bstr x)) := by
          have ks := keeps_sign (n1 / d1) (n2 / d2) (bnum x) (n1 % d1 * d2) (n2 % d2 * d1)
          rw [keptB, decide_eq_false hn, Bool.false_or]
          exact or_and_dec _ (kp.1.trans ks.1) (kp.2.trans ks.2)
        have K1 := Lib.hid (fun (b1 b2 b3 b4 : Nat) w => k1_any (n1 % d1) d2 (n2 % d2) d1 n2 n1 b1 b2 b3 b4 w ⟨hA.1, by omega⟩ ⟨hB.1, by omega⟩)
        obtain ⟨X, hXe⟩ : ∃ X, X = n1 / d1 := ⟨_, rfl⟩
        obtain ⟨Y, hYe⟩ : ∃ Y, Y = n2 / d2 := ⟨_, rfl⟩
        obtain ⟨r, hre⟩ : ∃ r, r = n1 % d1 := ⟨_, rfl⟩
        obtain ⟨s, hse⟩ : ∃ s, s = n2 % d2 := ⟨_, rfl⟩
        obtain ⟨c, hce⟩ : ∃ c, c = bnum x := ⟨_, rfl⟩
        obtain ⟨t, hte⟩ : ∃ t, t = bstr x := ⟨_, rfl⟩
        have nb := okB_num hx hn
        rw [← hXe, ← hre] at F1
        rw [← hYe, ← hse] at F2
        rw [← hre, ← hse] at K1
        rw [← hce, ← hte] at V
        rw [← hXe] at hX
        rw [← hYe] at hY
        rw [← hXe, ← hYe, ← hre, ← hse, ← hce, ← hte] at hkept
        obtain ⟨f2, hf2⟩ : ∃ f2, f2 = sgn3 (r * d2) (s * d1) 0 := ⟨_, rfl⟩
        rw [← hf2] at K1 hkept
        obtain ⟨sg, hsg⟩ : ∃ sg, sg = sgn3 (X - Y) c f2 := ⟨_, rfl⟩
        have FF := Lib.hid (fun (p1 p2 p3 p4 : Addr) (w : World) => first_k1 (X - Y) c f2 p1 p2 p3 p4 w)
        rw [← hsg] at FF hkept
        have R : Hid (keepsPR n1 d1 n2 d2 x = (decide (sg < 0) || (decide (sg = 0) && !t), 0)) := by show _ = _; rw [R0, hkept]
        obtain ⟨x1, x2⟩ := hX
        obtain ⟨y1, y2⟩ := hY
        clear hk hx hn R0 h1 h2 h3 ho p1 p2 p3 p4 q1 q2 q3 q4 hRr hS hA hB kp hkept nb hXe hYe hre hse hce hte hf2 hsg
        go_enter Tryz.func87, Tryz.ntmps87
        go_wp2_with (fail)
        refine (K.out _ _ ?_ ?_ ?_ ?_).mono ?_
        · simp [go_sem]
        · simp [go_sem]
        · simp [go_sem]
        · simp [go_sem]
        rintro e w' ⟨rfl, p, rfl⟩
        go_wp2_with (fail)
        refine (C _).mono ?_; rintro e w' ⟨rfl, p2, rfl⟩
        go_wp2_with (fail)
        refine (V _).mono ?_; rintro e w' ⟨rfl, p3, rfl⟩
        go_wp2_with (fail)
        refine (F1.out _).mono ?_; rintro e w' ⟨rfl, m1, rfl⟩
        go_wp2_with (fail)
        refine (F2.out _).mono ?_; rintro e w' ⟨rfl, m2, rfl⟩
        go_wp2_with (fail)
        refine (FF.out _ _ _ _ _ (fun _ => K1.out _ _ _ _ _ ?_ ?_ ?_ ?_ ?_ ?_)).mono ?_
        · ((repeat (first | (with_reducible refine Eq.trans (World.cell?_drewN _ _ _) ?_) | (with_reducible refine Eq.trans (World.cell?_drew _ _) ?_) | (with_reducible refine Eq.trans (World.cell?_alloc_past _ _ _ ?hsz) ?_; case hsz => (first | omega | ((simp only [World.size_alloc, World.size_setCell, World.size_drew, Wov_size, World.heap_drewN, Array.size_append]) <;> omega))) | (with_reducible refine Eq.trans (Wov_cell_past _ _ _ _ ?hsz) ?_; case hsz => (first | omega | ((simp only [World.size_alloc, World.size_setCell, World.size_drew, Wov_size, World.heap_drewN, Array.size_append]) <;> omega))) | (with_reducible refine Eq.trans (World.cell?_alloc_at _ _ _ _ ?hsz) ?_; case hsz => (first | omega | ((simp only [World.size_alloc, World.size_setCell, World.size_drew, Wov_size, World.heap_drewN, Array.size_append]) <;> omega))))) <;> first | rfl | assumption | (simp; done))
        · ((repeat (first | (with_reducible refine Eq.trans (World.cell?_drewN _ _ _) ?_) | (with_reducible refine Eq.trans (World.cell?_drew _ _) ?_) | (with_reducible refine Eq.trans (World.cell?_alloc_past _ _ _ ?hsz) ?_; case hsz => (first | omega | ((simp only [World.size_alloc, World.size_setCell, World.size_drew, Wov_size, World.heap_drewN, Array.size_append]) <;> omega))) | (with_reducible refine Eq.trans (Wov_cell_past _ _ _ _ ?hsz) ?_; case hsz => (first | omega | ((simp only [World.size_alloc, World.size_setCell, World.size_drew, Wov_size, World.heap_drewN, Array.size_append]) <;> omega))) | (with_reducible refine Eq.trans (World.cell?_alloc_at _ _ _ _ ?hsz) ?_; case hsz => (first | omega | ((simp only [World.size_alloc, World.size_setCell, World.size_drew, Wov_size, World.heap_drewN, Array.size_append]) <;> omega))))) <;> first | rfl | assumption | (simp; done))
        · ((repeat (first | (with_reducible refine Eq.trans (World.cell?_drewN _ _ _) ?_) | (with_reducible refine Eq.trans (World.cell?_drew _ _) ?_) | (with_reducible refine Eq.trans (World.cell?_alloc_past _ _ _ ?hsz) ?_; case hsz => (first | omega | ((simp only [World.size_alloc, World.size_setCell, World.size_drew, Wov_size, World.heap_drewN, Array.size_append]) <;> omega))) | (with_reducible refine Eq.trans (Wov_cell_past _ _ _ _ ?hsz) ?_; case hsz => (first | omega | ((simp only [World.size_alloc, World.size_setCell, World.size_drew, Wov_size, World.heap_drewN, Array.size_append]) <;> omega))) | (with_reducible refine Eq.trans (World.cell?_alloc_at _ _ _ _ ?hsz) ?_; case hsz => (first | omega | ((simp only [World.size_alloc, World.size_setCell, World.size_drew, Wov_size, World.heap_drewN, Array.size_append]) <;> omega))))) <;> first | rfl | assumption | (simp; done))
        · ((repeat (first | (with_reducible refine Eq.trans (World.cell?_drewN _ _ _) ?_) | (with_reducible refine Eq.trans (World.cell?_drew _ _) ?_) | (with_reducible refine Eq.trans (World.cell?_alloc_past _ _ _ ?hsz) ?_; case hsz => (first | omega | ((simp only [World.size_alloc, World.size_setCell, World.size_drew, Wov_size, World.heap_drewN, Array.size_append]) <;> omega))) | (with_reducible refine Eq.trans (Wov_cell_past _ _ _ _ ?hsz) ?_; case hsz => (first | omega | ((simp only [World.size_alloc, World.size_setCell, World.size_drew, Wov_size, World.heap_drewN, Array.size_append]) <;> omega))) | (with_reducible refine Eq.trans (World.cell?_alloc_at _ _ _ _ ?hsz) ?_; case hsz => (first | omega | ((simp only [World.size_alloc, World.size_setCell, World.size_drew, Wov_size, World.heap_drewN, Array.size_append]) <;> omega))))) <;> first | rfl | assumption | (simp; done))
        · ((repeat (first | (with_reducible refine Eq.trans (World.cell?_drewN _ _ _) ?_) | (with_reducible refine Eq.trans (World.cell?_drew _ _) ?_) | (with_reducible refine Eq.trans (World.cell?_alloc_past _ _ _ ?hsz) ?_; case hsz => (first | omega | ((simp only [World.size_alloc, World.size_setCell, World.size_drew, Wov_size, World.heap_drewN, Array.size_append]) <;> omega))) | (with_reducible refine Eq.trans (Wov_cell_past _ _ _ _ ?hsz) ?_; case hsz => (first | omega | ((simp only [World.size_alloc, World.size_setCell, World.size_drew, Wov_size, World.heap_drewN, Array.size_append]) <;> omega))) | (with_reducible refine Eq.trans (World.cell?_alloc_at _ _ _ _ ?hsz) ?_; case hsz => (first | omega | ((simp only [World.size_alloc, World.size_setCell, World.size_drew, Wov_size, World.heap_drewN, Array.size_append]) <;> omega))))) <;> first | rfl | assumption | (simp; done))
        · ((repeat (first | (with_reducible refine Eq.trans (World.cell?_drewN _ _ _) ?_) | (with_reducible refine Eq.trans (World.cell?_drew _ _) ?_) | (with_reducible refine Eq.trans (World.cell?_alloc_past _ _ _ ?hsz) ?_; case hsz => (first | omega | ((simp only [World.size_alloc, World.size_setCell, World.size_drew, Wov_size, World.heap_drewN, Array.size_append]) <;> omega))) | (with_reducible refine Eq.trans (Wov_cell_past _ _ _ _ ?hsz) ?_; case hsz => (first | omega | ((simp only [World.size_alloc, World.size_setCell, World.size_drew, Wov_size, World.heap_drewN, Array.size_append]) <;> omega))) | (with_reducible refine Eq.trans (World.cell?_alloc_at _ _ _ _ ?hsz) ?_; case hsz => (first | omega | ((simp only [World.size_alloc, World.size_setCell, World.size_drew, Wov_size, World.heap_drewN, Array.size_append]) <;> omega))))) <;> first | rfl | assumption | (simp; done))
        rintro e w' ⟨rfl, p4, rfl⟩
        go_wp2
        all_goals
          go_ret2
          refine gives_bpair ?_ (by (repeat' (first | (with_reducible assumption) | (with_reducible exact Below.refl _ _) | (with_reducible refine below_wov ?_ ?_ _) | (with_reducible refine below_drewN ?_ _) | (with_reducible refine Below.drew ?_) | (with_reducible refine Below.alloc ?_ ?_ _) | (with_reducible refine Below.setCell ?_ ?_ _) | (with_reducible exact Nat.le_refl _) | omega | (simp only [World.size_alloc, World.size_setCell, World.size_drew, Wov_size, World.heap_drewN]; omega))))
          rw [R.out]
          congr 1
          cases t <;> (rw [Bool.eq_iff_iff]; simp; try omega)
end Go.Proofs.YtpmpapenjcemjaaGreatDoor

namespace Go.Proofs.YtpmpapenjcemjaaGreatDoor
set_option linter.unusedSimpArgs false
set_option linter.unusedVariables false
open Go Go.RowKit

set_option maxHeartbeats 400000 in
theorem ref1May_any (n : Int) (w : World) (h1 : -9223372036854775808 ≤ n) (h2 : n ≤ 9223372036854775807) :
    Calls Tryz.prog 208 #[.int .i64 n] w fun e w' => e = .returned (.bool (okN n)) ∧ w = w' := by
  by_cases ha : -2305843009213693952 ≤ n
  · go_enter Tryz.func208, Tryz.ntmps208
    go_wp2
    all_goals
      go_ret
      refine ⟨ret_bool ?_, rfl⟩
      rw [Bool.eq_iff_iff]; simp [okN]; try omega
  · have ha' : n < -2305843009213693952 := by omega
    go_enter Tryz.func208, Tryz.ntmps208
    go_wp2
    all_goals
      go_ret
      refine ⟨ret_bool ?_, rfl⟩
      rw [Bool.eq_iff_iff]; simp [okN]; try omega

theorem tmod2_cases (b : Int) : (b.tmod 2 = 0 ∧ b % 2 = 0) ∨ (b.tmod 2 ≠ 0 ∧ b % 2 = 1) := by
  have e := Int.mul_tdiv_add_tmod b 2
  have l1 := Int.lt_tmod_of_pos b (by decide : (0:Int) < 2)
  have l2 := Int.tmod_lt_of_pos b (by decide : (0:Int) < 2)
  omega
theorem number_even (b : Int) (h1 : -9223372036854775808 ≤ b) (h2 : b ≤ 9223372036854775807) (h : b % 2 = 0) : b.tdiv 2 = bnum b := by
  have e : b = 2 * (b / 2) := by omega
  have : b.tdiv 2 = b / 2 := by
    conv => lhs; rw [e]
    exact Int.mul_tdiv_cancel_left _ (by decide)
  rw [this]; rfl
theorem number_odd (b : Int) (h1 : -9223372036854775808 ≤ b) (h2 : b ≤ 9223372036854775807) (h : b % 2 = 1) : (wrap64 (b - 1)).tdiv 2 = bnum b := by
  have e0 : wrap64 (b - 1) = b - 1 := by unfold wrap64; omega
  have e : b - 1 = 2 * (b / 2) := by omega
  rw [e0, e, Int.mul_tdiv_cancel_left _ (by decide : (2:Int) ≠ 0)]
  rfl

set_option maxHeartbeats 400000 in
theorem refNumber_any (b : Int) (w : World) (h1 : -9223372036854775808 ≤ b) (h2 : b ≤ 9223372036854775807) :
    Calls Tryz.prog 161 #[.int .i64 b] w fun e w' => e = .returned (.int .i64 (bnum b)) ∧ w = w' := by
  rcases tmod2_cases b with ⟨h0, hm⟩ | ⟨h0, hm⟩
  · have e : (b.tmod 2 != 0) = false := by rw [h0]; rfl
    have R := Lib.hid (number_even b h1 h2 hm)
    clear h0 hm
    go_enter Tryz.func161, Tryz.ntmps161
    go_wp2
    go_ret
    exact ⟨ret_int (by first | exact R.out | (rw [wrap64_id (by rw [R.out]; exact (bnum_bd h1 h2).1) (by rw [R.out]; exact (bnum_bd h1 h2).2)]; exact R.out)), rfl⟩
  · have e : (b.tmod 2 != 0) = true := by rw [bne_iff_ne]; exact h0
    have R := Lib.hid (number_odd b h1 h2 hm)
    clear h0 hm
    go_enter Tryz.func161, Tryz.ntmps161
    go_wp2
    go_ret
    exact ⟨ret_int (by first | exact R.out | (rw [wrap64_id (by rw [R.out]; exact (bnum_bd h1 h2).1) (by rw [R.out]; exact (bnum_bd h1 h2).2)]; exact R.out)), rfl⟩

theorem strict_eq (b : Int) : (b.tmod 2 == 0) = bstr b := by
  rw [Bool.eq_iff_iff]; simp only [beq_iff_eq, bstr, decide_eq_true_eq]
  rcases tmod2_cases b with ⟨h0, hm⟩ | ⟨h0, hm⟩ <;> omega

set_option maxHeartbeats 400000 in
theorem refStrict_any (b : Int) (w : World) :
    Calls Tryz.prog 210 #[.int .i64 b] w fun e w' => e = .returned (.bool (bstr b)) ∧ w = w' := by
  have R := Lib.hid (strict_eq b)
  go_enter Tryz.func210, Tryz.ntmps210
  go_wp2
  go_ret
  exact ⟨ret_bool R.out, rfl⟩

set_option maxHeartbeats 400000 in
theorem refMade_any (c : Int) (s : Bool) (w : World) (h1 : -2305843009213693952 ≤ c) (h2 : c ≤ 2305843009213693952) :
    Calls Tryz.prog 209 #[.int .i64 c, .bool s] w fun e w' => e = .returned (.int .i64 (mkB c s)) ∧ w = w' := by
  cases s
  all_goals
    go_enter Tryz.func209, Tryz.ntmps209
    go_wp2
    go_ret
    exact ⟨ret_int (by simp [mkB]), rfl⟩

end Go.Proofs.YtpmpapenjcemjaaGreatDoor
