/- Contracts of minus.parts and of the iterator that it hands back. No condition but that both zones may be. -/
import Derived.Test.YtbgbhfcnadjhdaaJ2
import Derived.Test.YtbgbhfcnadjhdaaH13
import Derived.Test.YtbgbhfcnadjhdaaH11
import Derived.Sort.CutIn
namespace Go.Proofs.Ytbgbhfcnadjhdaa
set_option linter.unusedSimpArgs false
set_option linter.unusedVariables false
open Go Go.RowKit Go.Shelf
attribute [local go_sem] Nat.add_assoc Nat.add_lt_add_iff_left lit_lt_add

set_option maxHeartbeats 1000000 in
theorem parts_any (a b : Nat → Int) (w : World) : Calls Try.prog 55 #[zoneV a, zoneV b] w (fun e W => ∃ A B, e = .returned (.func (.func 106) #[] #[.pointer (some ⟨B, 0, none⟩), .pointer (some ⟨A, 0, none⟩)]) ∧ w.heap.size ≤ A ∧ w.heap.size ≤ B ∧ A ≠ B ∧ HoldsA W A 6 a ∧ HoldsA W B 6 b ∧ ∃ q, W = Wov w q) := by
  unfold zoneV
  go_enter Try.func55, Try.ntmps55
  go_wp2
  go_returns
  refine ⟨w.heap.size, w.heap.size + 1, rfl, by omega, by omega, by omega, ⟨by simp; omega, fun x hx => ?_⟩, ⟨by simp, fun x hx => ?_⟩, Wov_of_below (by (repeat' (first | (with_reducible assumption) | (with_reducible exact Below.refl _ _) | (with_reducible refine below_wov ?_ ?_ _) | (with_reducible refine below_drewN ?_ _) | (with_reducible refine Below.drew ?_) | (with_reducible refine Below.alloc ?_ ?_ _) | (with_reducible refine Below.setCell ?_ ?_ _) | (with_reducible exact Nat.le_refl _) | omega | (simp only [World.size_alloc, World.size_setCell, World.size_drew, Wov_size, World.heap_drewN]; omega))))⟩
  · rcases six hx with rfl | rfl | rfl | rfl | rfl | rfl <;> (constructor <;> simp [go_sem])
  · rcases six hx with rfl | rfl | rfl | rfl | rfl | rfl <;> (constructor <;> simp [go_sem])

/-- What the iterator hands over. -/
def encP (x : (Nat → Int) × Int) : Array Value := #[zoneV x.1, .int .i64 x.2]
def partsZ : Nat → Nat → (Nat → Int) → (Nat → Int) → List ((Nat → Int) × Int)
  | 0, _, _, _ => []
  | k + 1, t, a, b => if b t = noneB then partsZ k (t + 1) a b else
    (if (withZ a (othZ t) (otherB (b t))).2 = 6 then [] else [withZ a (othZ t) (otherB (b t))]) ++
    (if (withZ a t (b t)).2 = 6 then [] else (if (withZ a t (b t)).2 = 0 then [] else [withZ a t (b t)]) ++ partsZ k (t + 1) (withZ a t (b t)).1 b)
theorem partsZ_none {k t : Nat} {a b : Nat → Int} (h : b t = noneB) : partsZ (k + 1) t a b = partsZ k (t + 1) a b := if_pos h
theorem partsZ_some {k t : Nat} {a b : Nat → Int} (h : b t ≠ noneB) : partsZ (k + 1) t a b = (if (withZ a (othZ t) (otherB (b t))).2 = 6 then [] else [withZ a (othZ t) (otherB (b t))]) ++
    (if (withZ a t (b t)).2 = 6 then [] else (if (withZ a t (b t)).2 = 0 then [] else [withZ a t (b t)]) ++ partsZ k (t + 1) (withZ a t (b t)).1 b) := if_neg h
theorem partsZ_len : ∀ (k t : Nat) (a b : Nat → Int), (partsZ k t a b).length ≤ 2 * k
  | 0, _, _, _ => Nat.le_refl _
  | k + 1, t, a, b => by
    have h1 := fun a' => partsZ_len k (t + 1) a' b
    unfold partsZ
    split
    · have := h1 a; omega
    · have h2 := h1 (withZ a t (b t)).1
      rw [List.length_append]
      have x1 : (if (withZ a (othZ t) (otherB (b t))).2 = 6 then [] else [withZ a (othZ t) (otherB (b t))]).length ≤ 1 := by split <;> simp
      have x2 : (if (withZ a t (b t)).2 = 6 then [] else (if (withZ a t (b t)).2 = 0 then [] else [withZ a t (b t)]) ++ partsZ k (t + 1) (withZ a t (b t)).1 b).length ≤ 1 + 2 * k := by
        split
        · simp
        · rw [List.length_append]
          have : (if (withZ a t (b t)).2 = 0 then [] else [withZ a t (b t)]).length ≤ 1 := by split <;> simp
          omega
      omega
theorem partsZ_lt {a b : Nat → Int} {pre R : List ((Nat → Int) × Int)} {x : (Nat → Int) × Int} (h : partsZ 6 0 a b = pre ++ x :: R) : pre.length < 12 := by
  have := partsZ_len 6 0 a b
  rw [h, List.length_append, List.length_cons] at this
  omega
theorem notR_none : notR noneB = (0, 6) := by decide
theorem notR_some {x : Int} (h : mayB x = true) (hn : x ≠ noneB) : notR x = (otherB x, 0) := by
  have hb : okB x = true := by
    rcases mayB_bd h with h' | h'
    · exact absurd h' hn
    · unfold okB okN; rw [Bool.or_eq_true]; right; simp; omega
  unfold notR madeR otherB okN
  rw [if_pos hb, if_neg hn]
  rcases mayB_bd h with h' | h'
  · exact absurd h' hn
  · rw [if_pos (by simp; omega)]
theorem idx6 (x0 x1 x2 x3 x4 x5 : Int) (w : World) : ∀ t, t < 6 → (Instr.index 24 (.agg #[.int .i64 x0, .int .i64 x1, .int .i64 x2, .int .i64 x3, .int .i64 x4, .int .i64 x5]) (.int .i64 (t : Nat))).run Try.prog w = .ok (.int .i64 (row6 x0 x1 x2 x3 x4 x5 t)) w := by
  intro t ht
  rcases six ht with rfl | rfl | rfl | rfl | rfl | rfl <;> kernel_rfl
theorem row6_z (z : Nat → Int) {t : Nat} (ht : t < 6) : row6 (z 0) (z 1) (z 2) (z 3) (z 4) (z 5) t = z t := by
  rcases six ht with rfl | rfl | rfl | rfl | rfl | rfl <;> rfl
/-- A round leaves the zone's own box. -/
def KeepA (A : Nat) (W V : World) : Prop := V.heap[A]? = W.heap[A]? ∧ W.heap.size ≤ V.heap.size
theorem HoldsA.keep {W V : World} {A N : Nat} {f : Nat → Int} (h : HoldsA W A N f) (k : KeepA A W V) : HoldsA V A N f :=
  ⟨Nat.lt_of_lt_of_le h.lt k.2, h.holds.of_block k.1⟩

theorem zcases {y : Nat → Int} {e : Int} {Q R : Prop} {S : (Nat → Int) → Prop} (h : (∃ r, (y, e) = (r, 0) ∧ okZ r = true ∧ S r) ∨ ((y, e) = (fun _ => 0, 6) ∧ Q) ∨ ((y, e) = (fun _ => 0, 8) ∧ R)) : e = 6 ∨ (e = 0 ∧ FitsZ y) ∨ (e = 8 ∧ FitsZ y) := by
  rcases h with ⟨r, h, hr, _⟩ | ⟨h, _⟩ | ⟨h, _⟩
  · simp only [Prod.mk.injEq] at h
    exact .inr (.inl ⟨h.2, h.1 ▸ okZ_fits hr⟩)
  · simp only [Prod.mk.injEq] at h
    exact .inl h.2
  · simp only [Prod.mk.injEq] at h
    exact .inr (.inr ⟨h.2, h.1 ▸ fun i _ => (by decide : fits64 0)⟩)
theorem zcases2 {y : Nat → Int} {e : Int} {Q R : Prop} {S : (Nat → Int) → Prop} (h : (∃ r, (y, e) = (r, 0) ∧ okZ r = true ∧ S r) ∨ ((y, e) = (fun _ => 0, 6) ∧ Q) ∨ ((y, e) = (fun _ => 0, 8) ∧ R)) : e = 6 ∨ (e = 0 ∧ okZ y = true ∧ FitsZ y) ∨ (e = 8 ∧ FitsZ y) := by
  rcases h with ⟨r, h, hr, _⟩ | ⟨h, _⟩ | ⟨h, _⟩
  · simp only [Prod.mk.injEq] at h
    obtain ⟨rfl, rfl⟩ := h
    exact .inr (.inl ⟨rfl, hr, okZ_fits hr⟩)
  · simp only [Prod.mk.injEq] at h
    exact .inl h.2
  · simp only [Prod.mk.injEq] at h
    exact .inr (.inr ⟨h.2, h.1 ▸ fun i _ => (by decide : fits64 0)⟩)
theorem holds_congr {W : World} {B N : Nat} {f g : Nat → Int} (h : HoldsI W B N f) (e : ∀ x, x < N → f x = g x) : HoldsI W B N g := fun x hx => by rw [← e x hx]; exact h x hx

set_option maxRecDepth 100000 in
set_option maxHeartbeats 8000000 in
theorem parts1_in (a b : Nat → Int) (ha : okZ a = true) (hb : okZ b = true) (l A B : Nat) (J Jx : List ((Nat → Int) × Int) → World → Prop) (W : World) (hAB : A ≠ B)
    (hJ : ∀ s X Y, J s X → Chg X A Y → J s Y) (hJx : ∀ s X Y, Jx s X → Chg X A Y → Jx s Y)
    (hY : ∀ pre x W1, J pre W1 → FitsZ x.1 → pre.length < 12 → YieldAt Fence.wide 1 Try.prog l (encP x) W1 fun e W' =>
      (x.2 = 0 ∧ e = .returned (.bool true) ∧ J (pre ++ [x]) W' ∧ KeepA A W1 W') ∨ (e = .returned (.bool false) ∧ Jx (pre ++ [x]) W'))
    (hA : HoldsA W A 6 a) (hB : HoldsA W B 6 b) (h0 : J [] W) :
    CallsIn Fence.wide 2 Try.prog 106 #[.func (.yield l) #[] #[], .pointer (some ⟨B, 0, none⟩), .pointer (some ⟨A, 0, none⟩)] W fun e W' => (∃ v, e = .returned v) ∧
      (J (partsZ 6 0 a b) W' ∨ ∃ pre x rest, partsZ 6 0 a b = pre ++ x :: rest ∧ Jx (pre ++ [x]) W') := by
  refine callsIn_of_wp Try.func106 rfl trivial ?_ rfl
  simp only [Try.ntmps106, List.size_toArray, List.length_cons, List.length_nil, Nat.reduceAdd, Nat.reduceSub, Array.replicate_succ, Array.replicate_zero, List.push_toArray, List.append_toArray, List.nil_append, List.cons_append]
  have b0 := (hB.holds 0 (by omega)).1
  have b1 := (hB.holds 1 (by omega)).1
  have b2 := (hB.holds 2 (by omega)).1
  have b3 := (hB.holds 3 (by omega)).1
  have b4 := (hB.holds 4 (by omega)).1
  have b5 := (hB.holds 5 (by omega)).1
  gi_wp2
  clear b0 b1 b2 b3 b4 b5
  gi_loopw [12] (fun i wr => ∃ (t : Nat) (z : Nat → Int) (pre : List ((Nat → Int) × Int)), t ≤ 6 ∧ i = .int .i64 t ∧ okZ z = true ∧ J pre wr ∧ HoldsA wr A 6 z ∧ Hid (pre ++ partsZ (6 - t) t z b = partsZ 6 0 a b))
    (fun i _ => 6 - (intOf i).toNat)
  case atStart => exact ⟨0, a, [], by omega, rfl, ha, h0, hA, rfl⟩
  case round =>
    obtain ⟨t, z, pre, ht, rfl, hz, hJs, hAz, hP⟩ := hrel
    by_cases hlt : t < 6
    · have jt := fun w => idx6 (b 0) (b 1) (b 2) (b 3) (b 4) (b 5) w t hlt
      rw [row6_z b hlt] at jt
      have hm := okZ_may hb hlt
      have fb := okZ_fits hb t hlt
      have HN : Hid (∀ v, notR (b t) = v → ∀ w, Calls Try.prog 107 #[.int .i64 (b t)] w (Gives w (pair2 v))) := fun v hv w => by rw [← hv]; exact not_any (b t) fb.1 fb.2 w
      by_cases hn : b t = noneB
      · have NT : Hid (∀ w, Calls Try.prog 107 #[.int .i64 (b t)] w (Gives w (.tuple #[.int .i64 0, .int .i64 6]))) := HN.out (0, 6) (by rw [hn]; exact notR_none)
        have hP2 : Hid (pre ++ partsZ (6 - (t + 1)) (t + 1) z b = partsZ 6 0 a b) := by
          show _ = _
          rw [← hP.out, show 6 - t = (6 - (t + 1)) + 1 from by omega, partsZ_none hn]
        obtain ⟨bt, hbt⟩ : ∃ x, x = b t := ⟨_, rfl⟩
        rw [← hbt] at NT jt
        clear HN hm fb hn hbt hP
        gi_wp2_with (refine ⟨trivial, ?_⟩; gi_at_call 107; refine (callsIn_wide.2 (NT.out _)).mono ?_; rintro e w' ⟨rfl, q1, rfl⟩)
        refine ⟨⟨t + 1, z, pre, by omega, by go_num, hz, hJ _ _ _ hJs ?_, hAz.below (by (repeat' (first | (with_reducible assumption) | (with_reducible exact Below.refl _ _) | (with_reducible refine below_wov ?_ ?_ _) | (with_reducible refine below_drewN ?_ _) | (with_reducible refine Below.drew ?_) | (with_reducible refine Below.alloc ?_ ?_ _) | (with_reducible refine Below.setCell ?_ ?_ _) | (with_reducible exact Nat.le_refl _) | omega | (simp only [World.size_alloc, World.size_setCell, World.size_drew, Wov_size, World.heap_drewN]; omega)))), hP2⟩, by simp [intOf]; omega⟩
        exact Chg.of_below (by (repeat' (first | (with_reducible assumption) | (with_reducible exact Below.refl _ _) | (with_reducible refine below_wov ?_ ?_ _) | (with_reducible refine below_drewN ?_ _) | (with_reducible refine Below.drew ?_) | (with_reducible refine Below.alloc ?_ ?_ _) | (with_reducible refine Below.setCell ?_ ?_ _) | (with_reducible exact Nat.le_refl _) | omega | (simp only [World.size_alloc, World.size_setCell, World.size_drew, Wov_size, World.heap_drewN]; omega))))
      · have NT : Hid (∀ w, Calls Try.prog 107 #[.int .i64 (b t)] w (Gives w (.tuple #[.int .i64 (otherB (b t)), .int .i64 0]))) := HN.out (otherB (b t), 0) (notR_some hm hn)
        have ho := other_may hm hn
        have fo := mayB_fits ho
        have WO : Hid (∀ w, Calls Try.prog 108 #[.agg #[.int .i64 (z 0), .int .i64 (z 1), .int .i64 (z 2), .int .i64 (z 3), .int .i64 (z 4), .int .i64 (z 5)], .int .i64 (othZ t), .int .i64 (otherB (b t))] w (Gives w (zoneR (withZ z (othZ t) (otherB (b t))).1 (withZ z (othZ t) (otherB (b t))).2))) := fun w => mwith_any z (othZ t) _ w (othZ_lt t) (okZ_fits hz) fo
        have WT : Hid (∀ w, Calls Try.prog 108 #[.agg #[.int .i64 (z 0), .int .i64 (z 1), .int .i64 (z 2), .int .i64 (z 3), .int .i64 (z 4), .int .i64 (z 5)], .int .i64 t, .int .i64 (b t)] w (Gives w (zoneR (withZ z t (b t)).1 (withZ z t (b t)).2))) := fun w => mwith_any z t _ w hlt (okZ_fits hz) fb
        have OT := Lib.hid (mother_any hlt)
        have hP2 : Hid (pre ++ ((if (withZ z (othZ t) (otherB (b t))).2 = 6 then [] else [withZ z (othZ t) (otherB (b t))]) ++
    (if (withZ z t (b t)).2 = 6 then [] else (if (withZ z t (b t)).2 = 0 then [] else [withZ z t (b t)]) ++ partsZ (6 - (t + 1)) (t + 1) (withZ z t (b t)).1 b)) = partsZ 6 0 a b) := by
          show _ = _
          rw [← hP.out, show 6 - t = (6 - (t + 1)) + 1 from by omega, partsZ_some hn]
        have c1 := withZ_cases hz (othZ_lt t) ho
        have c2 := withZ_cases hz hlt hm
        obtain ⟨⟨y, e1⟩, hy⟩ : ∃ r, r = withZ z (othZ t) (otherB (b t)) := ⟨_, rfl⟩
        obtain ⟨⟨x, e2⟩, hx⟩ : ∃ r, r = withZ z t (b t) := ⟨_, rfl⟩
        rw [← hy] at WO hP2 c1
        rw [← hx] at WT hP2 c2
        obtain ⟨bt, hbt⟩ : ∃ x, x = b t := ⟨_, rfl⟩
        rw [← hbt] at NT jt WO WT
        obtain ⟨bo, hbo⟩ : ∃ x, x = otherB bt := ⟨_, rfl⟩
        rw [← hbo] at NT WO
        obtain ⟨o, hoo⟩ : ∃ o, o = othZ t := ⟨_, rfl⟩
        rw [← hoo] at WO OT
        unfold zoneR zoneV at WO WT
        have a0 := (hAz.holds 0 (by omega)).1
        have a1 := (hAz.holds 1 (by omega)).1
        have a2 := (hAz.holds 2 (by omega)).1
        have a3 := (hAz.holds 3 (by omega)).1
        have a4 := (hAz.holds 4 (by omega)).1
        have a5 := (hAz.holds 5 (by omega)).1
        clear HN hm fb hn hbt hP ho fo hy hx hbo hoo
        gi_wp2_with (refine ⟨trivial, ?_⟩; gi_at_call 107; refine (callsIn_wide.2 (NT.out _)).mono ?_; rintro e w' ⟨rfl, q1, rfl⟩)
        clear a0 a1 a2 a3 a4 a5 NT
        refine wpIn_world (fun V => J pre V ∧ HoldsA V A 6 z) ⟨hJ _ _ _ hJs (Chg.of_below (by (repeat' (first | (with_reducible assumption) | (with_reducible exact Below.refl _ _) | (with_reducible refine below_wov ?_ ?_ _) | (with_reducible refine below_drewN ?_ _) | (with_reducible refine Below.drew ?_) | (with_reducible refine Below.alloc ?_ ?_ _) | (with_reducible refine Below.setCell ?_ ?_ _) | (with_reducible exact Nat.le_refl _) | omega | (simp only [World.size_alloc, World.size_setCell, World.size_drew, Wov_size, World.heap_drewN]; omega))))), hAz.below (by (repeat' (first | (with_reducible assumption) | (with_reducible exact Below.refl _ _) | (with_reducible refine below_wov ?_ ?_ _) | (with_reducible refine below_drewN ?_ _) | (with_reducible refine Below.drew ?_) | (with_reducible refine Below.alloc ?_ ?_ _) | (with_reducible refine Below.setCell ?_ ?_ _) | (with_reducible exact Nat.le_refl _) | omega | (simp only [World.size_alloc, World.size_setCell, World.size_drew, Wov_size, World.heap_drewN]; omega))))⟩ ?_
        clear hJs hAz
        rintro V1 ⟨hJ1, hA1⟩
        have a0 := (hA1.holds 0 (by omega)).1
        have a1 := (hA1.holds 1 (by omega)).1
        have a2 := (hA1.holds 2 (by omega)).1
        have a3 := (hA1.holds 3 (by omega)).1
        have a4 := (hA1.holds 4 (by omega)).1
        have a5 := (hA1.holds 5 (by omega)).1
        have la := hA1.lt
        have HJ1 := Lib.hid hJ1
        have HA1 := Lib.hid hA1
        clear hJ1 hA1
        have hmix : Try.prog.follows .mixedOrders = true := by kernel_rfl
        gi_cut [8, 9] from 60 (fun s8 s9 V => ∃ A8 : Nat, s8 = .pointer (some ⟨A8, 0, none⟩) ∧ s9 = .int .i64 e1 ∧ J pre V ∧ HoldsA V A 6 z ∧ BoxZ V A8 y ∧ A8 ≠ A)
        case first =>
          gi_region_with_o ((first
            | (refine ⟨trivial, ?_⟩; gi_at_call 109; refine (callsIn_wide.2 (OT.out _)).mono ?_; rintro e w' ⟨rfl, q2, rfl⟩)
            | (refine ⟨trivial, ?_⟩; gi_at_call 108; refine (callsIn_wide.2 (WO.out _)).mono ?_; rintro e w' ⟨rfl, q3, rfl⟩)))
          all_goals
            gi_wp2_with (fail)
            gi_meet
            case rel =>
              refine ⟨_, rfl, rfl, hJ _ _ _ HJ1.out (Chg.of_below (by (repeat' (first | (with_reducible assumption) | (with_reducible exact Below.refl _ _) | (with_reducible refine below_wov ?_ ?_ _) | (with_reducible refine below_drewN ?_ _) | (with_reducible refine Below.drew ?_) | (with_reducible refine Below.alloc ?_ ?_ _) | (with_reducible refine Below.setCell ?_ ?_ _) | (with_reducible exact Nat.le_refl _) | omega | (simp only [World.size_alloc, World.size_setCell, World.size_drew, Wov_size, World.heap_drewN]; omega))))), HA1.out.below (by (repeat' (first | (with_reducible assumption) | (with_reducible exact Below.refl _ _) | (with_reducible refine below_wov ?_ ?_ _) | (with_reducible refine below_drewN ?_ _) | (with_reducible refine Below.drew ?_) | (with_reducible refine Below.alloc ?_ ?_ _) | (with_reducible refine Below.setCell ?_ ?_ _) | (with_reducible exact Nat.le_refl _) | omega | (simp only [World.size_alloc, World.size_setCell, World.size_drew, Wov_size, World.heap_drewN]; omega)))), ⟨by simp only [World.size_alloc, World.size_drew, World.size_setCell, Wov_size, Array.size_append]; omega, by simp [go_sem], by simp [go_sem], by simp [go_sem], by simp [go_sem], by simp [go_sem], by simp [go_sem]⟩, by omega⟩
        case rest =>
          clear a0 a1 a2 a3 a4 a5 OT WO HJ1 HA1 la
          obtain ⟨A8, rfl, rfl, hJ2, hA2, hY2, hne8⟩ := hcut
          obtain ⟨V2, rfl⟩ : ∃ V, V = wc := ⟨_, rfl⟩
          obtain ⟨R, hR⟩ : ∃ R : List ((Nat → Int) × Int), R = (if e2 = 6 then [] else (if e2 = 0 then [] else [(x, e2)]) ++ partsZ (6 - (t + 1)) (t + 1) x b) := ⟨_, rfl⟩
          have hP3 := hP2.out
          (try simp only at hP3)
          rw [← hR] at hP3
          clear hP2
          have k1 : e1 = 6 ∨ (e1 = 0 ∧ FitsZ y) ∨ (e1 = 8 ∧ FitsZ y) := zcases c1
          have k2 : e2 = 6 ∨ (e2 = 0 ∧ okZ x = true ∧ FitsZ x) ∨ (e2 = 8 ∧ FitsZ x) := zcases2 c2
          clear c1 c2
          have HR : Hid ((e2 = 6 ∧ R = []) ∨ (e2 = 0 ∧ okZ x = true ∧ R = partsZ (6 - (t + 1)) (t + 1) x b) ∨ (e2 = 8 ∧ FitsZ x ∧ R = (x, 8) :: partsZ (6 - (t + 1)) (t + 1) x b)) := by
            show _ ∨ _
            rcases k2 with rfl | ⟨rfl, h, _⟩ | ⟨rfl, h⟩
            · exact .inl ⟨rfl, hR⟩
            · exact .inr (.inl ⟨rfl, h, hR⟩)
            · exact .inr (.inr ⟨rfl, h, hR⟩)
          clear hR k2
          have la := hA2.lt
          have lY := hY2.lt
          have y0 := hY2.c0
          have y1 := hY2.c1
          have y2 := hY2.c2
          have y3 := hY2.c3
          have y4 := hY2.c4
          have y5 := hY2.c5
          have a0 := (hA2.holds 0 (by omega)).1
          have az0 := (hA2.holds 0 (by omega)).2
          have a1 := (hA2.holds 1 (by omega)).1
          have az1 := (hA2.holds 1 (by omega)).2
          have a2 := (hA2.holds 2 (by omega)).1
          have az2 := (hA2.holds 2 (by omega)).2
          have a3 := (hA2.holds 3 (by omega)).1
          have az3 := (hA2.holds 3 (by omega)).2
          have a4 := (hA2.holds 4 (by omega)).1
          have az4 := (hA2.holds 4 (by omega)).2
          have a5 := (hA2.holds 5 (by omega)).1
          have az5 := (hA2.holds 5 (by omega)).2
          have HJ2 := Lib.hid hJ2
          have HA2 := Lib.hid hA2
          clear hJ2 hA2 hY2
          rcases k1 with rfl | ⟨rfl, fy⟩ | ⟨rfl, fy⟩
          · skip
            have hL : Hid (partsZ 6 0 a b = pre ++ R) := by
              show _ = _
              rw [← hP3, if_pos rfl]; rfl
            clear y0 y1 y2 y3 y4 y5 lY hP3
            gi_upto_region 6 with (fail)
            gi_cut [39] from 60 (fun s V => s = .bool false ∧ V = V2)
            case first =>
              gi_wp2_with (refine ⟨(fun f h => by cases h), ?_⟩)
              all_goals (try gi_wp2_with (fail))
              all_goals (gi_meet; case rel => exact ⟨rfl, rfl⟩)
            case rest =>
              obtain ⟨rfl, rfl⟩ := hcut
              obtain ⟨V2, rfl⟩ : ∃ V, V = wc := ⟨_, rfl⟩
              rcases HR.out with ⟨rfl, hR6⟩ | ⟨rfl, okx, hR6⟩ | ⟨rfl, fx, hR6⟩
              · skip
                clear HR
                gi_wp2_with (refine ⟨trivial, ?_⟩; gi_at_call 108; refine (callsIn_wide.2 (WT.out _)).mono ?_; rintro e w' ⟨rfl, q4, rfl⟩)
                refine bodyPost_ret (results_none rfl _ _ _) rfl ?_
                refine ⟨⟨_, rfl⟩, .inl ?_⟩
                rw [hL.out, hR6, List.append_nil]
                exact hJ _ _ _ HJ2.out (Chg.of_below (by (repeat' (first | (with_reducible assumption) | (with_reducible exact Below.refl _ _) | (with_reducible refine below_wov ?_ ?_ _) | (with_reducible refine below_drewN ?_ _) | (with_reducible refine Below.drew ?_) | (with_reducible refine Below.alloc ?_ ?_ _) | (with_reducible refine Below.setCell ?_ ?_ _) | (with_reducible exact Nat.le_refl _) | omega | (simp only [World.size_alloc, World.size_setCell, World.size_drew, Wov_size, World.heap_drewN]; omega)))))
              · skip
                clear HR
                gi_upto_region 10 with (refine ⟨trivial, ?_⟩; gi_at_call 108; refine (callsIn_wide.2 (WT.out _)).mono ?_; rintro e w' ⟨rfl, q4, rfl⟩)
                refine wpIn_world (fun V => J (pre) V ∧ HoldsA V A 6 x) ⟨hJ _ _ _ HJ2.out ?_, ⟨by simp only [World.size_alloc, World.size_drew, World.size_setCell, Wov_size, Array.size_append]; omega, ?_⟩⟩ ?_
                · exact (((((((Chg.wov V2 A q4).trans (Chg.set _ A 0 _)).trans (Chg.set _ A 1 _)).trans (Chg.set _ A 2 _)).trans (Chg.set _ A 3 _)).trans (Chg.set _ A 4 _)).trans (Chg.set _ A 5 _)).trans (Chg.alloc _ A _)
                · have h0 := (HA2.out.below (V := Wov V2 q4) (by (repeat' (first | (with_reducible assumption) | (with_reducible exact Below.refl _ _) | (with_reducible refine below_wov ?_ ?_ _) | (with_reducible refine below_drewN ?_ _) | (with_reducible refine Below.drew ?_) | (with_reducible refine Below.alloc ?_ ?_ _) | (with_reducible refine Below.setCell ?_ ?_ _) | (with_reducible exact Nat.le_refl _) | omega | (simp only [World.size_alloc, World.size_setCell, World.size_drew, Wov_size, World.heap_drewN]; omega))))).holds
                  have h1 := (((((h0.set (a := 0) (by omega) (x 0)).set (a := 1) (by omega) (x 1)).set (a := 2) (by omega) (x 2)).set (a := 3) (by omega) (x 3)).set (a := 4) (by omega) (x 4)).set (a := 5) (by omega) (x 5)
                  refine holds_congr (h1.below ((Below.refl _ _).alloc (Nat.le_refl _) _) (by simp only [World.size_setCell, Wov_size]; omega)) ?_
                  intro i hi
                  rcases six hi with rfl | rfl | rfl | rfl | rfl | rfl <;> rfl
                rintro V3 ⟨hJ3, hA3⟩
                clear a0 a1 a2 a3 a4 a5 az0 az1 az2 az3 az4 az5 la WT
                have la := hA3.lt
                have a0 := (hA3.holds 0 (by omega)).1
                have az0 := (hA3.holds 0 (by omega)).2
                have a1 := (hA3.holds 1 (by omega)).1
                have az1 := (hA3.holds 1 (by omega)).2
                have a2 := (hA3.holds 2 (by omega)).1
                have az2 := (hA3.holds 2 (by omega)).2
                have a3 := (hA3.holds 3 (by omega)).1
                have az3 := (hA3.holds 3 (by omega)).2
                have a4 := (hA3.holds 4 (by omega)).1
                have az4 := (hA3.holds 4 (by omega)).2
                have a5 := (hA3.holds 5 (by omega)).1
                have az5 := (hA3.holds 5 (by omega)).2
                have HJ3 := Lib.hid hJ3
                have HA3 := Lib.hid hA3
                clear hJ3 hA3
                gi_upto_region 10 with (fail)
                gi_cut [58] from 60 (fun s V => s = .bool false ∧ V = V3)
                case first =>
                  gi_wp2_with (refine ⟨(fun f h => by cases h), ?_⟩)
                  all_goals (try gi_wp2_with (fail))
                  all_goals (gi_meet; case rel => exact ⟨rfl, rfl⟩)
                case rest =>
                  obtain ⟨rfl, rfl⟩ := hcut
                  obtain ⟨V3, rfl⟩ : ∃ V, V = wc := ⟨_, rfl⟩
                  gi_wp2
                  refine ⟨⟨t + 1, x, pre, by omega, by go_num, okx, HJ3.out, HA3.out, ?_⟩, by simp [intOf]; omega⟩
                  show _ = _
                  rw [hL.out, hR6]
              · skip
                clear HR
                gi_upto_region 10 with (refine ⟨trivial, ?_⟩; gi_at_call 108; refine (callsIn_wide.2 (WT.out _)).mono ?_; rintro e w' ⟨rfl, q4, rfl⟩)
                refine wpIn_world (fun V => J (pre) V ∧ HoldsA V A 6 x) ⟨hJ _ _ _ HJ2.out ?_, ⟨by simp only [World.size_alloc, World.size_drew, World.size_setCell, Wov_size, Array.size_append]; omega, ?_⟩⟩ ?_
                · exact (((((((Chg.wov V2 A q4).trans (Chg.set _ A 0 _)).trans (Chg.set _ A 1 _)).trans (Chg.set _ A 2 _)).trans (Chg.set _ A 3 _)).trans (Chg.set _ A 4 _)).trans (Chg.set _ A 5 _)).trans (Chg.alloc _ A _)
                · have h0 := (HA2.out.below (V := Wov V2 q4) (by (repeat' (first | (with_reducible assumption) | (with_reducible exact Below.refl _ _) | (with_reducible refine below_wov ?_ ?_ _) | (with_reducible refine below_drewN ?_ _) | (with_reducible refine Below.drew ?_) | (with_reducible refine Below.alloc ?_ ?_ _) | (with_reducible refine Below.setCell ?_ ?_ _) | (with_reducible exact Nat.le_refl _) | omega | (simp only [World.size_alloc, World.size_setCell, World.size_drew, Wov_size, World.heap_drewN]; omega))))).holds
                  have h1 := (((((h0.set (a := 0) (by omega) (x 0)).set (a := 1) (by omega) (x 1)).set (a := 2) (by omega) (x 2)).set (a := 3) (by omega) (x 3)).set (a := 4) (by omega) (x 4)).set (a := 5) (by omega) (x 5)
                  refine holds_congr (h1.below ((Below.refl _ _).alloc (Nat.le_refl _) _) (by simp only [World.size_setCell, Wov_size]; omega)) ?_
                  intro i hi
                  rcases six hi with rfl | rfl | rfl | rfl | rfl | rfl <;> rfl
                rintro V3 ⟨hJ3, hA3⟩
                clear a0 a1 a2 a3 a4 a5 az0 az1 az2 az3 az4 az5 la WT
                have la := hA3.lt
                have a0 := (hA3.holds 0 (by omega)).1
                have az0 := (hA3.holds 0 (by omega)).2
                have a1 := (hA3.holds 1 (by omega)).1
                have az1 := (hA3.holds 1 (by omega)).2
                have a2 := (hA3.holds 2 (by omega)).1
                have az2 := (hA3.holds 2 (by omega)).2
                have a3 := (hA3.holds 3 (by omega)).1
                have az3 := (hA3.holds 3 (by omega)).2
                have a4 := (hA3.holds 4 (by omega)).1
                have az4 := (hA3.holds 4 (by omega)).2
                have a5 := (hA3.holds 5 (by omega)).1
                have az5 := (hA3.holds 5 (by omega)).2
                have HJ3 := Lib.hid hJ3
                have HA3 := Lib.hid hA3
                clear hJ3 hA3
                obtain ⟨fn, tmps, assign, body, hy, hR⟩ := hY pre (x, 8) V3 HJ3.out fx (partsZ_lt (hL.out.trans (by rw [hR6])))
                unfold encP zoneV at hy
                simp only at hy
                have hR' : RoundIn Fence.wide 1 Try.prog l fn tmps assign body V3 fun e W' => ∃ t, e = .returned (.bool t) ∧ Hid ((t = true ∧ (8 : Int) = 0 ∧ J (pre ++ [(x, 8)]) W' ∧ KeepA A V3 W') ∨ (t = false ∧ Jx (pre ++ [(x, 8)]) W')) :=
                  hR.mono fun e W' he => by
                    rcases he with ⟨h0, he, h1, h2⟩ | ⟨he, h1⟩
                    · exact ⟨true, he, .inl ⟨rfl, h0, h1, h2⟩⟩
                    · exact ⟨false, he, .inr ⟨rfl, h1⟩⟩
                clear hR
                gi_wp2_with (fail)
                refine hR'.mono ?_
                rintro e W3 ⟨tt, rfl, htt⟩
                cases tt
                · skip
                  obtain hJx3 : Jx (pre ++ [(x, 8)]) W3 := by
                    rcases htt.out with ⟨h, _⟩ | ⟨_, h⟩
                    · cases h
                    · exact h
                  clear htt
                  gi_wp2
                  refine bodyPost_ret (results_none rfl _ _ _) rfl ?_
                  exact ⟨⟨_, rfl⟩, .inr ⟨pre, (x, 8), _, (by rw [hL.out, hR6]), hJx3⟩⟩
                · skip
                  exfalso
                  rcases htt.out with ⟨_, h, _⟩ | ⟨h, _⟩
                  · exact absurd h (by decide)
                  · cases h
          · skip
            have hL : Hid (partsZ 6 0 a b = pre ++ (y, 0) :: R) := by
              show _ = _
              rw [← hP3, if_neg (by decide)]; rfl
            clear hP3
            obtain ⟨fn, tmps, assign, body, hy, hR⟩ := hY pre (y, 0) V2 HJ2.out fy (partsZ_lt hL.out)
            unfold encP zoneV at hy
            simp only at hy
            have hR' : RoundIn Fence.wide 1 Try.prog l fn tmps assign body V2 fun e W' => ∃ t, e = .returned (.bool t) ∧ Hid ((t = true ∧ (0 : Int) = 0 ∧ J (pre ++ [(y, 0)]) W' ∧ KeepA A V2 W') ∨ (t = false ∧ Jx (pre ++ [(y, 0)]) W')) :=
              hR.mono fun e W' he => by
                rcases he with ⟨h0, he, h1, h2⟩ | ⟨he, h1⟩
                · exact ⟨true, he, .inl ⟨rfl, h0, h1, h2⟩⟩
                · exact ⟨false, he, .inr ⟨rfl, h1⟩⟩
            clear hR
            gi_wp2_with (fail)
            refine hR'.mono ?_
            rintro e W3 ⟨tt, rfl, htt⟩
            cases tt
            · skip
              clear HR WT
              obtain hJx3 : Jx (pre ++ [(y, 0)]) W3 := by
                rcases htt.out with ⟨h, _⟩ | ⟨_, h⟩
                · cases h
                · exact h
              clear htt
              gi_wp2
              refine bodyPost_ret (results_none rfl _ _ _) rfl ?_
              exact ⟨⟨_, rfl⟩, .inr ⟨pre, (y, 0), _, hL.out, hJx3⟩⟩
            · skip
              obtain ⟨hJ3, hk3⟩ : J (pre ++ [(y, 0)]) W3 ∧ KeepA A V2 W3 := by
                rcases htt.out with ⟨_, _, h⟩ | ⟨h, _⟩
                · exact h
                · cases h
              have hA3 := HA2.out.keep hk3
              clear htt hk3 hR' hy a0 a1 a2 a3 a4 a5 az0 az1 az2 az3 az4 az5 la y0 y1 y2 y3 y4 y5 lY HJ2 HA2
              replace hL : Hid (partsZ 6 0 a b = (pre ++ [(y, 0)]) ++ R) := by
                show _ = _
                rw [hL.out, List.append_assoc]; rfl
              have la := hA3.lt
              have a0 := (hA3.holds 0 (by omega)).1
              have az0 := (hA3.holds 0 (by omega)).2
              have a1 := (hA3.holds 1 (by omega)).1
              have az1 := (hA3.holds 1 (by omega)).2
              have a2 := (hA3.holds 2 (by omega)).1
              have az2 := (hA3.holds 2 (by omega)).2
              have a3 := (hA3.holds 3 (by omega)).1
              have az3 := (hA3.holds 3 (by omega)).2
              have a4 := (hA3.holds 4 (by omega)).1
              have az4 := (hA3.holds 4 (by omega)).2
              have a5 := (hA3.holds 5 (by omega)).1
              have az5 := (hA3.holds 5 (by omega)).2
              have HJ3' := Lib.hid hJ3
              have HA3' := Lib.hid hA3
              clear hJ3 hA3
              rcases HR.out with ⟨rfl, hR6⟩ | ⟨rfl, okx, hR6⟩ | ⟨rfl, fx, hR6⟩
              · skip
                clear HR
                gi_wp2_with (refine ⟨trivial, ?_⟩; gi_at_call 108; refine (callsIn_wide.2 (WT.out _)).mono ?_; rintro e w' ⟨rfl, q4, rfl⟩)
                refine bodyPost_ret (results_none rfl _ _ _) rfl ?_
                refine ⟨⟨_, rfl⟩, .inl ?_⟩
                rw [hL.out, hR6, List.append_nil]
                exact hJ _ _ _ HJ3'.out (Chg.of_below (by (repeat' (first | (with_reducible assumption) | (with_reducible exact Below.refl _ _) | (with_reducible refine below_wov ?_ ?_ _) | (with_reducible refine below_drewN ?_ _) | (with_reducible refine Below.drew ?_) | (with_reducible refine Below.alloc ?_ ?_ _) | (with_reducible refine Below.setCell ?_ ?_ _) | (with_reducible exact Nat.le_refl _) | omega | (simp only [World.size_alloc, World.size_setCell, World.size_drew, Wov_size, World.heap_drewN]; omega)))))
              · skip
                clear HR
                gi_upto_region 10 with (refine ⟨trivial, ?_⟩; gi_at_call 108; refine (callsIn_wide.2 (WT.out _)).mono ?_; rintro e w' ⟨rfl, q4, rfl⟩)
                refine wpIn_world (fun V => J ((pre ++ [(y, 0)])) V ∧ HoldsA V A 6 x) ⟨hJ _ _ _ HJ3'.out ?_, ⟨by simp only [World.size_alloc, World.size_drew, World.size_setCell, Wov_size, Array.size_append]; omega, ?_⟩⟩ ?_
                · exact (((((((Chg.wov W3 A q4).trans (Chg.set _ A 0 _)).trans (Chg.set _ A 1 _)).trans (Chg.set _ A 2 _)).trans (Chg.set _ A 3 _)).trans (Chg.set _ A 4 _)).trans (Chg.set _ A 5 _)).trans (Chg.alloc _ A _)
                · have h0 := (HA3'.out.below (V := Wov W3 q4) (by (repeat' (first | (with_reducible assumption) | (with_reducible exact Below.refl _ _) | (with_reducible refine below_wov ?_ ?_ _) | (with_reducible refine below_drewN ?_ _) | (with_reducible refine Below.drew ?_) | (with_reducible refine Below.alloc ?_ ?_ _) | (with_reducible refine Below.setCell ?_ ?_ _) | (with_reducible exact Nat.le_refl _) | omega | (simp only [World.size_alloc, World.size_setCell, World.size_drew, Wov_size, World.heap_drewN]; omega))))).holds
                  have h1 := (((((h0.set (a := 0) (by omega) (x 0)).set (a := 1) (by omega) (x 1)).set (a := 2) (by omega) (x 2)).set (a := 3) (by omega) (x 3)).set (a := 4) (by omega) (x 4)).set (a := 5) (by omega) (x 5)
                  refine holds_congr (h1.below ((Below.refl _ _).alloc (Nat.le_refl _) _) (by simp only [World.size_setCell, Wov_size]; omega)) ?_
                  intro i hi
                  rcases six hi with rfl | rfl | rfl | rfl | rfl | rfl <;> rfl
                rintro V3 ⟨hJ3, hA3⟩
                clear a0 a1 a2 a3 a4 a5 az0 az1 az2 az3 az4 az5 la WT
                have la := hA3.lt
                have a0 := (hA3.holds 0 (by omega)).1
                have az0 := (hA3.holds 0 (by omega)).2
                have a1 := (hA3.holds 1 (by omega)).1
                have az1 := (hA3.holds 1 (by omega)).2
                have a2 := (hA3.holds 2 (by omega)).1
                have az2 := (hA3.holds 2 (by omega)).2
                have a3 := (hA3.holds 3 (by omega)).1
                have az3 := (hA3.holds 3 (by omega)).2
                have a4 := (hA3.holds 4 (by omega)).1
                have az4 := (hA3.holds 4 (by omega)).2
                have a5 := (hA3.holds 5 (by omega)).1
                have az5 := (hA3.holds 5 (by omega)).2
                have HJ3 := Lib.hid hJ3
                have HA3 := Lib.hid hA3
                clear hJ3 hA3
                gi_upto_region 10 with (fail)
                gi_cut [58] from 60 (fun s V => s = .bool false ∧ V = V3)
                case first =>
                  gi_wp2_with (refine ⟨(fun f h => by cases h), ?_⟩)
                  all_goals (try gi_wp2_with (fail))
                  all_goals (gi_meet; case rel => exact ⟨rfl, rfl⟩)
                case rest =>
                  obtain ⟨rfl, rfl⟩ := hcut
                  obtain ⟨V3, rfl⟩ : ∃ V, V = wc := ⟨_, rfl⟩
                  gi_wp2
                  refine ⟨⟨t + 1, x, (pre ++ [(y, 0)]), by omega, by go_num, okx, HJ3.out, HA3.out, ?_⟩, by simp [intOf]; omega⟩
                  show _ = _
                  rw [hL.out, hR6]
              · skip
                clear HR
                gi_upto_region 10 with (refine ⟨trivial, ?_⟩; gi_at_call 108; refine (callsIn_wide.2 (WT.out _)).mono ?_; rintro e w' ⟨rfl, q4, rfl⟩)
                refine wpIn_world (fun V => J ((pre ++ [(y, 0)])) V ∧ HoldsA V A 6 x) ⟨hJ _ _ _ HJ3'.out ?_, ⟨by simp only [World.size_alloc, World.size_drew, World.size_setCell, Wov_size, Array.size_append]; omega, ?_⟩⟩ ?_
                · exact (((((((Chg.wov W3 A q4).trans (Chg.set _ A 0 _)).trans (Chg.set _ A 1 _)).trans (Chg.set _ A 2 _)).trans (Chg.set _ A 3 _)).trans (Chg.set _ A 4 _)).trans (Chg.set _ A 5 _)).trans (Chg.alloc _ A _)
                · have h0 := (HA3'.out.below (V := Wov W3 q4) (by (repeat' (first | (with_reducible assumption) | (with_reducible exact Below.refl _ _) | (with_reducible refine below_wov ?_ ?_ _) | (with_reducible refine below_drewN ?_ _) | (with_reducible refine Below.drew ?_) | (with_reducible refine Below.alloc ?_ ?_ _) | (with_reducible refine Below.setCell ?_ ?_ _) | (with_reducible exact Nat.le_refl _) | omega | (simp only [World.size_alloc, World.size_setCell, World.size_drew, Wov_size, World.heap_drewN]; omega))))).holds
                  have h1 := (((((h0.set (a := 0) (by omega) (x 0)).set (a := 1) (by omega) (x 1)).set (a := 2) (by omega) (x 2)).set (a := 3) (by omega) (x 3)).set (a := 4) (by omega) (x 4)).set (a := 5) (by omega) (x 5)
                  refine holds_congr (h1.below ((Below.refl _ _).alloc (Nat.le_refl _) _) (by simp only [World.size_setCell, Wov_size]; omega)) ?_
                  intro i hi
                  rcases six hi with rfl | rfl | rfl | rfl | rfl | rfl <;> rfl
                rintro V3 ⟨hJ3, hA3⟩
                clear a0 a1 a2 a3 a4 a5 az0 az1 az2 az3 az4 az5 la WT
                have la := hA3.lt
                have a0 := (hA3.holds 0 (by omega)).1
                have az0 := (hA3.holds 0 (by omega)).2
                have a1 := (hA3.holds 1 (by omega)).1
                have az1 := (hA3.holds 1 (by omega)).2
                have a2 := (hA3.holds 2 (by omega)).1
                have az2 := (hA3.holds 2 (by omega)).2
                have a3 := (hA3.holds 3 (by omega)).1
                have az3 := (hA3.holds 3 (by omega)).2
                have a4 := (hA3.holds 4 (by omega)).1
                have az4 := (hA3.holds 4 (by omega)).2
                have a5 := (hA3.holds 5 (by omega)).1
                have az5 := (hA3.holds 5 (by omega)).2
                have HJ3 := Lib.hid hJ3
                have HA3 := Lib.hid hA3
                clear hJ3 hA3
                obtain ⟨fn, tmps, assign, body, hy, hR⟩ := hY (pre ++ [(y, 0)]) (x, 8) V3 HJ3.out fx (partsZ_lt (hL.out.trans (by rw [hR6])))
                unfold encP zoneV at hy
                simp only at hy
                have hR' : RoundIn Fence.wide 1 Try.prog l fn tmps assign body V3 fun e W' => ∃ t, e = .returned (.bool t) ∧ Hid ((t = true ∧ (8 : Int) = 0 ∧ J ((pre ++ [(y, 0)]) ++ [(x, 8)]) W' ∧ KeepA A V3 W') ∨ (t = false ∧ Jx ((pre ++ [(y, 0)]) ++ [(x, 8)]) W')) :=
                  hR.mono fun e W' he => by
                    rcases he with ⟨h0, he, h1, h2⟩ | ⟨he, h1⟩
                    · exact ⟨true, he, .inl ⟨rfl, h0, h1, h2⟩⟩
                    · exact ⟨false, he, .inr ⟨rfl, h1⟩⟩
                clear hR
                gi_wp2_with (fail)
                refine hR'.mono ?_
                rintro e W3 ⟨tt, rfl, htt⟩
                cases tt
                · skip
                  obtain hJx3 : Jx ((pre ++ [(y, 0)]) ++ [(x, 8)]) W3 := by
                    rcases htt.out with ⟨h, _⟩ | ⟨_, h⟩
                    · cases h
                    · exact h
                  clear htt
                  gi_wp2
                  refine bodyPost_ret (results_none rfl _ _ _) rfl ?_
                  exact ⟨⟨_, rfl⟩, .inr ⟨(pre ++ [(y, 0)]), (x, 8), _, (by rw [hL.out, hR6]), hJx3⟩⟩
                · skip
                  exfalso
                  rcases htt.out with ⟨_, h, _⟩ | ⟨h, _⟩
                  · exact absurd h (by decide)
                  · cases h
          · skip
            have hL : Hid (partsZ 6 0 a b = pre ++ (y, 8) :: R) := by
              show _ = _
              rw [← hP3, if_neg (by decide)]; rfl
            clear hP3
            obtain ⟨fn, tmps, assign, body, hy, hR⟩ := hY pre (y, 8) V2 HJ2.out fy (partsZ_lt hL.out)
            unfold encP zoneV at hy
            simp only at hy
            have hR' : RoundIn Fence.wide 1 Try.prog l fn tmps assign body V2 fun e W' => ∃ t, e = .returned (.bool t) ∧ Hid ((t = true ∧ (8 : Int) = 0 ∧ J (pre ++ [(y, 8)]) W' ∧ KeepA A V2 W') ∨ (t = false ∧ Jx (pre ++ [(y, 8)]) W')) :=
              hR.mono fun e W' he => by
                rcases he with ⟨h0, he, h1, h2⟩ | ⟨he, h1⟩
                · exact ⟨true, he, .inl ⟨rfl, h0, h1, h2⟩⟩
                · exact ⟨false, he, .inr ⟨rfl, h1⟩⟩
            clear hR
            gi_wp2_with (fail)
            refine hR'.mono ?_
            rintro e W3 ⟨tt, rfl, htt⟩
            cases tt
            · skip
              clear HR WT
              obtain hJx3 : Jx (pre ++ [(y, 8)]) W3 := by
                rcases htt.out with ⟨h, _⟩ | ⟨_, h⟩
                · cases h
                · exact h
              clear htt
              gi_wp2
              refine bodyPost_ret (results_none rfl _ _ _) rfl ?_
              exact ⟨⟨_, rfl⟩, .inr ⟨pre, (y, 8), _, hL.out, hJx3⟩⟩
            · skip
              exfalso
              rcases htt.out with ⟨_, h, _⟩ | ⟨h, _⟩
              · exact absurd h (by decide)
              · cases h
    · obtain rfl : t = 6 := by omega
      gi_wp2
      go_end0
      refine ⟨⟨_, rfl⟩, .inl ?_⟩
      have := hP.out
      rw [Nat.sub_self, show partsZ 0 6 z b = [] from rfl, List.append_nil] at this
      rw [← this]
      exact hJs
end Go.Proofs.Ytbgbhfcnadjhdaa
