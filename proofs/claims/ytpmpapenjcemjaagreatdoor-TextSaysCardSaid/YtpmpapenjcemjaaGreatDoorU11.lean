/- Zones' texts: contract of text.Parse. No condition but on size, and that strconv.ErrRange lies. -/
import Derived.Test.YtpmpapenjcemjaaGreatDoorU9
import Derived.Test.YtpmpapenjcemjaaGreatDoorU10
import Derived.RangeFuncBox
namespace Go.Proofs.YtpmpapenjcemjaaGreatDoor
set_option linter.unusedSimpArgs false
set_option linter.unusedVariables false
open Go Go.RowKit Go.Shelf
attribute [local go_sem] Oper.semAt_some Nat.add_assoc Nat.add_lt_add_iff_left lit_lt_add

/-- How far texts go, with a blank behind each. -/
def atT : List (List UInt8) → Int
  | [] => 0
  | s :: r => (s.length + 1) + atT r
theorem atT_snoc (x : List UInt8) : ∀ p : List (List UInt8), atT (p ++ [x]) = atT p + (x.length + 1)
  | [] => by simp [atT]
  | s :: r => by rw [List.cons_append, atT, atT, atT_snoc x r]; omega
theorem atT_app : ∀ p q : List (List UInt8), atT (p ++ q) = atT p + atT q
  | [], q => by simp [atT]
  | s :: r, q => by rw [List.cons_append, atT, atT, atT_app r q]; omega
theorem atT_pos : ∀ p : List (List UInt8), 0 ≤ atT p
  | [] => Int.le_refl _
  | s :: r => by unfold atT; have := atT_pos r; omega
theorem atT_join (c : UInt8) : ∀ p : List (List UInt8), p ≠ [] → atT p = (Lib.join p [c]).length + 1
  | [], h => absurd rfl h
  | [x], _ => by rw [join_single]; simp [atT]
  | x :: y :: r, _ => by
    rw [join_cons _ _ (by simp), atT, atT_join c (y :: r) (by simp)]
    simp only [List.length_append, List.length_cons, List.length_nil]
    omega
theorem atT_le {s : List UInt8} {p q : List (List UInt8)} (h : splitB 32 s = p ++ q) : 0 ≤ atT p ∧ atT p ≤ s.length + 1 := by
  have h1 := atT_join 32 (splitB 32 s) (splitB_ne 32 s)
  rw [split_join, h, atT_app] at h1
  have := atT_pos p
  have := atT_pos q
  omega
theorem read_all : ∀ (P : List (List UInt8)) (n : Int) (acc : List (Nat → Int)), (∀ x, x ∈ P → zoneE x = 0) → readT P n acc = (acc ++ P.map zoneZ, 0, 0)
  | [], n, acc, _ => by simp [readT]
  | x :: P, n, acc, h => by
    unfold readT
    rw [if_pos (h x (List.mem_cons_self ..)), read_all P _ _ (fun y hy => h y (List.mem_cons_of_mem _ hy))]
    simp
theorem read_err (x : List UInt8) (rest : List (List UInt8)) (hx : zoneE x ≠ 0) : ∀ (pre : List (List UInt8)) (n : Int) (acc : List (Nat → Int)), (∀ y, y ∈ pre → zoneE y = 0) → readT (pre ++ x :: rest) n acc = ([], n + atT pre, zoneE x)
  | [], n, acc, _ => by
    show readT (x :: rest) n acc = _
    unfold readT
    rw [if_neg hx]
    simp [atT]
  | y :: P, n, acc, h => by
    rw [List.cons_append]
    unfold readT
    rw [if_pos (h y (List.mem_cons_self ..)), read_err x rest hx P _ _ (fun z hz => h z (List.mem_cons_of_mem _ hz)), atT]
    congr 2
    omega
/-- What Parse hands back: zones of its own, a place, an error. -/
def zpC (w : World) (r : List (Nat → Int) × Int × Int) (e : Ending) (W : World) : Prop := (∃ p c, e = .returned (.tuple #[.slice p r.1.length c, .int .i64 r.2.1, .int .i64 r.2.2]) ∧ (p = none → c = 0) ∧ OwnZ w W p r.1) ∧ ∃ q, W = Wov w q
theorem boxedS_turn {n A : Nat} {W V : World} {B : Nat} {t : TypeId} {v : Value} (h : Boxed W B t v) (hb : TurnS n A W V) (hB : B < n) (hA : B ≠ A) : Boxed V B t v := (hb.block B h.lt hA (fun h' => by omega)).trans h
theorem rowS_turn {n A : Nat} {W V : World} {e : TypeId} {v : Value} {k s : Nat} {xs : List Value} (h : W.ownsRow n e s v k xs) (hb : TurnS n A W V) (hA : A < n) : V.ownsRow n e s v k xs := by
  refine ⟨h.1, ?_⟩
  rcases h.2 with h0 | ⟨g, cap, cur, h1, h2, h3, h4⟩
  · exact .inl h0
  · exact .inr ⟨g, cap, cur, h1, h2, (hb.block g (Array.getElem?_eq_some_iff.1 h3).1 (by omega) (fun _ o ho => by rw [h3] at ho; cases ho; rfl)).trans h3, h4⟩
theorem belowS_turn {m n A : Nat} {w W V : World} (h : Below m w W) (hb : TurnS n A W V) (hm : m ≤ w.heap.size) (hA : m ≤ A) (hn : m ≤ n) : Below m w V :=
  ⟨hb.os.trans h.os, hb.tape.trans h.tape, hb.output.trans h.output, Nat.le_trans h.size hb.size, fun k hk => (hb.block k (Nat.lt_of_lt_of_le hk (Nat.le_trans hm h.size)) (by omega) (fun h' => by omega)).trans (h.block k hk)⟩
theorem rowS_base {W : World} {m n : Nat} {e : TypeId} {v : Value} {k s : Nat} {xs : List Value} (h : W.ownsRow n e s v k xs) (hm : m ≤ n) : W.ownsRow m e s v k xs := by
  refine ⟨h.1, ?_⟩
  rcases h.2 with h0 | ⟨g, cap, cur, h1, h2, h3⟩
  · exact .inl h0
  · exact .inr ⟨g, cap, cur, h1, Nat.le_trans hm h2, h3⟩
theorem cellS_six_new (W : World) (t : TypeId) (a b c d e f : Int) : ∀ j u, [Value.int .i64 a, .int .i64 b, .int .i64 c, .int .i64 d, .int .i64 e, .int .i64 f][j]? = some u → (W.alloc (.cells #[.int .i64 a, .int .i64 b, .int .i64 c, .int .i64 d, .int .i64 e, .int .i64 f] t)).cell? ((⟨W.heap.size, 0, none⟩ : Addr).add j) = some u := by
  intro j u h
  have hj : j < 6 := by
    have := (List.getElem?_eq_some_iff.1 h).1
    simpa using this
  rcases six hj with rfl | rfl | rfl | rfl | rfl | rfl <;> (simp at h; subst h; simp [go_sem, Addr.add])
/-- What holds between two rounds. -/
structure ParI (w : World) (n : Nat) (pre : List (List UInt8)) (W : World) : Prop where
  zero : ∀ x, x ∈ pre → zoneE x = 0
  below : Below w.heap.size w W
  row : ∃ v, Boxed W w.heap.size 36 v ∧ W.ownsRow n 49 6 v pre.length (cellsZ (pre.map zoneZ))
  at_ : Boxed W (w.heap.size + 1) 3 (.int .i64 (atT pre))
  far : atT pre ≤ (pre.length : Int) * 1100001
  err : Boxed W (w.heap.size + 2) 25 (.int .i64 0)
  big : n ≤ W.heap.size
/-- What holds where a round has ended the call. -/
structure ParX (w : World) (pre : List (List UInt8)) (W : World) : Prop where
  last : ∃ p x, pre = p ++ [x] ∧ (∀ y, y ∈ p → zoneE y = 0) ∧ zoneE x ≠ 0 ∧ Boxed W (w.heap.size + 1) 3 (.int .i64 (atT p)) ∧ Boxed W (w.heap.size + 2) 25 (.int .i64 (zoneE x))
  below : Below w.heap.size w W
  row : Boxed W w.heap.size 36 (.slice none 0 0)
set_option maxRecDepth 10000 in
set_option maxHeartbeats 2000000 in
theorem parse_early (S : ByteArray) (w : World) (e : Int) (hS : Pure Tryz.prog 32 #[.string S, .string ⟨#[32]⟩] (.int .i64 0) ∨ True)
    (h : (1048576 < S.size ∧ e = 3) ∨ (S.size = 0 ∧ S.toList.isEmpty = true ∧ e = 0)) : Calls Tryz.prog 15 #[.string S] w (zpC w ([], 0, e)) := by
  unfold zpC
  clear hS
  rcases h with ⟨h, rfl⟩ | ⟨h, h2, rfl⟩
  · have h1 : (1048576 : Int) < (S.size : Int) := by omega
    have d1 : decide ((1048576 : Int) < (S.size : Int)) = true := decide_eq_true h1
    clear h h1
    go_enter Tryz.func15, Tryz.ntmps15
    go_wp2
    go_returns
    exact ⟨⟨none, 0, rfl, fun _ => rfl, .inl rfl⟩, Wov_of_below (by (repeat' (first | (with_reducible assumption) | (with_reducible exact Below.refl _ _) | (with_reducible refine below_wov ?_ ?_ _) | (with_reducible refine below_drewN ?_ _) | (with_reducible refine Below.drew ?_) | (with_reducible refine Below.alloc ?_ ?_ _) | (with_reducible refine Below.setCell ?_ ?_ _) | (with_reducible exact Nat.le_refl _) | omega | (simp only [World.size_alloc, World.size_setCell, World.size_drew, Wov_size, World.heap_drewN]; omega))))⟩
  · have h1 : ¬ (1048576 : Int) < (S.size : Int) := by omega
    have d1 : decide ((1048576 : Int) < (S.size : Int)) = false := decide_eq_false h1
    clear h1
    go_enter Tryz.func15, Tryz.ntmps15
    go_wp2
    go_returns
    exact ⟨⟨none, 0, rfl, fun _ => rfl, .inl rfl⟩, Wov_of_below (by (repeat' (first | (with_reducible assumption) | (with_reducible exact Below.refl _ _) | (with_reducible refine below_wov ?_ ?_ _) | (with_reducible refine below_drewN ?_ _) | (with_reducible refine Below.drew ?_) | (with_reducible refine Below.alloc ?_ ?_ _) | (with_reducible refine Below.setCell ?_ ?_ _) | (with_reducible exact Nat.le_refl _) | omega | (simp only [World.size_alloc, World.size_setCell, World.size_drew, Wov_size, World.heap_drewN]; omega))))⟩
set_option maxRecDepth 10000 in
set_option maxHeartbeats 2000000 in
theorem parse_many (S : ByteArray) (w : World) (k : Nat) (CN : Hid (Pure Tryz.prog 32 #[.string S, .string ⟨#[32]⟩] (.int .i64 k))) (h1 : S.size ≤ 1048576) (h2 : S.toList.isEmpty = false) (hk : 4096 ≤ k) : Calls Tryz.prog 15 #[.string S] w (zpC w ([], 0, 4)) := by
  unfold zpC
  have d1 : decide ((1048576 : Int) < (S.size : Int)) = false := decide_eq_false (by omega)
  have d2 : decide ((4096 : Int) ≤ (k : Int)) = true := decide_eq_true (by omega)
  clear h1 hk
  go_enter Tryz.func15, Tryz.ntmps15
  go_wp2_with (fail)
  refine (CN.out _).mono ?_; rintro e w' ⟨rfl, q1, rfl⟩
  go_wp2
  go_returns
  exact ⟨⟨none, 0, rfl, fun _ => rfl, .inl rfl⟩, Wov_of_below (by (repeat' (first | (with_reducible assumption) | (with_reducible exact Below.refl _ _) | (with_reducible refine below_wov ?_ ?_ _) | (with_reducible refine below_drewN ?_ _) | (with_reducible refine Below.drew ?_) | (with_reducible refine Below.alloc ?_ ?_ _) | (with_reducible refine Below.setCell ?_ ?_ _) | (with_reducible exact Nat.le_refl _) | omega | (simp only [World.size_alloc, World.size_setCell, World.size_drew, Wov_size, World.heap_drewN]; omega))))⟩
theorem ParI.grow {w W V : World} {n : Nat} {pre : List (List UInt8)} (h : ParI w n pre W) (hb : Below W.heap.size W V) : ParI w n pre V := by
  obtain ⟨v, hv, hr⟩ := h.row
  exact ⟨h.zero, h.below.trans (hb.mono h.below.size), ⟨v, boxS_below hv hb, rowS_below hr hb⟩, boxS_below h.at_ hb, h.far, boxS_below h.err hb, Nat.le_trans h.big hb.size⟩
theorem keepW_below {W V : World} {A : Nat} (hA : A < W.heap.size) (hb : Below W.heap.size W V) : KeepW A W V := ⟨hb.block A hA, hb.size⟩
theorem KeepW.trans {W V X : World} {A : Nat} (h : KeepW A W V) (g : KeepW A V X) : KeepW A W X := ⟨g.1.trans h.1, Nat.le_trans h.2 g.2⟩
theorem keepsOthers_below {W V : World} (hb : Below W.heap.size W V) : KeepsOthers W V := ⟨hb.size, fun k o hk _ => (hb.block k (Array.getElem?_eq_some_iff.1 hk).1).trans hk⟩
theorem wrap_at (aT : Int) (mx n : Nat) (h0 : 0 ≤ aT) (h1 : aT ≤ (n : Int) * 1100001) (hn : n < 4096) (hm : mx ≤ 1100000) : wrap64 ((mx : Int) + 1) = (mx : Int) + 1 ∧ wrap64 (aT + ((mx : Int) + 1)) = aT + ((mx : Int) + 1) ∧ aT + ((mx : Int) + 1) ≤ ((n : Int) + 1) * 1100001 :=
  ⟨wrap64_id (by omega) (by omega), wrap64_id (by omega) (by omega), by omega⟩
theorem infoZ6 : ∃ i0, Tryz.prog.info? 49 = some i0 ∧ i0.size = 6 ∧ i0.bytes = 48 ∧ i0.zero = some (.agg #[.int .i64 0, .int .i64 0, .int .i64 0, .int .i64 0, .int .i64 0, .int .i64 0]) := by
  have h1 := infoZ
  have h2 := infoZz
  cases h : Tryz.prog.info? 49 with
  | none => rw [h] at h1; cases h1
  | some i => rw [h] at h1 h2; simp at h1 h2; exact ⟨i, rfl, h1.1, h1.2, h2⟩
theorem parX_end {w W W4 : World} {n : Nat} {pre : List (List UInt8)} {x : List UInt8} {aT E : Int} {v : Value} (hT : aT = atT pre) (hE : E = zoneE x) (hne : E ≠ 0) (hI : ParI w n pre W4)
    (hv : Boxed W4 w.heap.size 36 v) (ha : Boxed W4 (w.heap.size + 1) 3 (.int .i64 (atT pre))) (hb : Below W.heap.size W W4) :
    KeepsOthers W (((W4.setCell ⟨w.heap.size, 0, none⟩ (.slice none 0 0)).setCell ⟨w.heap.size + 1, 0, none⟩ (.int .i64 aT)).setCell ⟨w.heap.size + 2, 0, none⟩ (.int .i64 E)).drew ∧
    ParX w (pre ++ [x]) (((W4.setCell ⟨w.heap.size, 0, none⟩ (.slice none 0 0)).setCell ⟨w.heap.size + 1, 0, none⟩ (.int .i64 aT)).setCell ⟨w.heap.size + 2, 0, none⟩ (.int .i64 E)).drew := by
  subst hT hE
  obtain ⟨V3, hV3⟩ : ∃ V, ((W4.setCell ⟨w.heap.size, 0, none⟩ (.slice none 0 0)).setCell ⟨w.heap.size + 1, 0, none⟩ (.int .i64 (atT pre))).setCell ⟨w.heap.size + 2, 0, none⟩ (.int .i64 (zoneE x)) = V := ⟨_, rfl⟩
  have b2 : Boxed V3 w.heap.size 36 (.slice none 0 0) := by
    rw [← hV3]; exact ((hv.set _).kept (grownBy_setCell' _ (w.heap.size + 1) _) (fun h => by injection h with h; omega)).kept (grownBy_setCell' _ (w.heap.size + 2) _) (fun h => by injection h with h; omega)
  have b3 : Boxed V3 (w.heap.size + 1) 3 (.int .i64 (atT pre)) := by
    rw [← hV3]; exact ((ha.kept (grownBy_setCell' W4 w.heap.size _) (fun h => by injection h with h; omega)).set _).kept (grownBy_setCell' _ (w.heap.size + 2) _) (fun h => by injection h with h; omega)
  have b4 : Boxed V3 (w.heap.size + 2) 25 (.int .i64 (zoneE x)) := by
    rw [← hV3]; exact ((hI.err.kept (grownBy_setCell' W4 w.heap.size _) (fun h => by injection h with h; omega)).kept (grownBy_setCell' _ (w.heap.size + 1) _) (fun h => by injection h with h; omega)).set _
  have hbl : Below w.heap.size w V3 := by
    rw [← hV3]; exact ((hI.below.setCell (p := ⟨w.heap.size, 0, none⟩) (by simp) _).setCell (p := ⟨w.heap.size + 1, 0, none⟩) (by simp) _).setCell (p := ⟨w.heap.size + 2, 0, none⟩) (by simp) _
  have hk : KeepsOthers W V3 := by
    rw [← hV3]; exact (keepsOthers_below hb).trans (((KeepsOthers.setCell _ _ _).trans (KeepsOthers.setCell _ _ _)).trans (KeepsOthers.setCell _ _ _))
  rw [hV3]
  have dr : ∀ {B : Nat} {t : TypeId} {u : Value}, Boxed V3 B t u → Boxed V3.drew B t u := fun h => h
  exact ⟨hk.trans (KeepsOthers.drew _), ⟨⟨pre, x, rfl, hI.zero, hne, dr b3, dr b4⟩, by (repeat' (first | (with_reducible assumption) | (with_reducible exact Below.refl _ _) | (with_reducible refine below_wov ?_ ?_ _) | (with_reducible refine below_drewN ?_ _) | (with_reducible refine Below.drew ?_) | (with_reducible refine Below.alloc ?_ ?_ _) | (with_reducible refine Below.setCell ?_ ?_ _) | (with_reducible exact Nat.le_refl _) | omega | (simp only [World.size_alloc, World.size_setCell, World.size_drew, Wov_size, World.heap_drewN]; omega))), dr b2⟩⟩
theorem cellsZ_single {z y : Nat → Int} (h : ∀ i, i < 6 → z i = y i) : [Value.int .i64 (z 0), .int .i64 (z 1), .int .i64 (z 2), .int .i64 (z 3), .int .i64 (z 4), .int .i64 (z 5)] = cellsZ [y] := by
  rw [h 0 (by omega), h 1 (by omega), h 2 (by omega), h 3 (by omega), h 4 (by omega), h 5 (by omega)]
  rfl
set_option maxRecDepth 100000 in
set_option maxHeartbeats 8000000 in
theorem parse_in (l : List UInt8) (hl : l.length ≤ 900000) (hne : l ≠ []) (hc : l.count 32 < 4096) (w : World) (hv : ErrR w) :
    CallsIn Fence.wide 3 Tryz.prog 15 #[.string (bs l)] w (zpC w (readT (splitB 32 l) 0 [])) := by
  obtain ⟨⟨RL, RA, RE⟩, hR⟩ : ∃ R, Hid (R = readT (splitB 32 l) 0 []) := ⟨_, rfl⟩
  rw [← hR.out]
  unfold zpC
  dsimp only
  have CN := Lib.hid (count_any l 32)
  have SP := Lib.hid (splitSeq_any l)
  have ON : Hid (∀ x W, x ∈ splitB 32 l → Below w.heap.size w W → Calls Tryz.prog 34 #[.string (bs x)] W (fun e w' => ∃ z : Nat → Int, Gives W (.tuple #[zoneV z, .int .i64 (zoneE x)]) e w' ∧ FitsZ z ∧ (zoneE x = 0 → ∀ i, i < 6 → z i = zoneZ x i))) := fun x W hx hb => tone_any x (by have := split_mem_len hx; omega) W (hv.below hb)
  have d1 : decide ((1048576 : Int) < ((bs l).size : Int)) = false := by rw [bs_size]; exact decide_eq_false (by omega)
  have d2 : (bs l).toList.isEmpty = false := by
    rw [Lib.toList_data, bs_list]
    cases l with
    | nil => exact absurd rfl hne
    | cons => rfl
  have d3 : decide ((4096 : Int) ≤ ((l.count 32 : Nat) : Int)) = false := decide_eq_false (by omega)
  obtain ⟨k, hk⟩ : ∃ k, k = l.count 32 := ⟨_, rfl⟩
  obtain ⟨S, hS⟩ : ∃ S, S = bs l := ⟨_, rfl⟩
  rw [← hk] at CN d3
  rw [← hS] at CN SP d1 d2 ⊢
  have hl' : l.length ≤ 1100000 := by omega
  have hlen : (splitB 32 l).length ≤ 4096 := by rw [split_count]; omega
  obtain ⟨i0, hi, hz1, hz2, hz0⟩ := infoZ6
  have HI := Lib.hid hi
  have HZ := Lib.hid hz0
  have H1 := Lib.hid hz1
  have H2 := Lib.hid hz2
  clear hi hz0 hz1 hz2 hS hk hc hne hl
  unfold zoneV at ON
  refine callsIn_of_wp_marks Tryz.func15 rfl trivial ?_ rfl
  simp only [Tryz.ntmps15, List.size_toArray, List.length_cons, List.length_nil, Nat.reduceAdd, Nat.reduceSub, Array.replicate_succ, Array.replicate_zero, List.push_toArray, List.append_toArray, List.nil_append, List.cons_append]
  gi_wp2_with (fail)
  refine ⟨trivial, ?_⟩
  refine (callsIn_wide.2 (CN.out _)).mono ?_; rintro e w' ⟨rfl, q1, rfl⟩
  gi_wp2_with (fail)
  refine ⟨trivial, ?_⟩
  refine (callsIn_wide.2 (SP.out _)).mono ?_; rintro e w' ⟨A, B, C, rfl, hA0, hB0, hC0, hAB, hAC, hT, q2, rfl⟩
  gi_wp2_with (fail)
  (try simp only [drew_Wov, Wov_Wov, Array.append_assoc] at hT)
  refine wpIn_world (fun V => Below w.heap.size w V ∧ Three V A B C l ∧ Boxed V w.heap.size 36 (.slice none 0 0) ∧ Boxed V (w.heap.size + 1) 3 (.int .i64 0) ∧ Boxed V (w.heap.size + 2) 25 (.int .i64 0) ∧ w.heap.size + 3 ≤ A ∧ w.heap.size + 3 ≤ B ∧ w.heap.size + 3 ≤ C) ⟨by (repeat' (first | (with_reducible assumption) | (with_reducible exact Below.refl _ _) | (with_reducible refine below_wov ?_ ?_ _) | (with_reducible refine below_drewN ?_ _) | (with_reducible refine Below.drew ?_) | (with_reducible refine Below.alloc ?_ ?_ _) | (with_reducible refine Below.setCell ?_ ?_ _) | (with_reducible exact Nat.le_refl _) | omega | (simp only [World.size_alloc, World.size_setCell, World.size_drew, Wov_size, World.heap_drewN]; omega))), hT, ?_, ?_, ?_, ?_⟩ ?_
  · exact boxS_below (Boxed.new w 36 (.slice none 0 0)) (by (repeat' (first | (with_reducible assumption) | (with_reducible exact Below.refl _ _) | (with_reducible refine below_wov ?_ ?_ _) | (with_reducible refine below_drewN ?_ _) | (with_reducible refine Below.drew ?_) | (with_reducible refine Below.alloc ?_ ?_ _) | (with_reducible refine Below.setCell ?_ ?_ _) | (with_reducible exact Nat.le_refl _) | omega | (simp only [World.size_alloc, World.size_setCell, World.size_drew, Wov_size, World.heap_drewN]; omega))))
  · have := Boxed.new (w.alloc (.cells #[.slice none 0 0] 36)) 3 (.int .i64 0)
    rw [World.size_alloc] at this
    exact boxS_below this (by (repeat' (first | (with_reducible assumption) | (with_reducible exact Below.refl _ _) | (with_reducible refine below_wov ?_ ?_ _) | (with_reducible refine below_drewN ?_ _) | (with_reducible refine Below.drew ?_) | (with_reducible refine Below.alloc ?_ ?_ _) | (with_reducible refine Below.setCell ?_ ?_ _) | (with_reducible exact Nat.le_refl _) | omega | (simp only [World.size_alloc, World.size_setCell, World.size_drew, Wov_size, World.heap_drewN]; omega))))
  · have := Boxed.new ((w.alloc (.cells #[.slice none 0 0] 36)).alloc (.cells #[.int .i64 0] 3)) 25 (.int .i64 0)
    rw [World.size_alloc, World.size_alloc] at this
    exact boxS_below this (by (repeat' (first | (with_reducible assumption) | (with_reducible exact Below.refl _ _) | (with_reducible refine below_wov ?_ ?_ _) | (with_reducible refine below_drewN ?_ _) | (with_reducible refine Below.drew ?_) | (with_reducible refine Below.alloc ?_ ?_ _) | (with_reducible refine Below.setCell ?_ ?_ _) | (with_reducible exact Nat.le_refl _) | omega | (simp only [World.size_alloc, World.size_setCell, World.size_drew, Wov_size, World.heap_drewN]; omega))))
  · simp only [World.size_alloc, Wov_size, World.size_drew] at hA0 hB0 hC0; omega
  clear hT hA0 hB0 hC0 CN SP
  rintro W3 ⟨hb3, hT3, x2, x3, x4, hA0, hB0, hC0⟩
  have lA3 := hT3.a.lt
  have lB3 := hT3.b.lt
  have lC3 := hT3.c.lt
  have s3 := hb3.size
  have s4 := x4.lt
  have HI3 : ∀ s X Y, ParI w W3.heap.size s X → TurnS W3.heap.size A X Y → ParI w W3.heap.size s Y := fun s X Y h ht => by
    obtain ⟨v, hv, hr⟩ := h.row
    exact ⟨h.zero, belowS_turn h.below ht (Nat.le_refl _) (by omega) (by omega), ⟨v, boxedS_turn hv ht (by omega) (by omega), rowS_turn hr ht (by omega)⟩, boxedS_turn h.at_ ht (by omega) (by omega), h.far, boxedS_turn h.err ht (by omega) (by omega), Nat.le_trans h.big ht.size⟩
  have HX3 : ∀ s X Y, ParX w s X → TurnS W3.heap.size A X Y → ParX w s Y := fun s X Y h ht => by
    obtain ⟨p, x, h1, h2, h3, h4, h5⟩ := h.last
    exact ⟨⟨p, x, h1, h2, h3, boxedS_turn h4 ht (by omega) (by omega), boxedS_turn h5 ht (by omega) (by omega)⟩, belowS_turn h.below ht (Nat.le_refl _) (by omega) (by omega), boxedS_turn h.row ht (by omega) (by omega)⟩
  apply wpIn_split hl' rfl hAB hAC rfl hT3 (ParI w W3.heap.size) (ParX w) HI3 HX3 ⟨fun x hx => (by cases hx), hb3, ⟨_, x2, World.ownsRow_nil _ _ _ _⟩, x3, by simp [atT], x4, Nat.le_refl _⟩
  case hassign =>
    intro l x W K hK
    simp only [encS]
    gi_wp2
    exact hK
  case hbody =>
    rintro l0 pre x W hI hx hlen' hAW hBW hCW
    have ONx := Lib.hid (ON.out x W hx hI.below)
    have hxl := split_mem_len hx
    have hsz : (bs x).size = x.length := bs_size x
    obtain ⟨SX, hSX⟩ : ∃ S, S = bs x := ⟨_, rfl⟩
    rw [← hSX] at ONx hsz
    simp only [← hSX]
    have HSX := Lib.hid hSX
    have HI0 := Lib.hid hI
    clear hSX hI x2 x3 x4 hT3 hb3 HI3 HX3 ON
    by_cases he : zoneE x = 0
    · rw [he] at ONx
      gi_upto_region 10 with (refine ⟨trivial, ?_⟩; gi_at_call 34; refine (CallsIn.inRound l0 (callsIn_wide.2 ONx.out)).mono ?_; rintro e w' ⟨z, ⟨rfl, q1, rfl⟩, fz, hz⟩)
      obtain ⟨Y, hY⟩ : ∃ Y, Y = zoneZ x := ⟨_, rfl⟩
      rw [← hY]
      obtain ⟨Z, hZ⟩ : ∃ Z, Z = W.heap.size + q1.bl.size := ⟨_, rfl⟩
      rw [← hZ]
      refine wpIn_world (fun V => Below W.heap.size W V ∧ BoxZ V Z Y) ⟨by (repeat' (first | (with_reducible assumption) | (with_reducible exact Below.refl _ _) | (with_reducible refine below_wov ?_ ?_ _) | (with_reducible refine below_drewN ?_ _) | (with_reducible refine Below.drew ?_) | (with_reducible refine Below.alloc ?_ ?_ _) | (with_reducible refine Below.setCell ?_ ?_ _) | (with_reducible exact Nat.le_refl _) | omega | (simp only [World.size_alloc, World.size_setCell, World.size_drew, Wov_size, World.heap_drewN]; omega))), BoxZ.new (W := Wov W q1) (t := 49) (by rw [hZ, Wov_size])⟩ ?_
      rintro W4 ⟨hb4, hbz⟩
      have hI4 := HI0.out.grow hb4
      obtain ⟨v, hv, hr⟩ := hI4.row
      obtain ⟨aT, haT⟩ : ∃ a, a = atT pre := ⟨_, rfl⟩
      have hat := hI4.at_
      rw [← haT] at hat
      have hfar := hI4.far
      have hpos := atT_pos pre
      rw [← haT] at hfar hpos
      have hpl : pre.length < 4096 := by omega
      obtain ⟨mx, hmx⟩ : ∃ m, m = x.length := ⟨_, rfl⟩
      rw [← hmx] at hsz hxl
      have s1 := HI0.out.below.size
      have s5 := hb4.size
      have sb := hI4.big
      have lv := hv.lt
      have la := hat.lt
      have lz := hbz.lt
      have v0 := hv.cell
      have vf := hv.frozen
      have t0 := hat.cell
      have tf := hat.frozen
      have z0 := hbz.c0
      have z1 := hbz.c1
      have z2 := hbz.c2
      have z3 := hbz.c3
      have z4 := hbz.c4
      have z5 := hbz.c5
      obtain ⟨w1, w2, w3⟩ := wrap_at aT mx pre.length hpos hfar hpl (Nat.le_trans hxl hl')
      have HR := Lib.hid hr
      have HFAR := Lib.hid w3
      have step : Hid (∀ v' w1, w1.ownsRow W3.heap.size 49 6 v' (pre.length + 1) (cellsZ (List.map zoneZ pre) ++ [.int .i64 (Y 0), .int .i64 (Y 1), .int .i64 (Y 2), .int .i64 (Y 3), .int .i64 (Y 4), .int .i64 (Y 5)]) → (W4.alloc (.cells #[.int .i64 (Y 0), .int .i64 (Y 1), .int .i64 (Y 2), .int .i64 (Y 3), .int .i64 (Y 4), .int .i64 (Y 5)] 49)).grownBy w1 v.ownBlock →
          (w1.cell? ⟨w.heap.size, 0, none⟩ = some v ∧ w1.frozen? ⟨w.heap.size, 0, none⟩ = false) ∧ (w1.cell? ⟨w.heap.size + 1, 0, none⟩ = some (.int .i64 aT) ∧ w1.frozen? ⟨w.heap.size + 1, 0, none⟩ = false) ∧
          KeepsOthers W ((w1.setCell ⟨w.heap.size, 0, none⟩ v').setCell ⟨w.heap.size + 1, 0, none⟩ (.int .i64 (aT + ((mx : Int) + 1)))) ∧
          (∀ k, k < W3.heap.size → w.heap.size + 3 ≤ k → KeepW k W ((w1.setCell ⟨w.heap.size, 0, none⟩ v').setCell ⟨w.heap.size + 1, 0, none⟩ (.int .i64 (aT + ((mx : Int) + 1))))) ∧
          ParI w W3.heap.size (pre ++ [x]) ((w1.setCell ⟨w.heap.size, 0, none⟩ v').setCell ⟨w.heap.size + 1, 0, none⟩ (.int .i64 (aT + ((mx : Int) + 1))))) := by
        intro v' w1 ho hg
        obtain ⟨b1, b2, b3, b4, b5⟩ := Boxed.appended (n₀ := w.heap.size) hv (by decide) (rowS_base HR.out s3) (by omega) (by omega) (rowS_base ho s3) hg
        have a1 := (hat.alloc (.cells #[.int .i64 (Y 0), .int .i64 (Y 1), .int .i64 (Y 2), .int .i64 (Y 3), .int .i64 (Y 4), .int .i64 (Y 5)] 49)).kept hg (hat.not_row (by decide) HR.out)
        have a2 := a1.kept (grownBy_setCell' w1 w.heap.size v') (fun h => by injection h with h; omega)
        have e1 := (hI4.err.alloc (.cells #[.int .i64 (Y 0), .int .i64 (Y 1), .int .i64 (Y 2), .int .i64 (Y 3), .int .i64 (Y 4), .int .i64 (Y 5)] 49)).kept hg (hI4.err.not_row (by decide) HR.out)
        have e2 := e1.kept (grownBy_setCell' w1 w.heap.size v') (fun h => by injection h with h; omega)
        have c3 := ho.kept (grownBy_setCell' w1 w.heap.size v') (.inr (b1.not_row (by decide) ho).symm)
        have c4 := c3.kept (grownBy_setCell' _ (w.heap.size + 1) (.int .i64 (aT + ((mx : Int) + 1)))) (.inr (a2.not_row (by decide) c3).symm)
        have b6 := b2.kept (grownBy_setCell' _ (w.heap.size + 1) (.int .i64 (aT + ((mx : Int) + 1)))) (fun h => by injection h with h; omega)
        have a3 := a2.set (.int .i64 (aT + ((mx : Int) + 1)))
        have e3 := e2.kept (grownBy_setCell' _ (w.heap.size + 1) (.int .i64 (aT + ((mx : Int) + 1)))) (fun h => by injection h with h; omega)
        have eT : atT (pre ++ [x]) = aT + ((mx : Int) + 1) := by rw [atT_snoc, haT, hmx]
        refine ⟨⟨b1.cell, b1.frozen⟩, ⟨a1.cell, a1.frozen⟩, (keepsOthers_below hb4).trans (b4.trans (KeepsOthers.setCell _ _ _)), fun k hk hk3 => ?_, ?_⟩
        · have hkw : k < W.heap.size := Nat.lt_of_lt_of_le hk HI0.out.big
          refine (keepW_below hkw hb4).trans ⟨?_, ?_⟩
          · have nk : some k ≠ v.ownBlock := by
              rcases HR.out.2 with ⟨rfl, _⟩ | ⟨g, cap, cur, rfl, hg1, _⟩
              · simp [Value.ownBlock]
              · intro h
                have : k = g := by simpa [Value.ownBlock] using h
                omega
            exact (Below.heap_setCell _ _ _ k (by show k ≠ w.heap.size + 1; omega)).trans ((Below.heap_setCell _ _ _ k (by show k ≠ w.heap.size; omega)).trans ((hg.block k (by simp; omega) nk).trans (Below.heap_alloc _ _ _ (by omega))))
          · have := b4.size
            simp only [World.size_setCell] at this ⊢
            omega
        · refine ⟨fun y hy => ?_, (hI4.below.trans b5).setCell (p := ⟨w.heap.size + 1, 0, none⟩) (by simp) _, ⟨v', b6, ?_⟩, by rw [eT]; exact a3, ?_, e3, ?_⟩
          · rcases List.mem_append.1 hy with hy | hy
            · exact HI0.out.zero y hy
            · rw [List.mem_singleton] at hy; rw [hy]; exact he
          · rw [List.length_append, List.map_append, cellsZ_app]
            rw [hY] at c4
            exact c4
          · rw [eT, List.length_append]
            exact HFAR.out
          · have := b4.size
            simp only [World.size_setCell] at this ⊢
            omega
      clear hv hr hat hI4 hb4 hbz hY hZ hfar hpos he haT hmx hz w3
      gi_wp2_with (gi_at_builtin; refine wpListIn_append_own _ rfl _ _ 36 rfl W3.heap.size 49 i0 (.agg #[.int .i64 0, .int .i64 0, .int .i64 0, .int .i64 0, .int .i64 0, .int .i64 0]) 6 48 Tryz.underlying36 HI.out HZ.out H1.out H2.out rfl (by decide) _ _ _ rfl (HR.out.alloc _) ⟨W4.heap.size, 0, none⟩ 1 1 [.int .i64 (Y 0), .int .i64 (Y 1), .int .i64 (Y 2), .int .i64 (Y 3), .int .i64 (Y 4), .int .i64 (Y 5)] rfl rfl (cellS_six_new _ _ _ _ _ _ _ _) (by simp [Value.oneCell']) (by unfold maxLen; omega) (by omega) (by simp; omega) ?_; (intro v' w1 hown' hgrow _; obtain ⟨g', cap', rfl⟩ := ownsRow_succ hown'; obtain ⟨⟨k1, kf⟩, ⟨k2, kf2⟩, k3, k4, k5⟩ := step.out _ w1 hown' hgrow; have kA := k4 A lA3 hA0; have kB := k4 B lB3 hB0; have kC := k4 C lC3 hC0; clear hown' hgrow k4))
    · obtain ⟨E, hE⟩ : ∃ E, E = zoneE x := ⟨_, rfl⟩
      rw [← hE] at ONx he
      have HE := Lib.hid hE
      clear hE
      gi_upto_region 10 with (refine ⟨trivial, ?_⟩; gi_at_call 34; refine (CallsIn.inRound l0 (callsIn_wide.2 ONx.out)).mono ?_; rintro e w' ⟨z, ⟨rfl, q1, rfl⟩, fz, hz⟩)
      refine wpIn_world (fun V => Below W.heap.size W V) (by (repeat' (first | (with_reducible assumption) | (with_reducible exact Below.refl _ _) | (with_reducible refine below_wov ?_ ?_ _) | (with_reducible refine below_drewN ?_ _) | (with_reducible refine Below.drew ?_) | (with_reducible refine Below.alloc ?_ ?_ _) | (with_reducible refine Below.setCell ?_ ?_ _) | (with_reducible exact Nat.le_refl _) | omega | (simp only [World.size_alloc, World.size_setCell, World.size_drew, Wov_size, World.heap_drewN]; omega)))) ?_
      rintro W4 hb4
      have hI4 := HI0.out.grow hb4
      obtain ⟨v, hv, hr⟩ := hI4.row
      have hat := hI4.at_
      have HA4 := Lib.hid hat
      have HV4 := Lib.hid hv
      have HI4 := Lib.hid hI4
      have HB4 := Lib.hid hb4
      obtain ⟨aT, haT⟩ : ∃ a, a = atT pre := ⟨_, rfl⟩
      rw [← haT] at hat
      have HAT := Lib.hid haT
      have lv := hv.lt
      have la := hat.lt
      have le := hI4.err.lt
      have v0 := hv.cell
      have vf := hv.frozen
      have t0 := hat.cell
      have tf := hat.frozen
      have e0 := hI4.err.cell
      have ef := hI4.err.frozen
      have hb : (E != 0) = true := by rw [bne_iff_ne]; exact he
      have HNE := Lib.hid he
      clear hv hr hat hI4 hb4 haT hz he
      have hmix : Tryz.prog.follows .mixedOrders = true := by kernel_rfl
      gi_wp2
      gi_region_with_o (fail)
      all_goals
        gi_wp2
        exact parX_end HAT.out HE.out HNE.out HI4.out HV4.out HA4.out HB4.out
  case hdone =>
    intro D W hD hI hK
    have hRR := read_all (splitB 32 l) 0 [] hI.zero
    rw [← hR.out, List.nil_append] at hRR
    simp only [Prod.mk.injEq] at hRR
    obtain ⟨rfl, rfl, rfl⟩ := hRR
    obtain ⟨P, hP⟩ : ∃ P, Hid (P = splitB 32 l) := ⟨_, rfl⟩
    rw [← hP.out] at hI
    obtain ⟨v, hv, hr0⟩ := hI.row
    obtain ⟨p, c, hvv, _, _⟩ := ownZ_of_row (w := w) (l := P.map zoneZ) (by rw [List.length_map]; exact hr0) s3
    rw [List.length_map] at hvv
    subst hvv
    have hat := hI.at_
    have herr := hI.err
    have v0 := hv.cell
    have vf := hv.frozen
    have t0 := hat.cell
    have tf := hat.frozen
    have e0 := herr.cell
    have ef := herr.frozen
    have lv := hv.lt
    have la := hat.lt
    have le := herr.lt
    obtain ⟨V, hV⟩ : ∃ V, ((W.setCell ⟨w.heap.size, 0, none⟩ (.slice p P.length c)).setCell ⟨w.heap.size + 1, 0, none⟩ (.int .i64 0)).setCell ⟨w.heap.size + 2, 0, none⟩ (.int .i64 0) = V := ⟨_, rfl⟩
    have q2 : Boxed V w.heap.size 36 (.slice p P.length c) := by
      rw [← hV]; exact ((hv.set _).kept (grownBy_setCell' _ (w.heap.size + 1) _) (fun h => by injection h with h; omega)).kept (grownBy_setCell' _ (w.heap.size + 2) _) (fun h => by injection h with h; omega)
    have q3 : Boxed V (w.heap.size + 1) 3 (.int .i64 0) := by
      rw [← hV]; exact ((hat.kept (grownBy_setCell' W w.heap.size _) (fun h => by injection h with h; omega)).set _).kept (grownBy_setCell' _ (w.heap.size + 2) _) (fun h => by injection h with h; omega)
    have q4 : Boxed V (w.heap.size + 2) 25 (.int .i64 0) := by
      rw [← hV]; exact ((herr.kept (grownBy_setCell' W w.heap.size _) (fun h => by injection h with h; omega)).kept (grownBy_setCell' _ (w.heap.size + 1) _) (fun h => by injection h with h; omega)).set _
    have qD : V.heap[D]? = some (.deferred (some [])) := by
      rw [← hV]; exact (Below.heap_setCell _ _ _ D (by show D ≠ w.heap.size + 2; omega)).trans ((Below.heap_setCell _ _ _ D (by show D ≠ w.heap.size + 1; omega)).trans ((Below.heap_setCell _ _ _ D (by show D ≠ w.heap.size; omega)).trans hK))
    have qr : V.ownsRow W3.heap.size 49 6 (.slice p P.length c) P.length (cellsZ (P.map zoneZ)) := by
      rw [← hV]
      have n2 := hv.not_row (by decide) hr0
      have n3 := hat.not_row (by decide) hr0
      have n4 := herr.not_row (by decide) hr0
      exact ((hr0.kept (grownBy_setCell' W w.heap.size _) (.inr n2.symm)).kept (grownBy_setCell' _ (w.heap.size + 1) _) (.inr n3.symm)).kept (grownBy_setCell' _ (w.heap.size + 2) _) (.inr n4.symm)
    have qb : Below w.heap.size w V := by
      rw [← hV]; exact ((hI.below.setCell (p := ⟨w.heap.size, 0, none⟩) (by simp) _).setCell (p := ⟨w.heap.size + 1, 0, none⟩) (by simp) _).setCell (p := ⟨w.heap.size + 2, 0, none⟩) (by simp) _
    have k2 := fun o' => (q2.kept (grownBy_putObj' V D o') (fun h => by injection h with h; omega)).cell
    have k3 := fun o' => (q3.kept (grownBy_putObj' V D o') (fun h => by injection h with h; omega)).cell
    have k4 := fun o' => (q4.kept (grownBy_putObj' V D o') (fun h => by injection h with h; omega)).cell
    have hQ : Hid (∀ o', ∃ p' c', Value.slice p P.length c = .slice p' (P.map zoneZ).length c' ∧ (p' = none → c' = 0) ∧ OwnZ w (V.putObj D o') p' (P.map zoneZ)) := fun o' => by
      have := ownsRow_putObj qr o' qD rfl
      exact ownZ_of_row (by rw [List.length_map]; exact this) s3
    have hB2 : Hid (∀ o', Below w.heap.size w (V.putObj D o')) := fun o' => qb.grown (grownBy_putObj' V D o') (Nat.le_trans (Nat.le_refl _) qb.size) (fun k e => by cases e; omega)
    clear hr0 hI HI HZ H1 H2 x2 x3 x4 hT3 hb3 HI3 HX3 hv hat herr q2 q3 q4 qr qb ON hR
    gi_wp2
    (try rw [hV])
    refine ⟨by simp, .inl ⟨_, _, rfl, run_takeDeferred qD, ?_⟩⟩
    refine ⟨_, (by simp [results, Tryz.results15, go_sem, k2, k3, k4]; try rfl), ?_, Wov_of_below (hB2.out _)⟩
    obtain ⟨p', c', e, hpc, ho⟩ := hQ.out (.deferred none)
    simp only [Value.slice.injEq] at e
    obtain ⟨rfl, _, rfl⟩ := e
    rw [← hP.out]
    exact ⟨p, c, by rw [List.length_map], hpc, ho⟩
  case hstop =>
    intro D pre x rest W hD hp hI hK
    obtain ⟨q, y, hq, hz, hy, hat, herr⟩ := hI.last
    have hxy : pre = q ∧ x = y := by
      have := List.append_inj' hq rfl
      simpa using this
    obtain ⟨rfl, rfl⟩ := hxy
    have hRR := read_err x rest hy pre 0 [] hz
    rw [← hp, ← hR.out, Int.zero_add] at hRR
    simp only [Prod.mk.injEq] at hRR
    obtain ⟨rfl, rfl, rfl⟩ := hRR
    have q2 := hI.row
    have k2 := fun o' => (q2.kept (grownBy_putObj' W D o') (fun h => by injection h with h; omega)).cell
    have k3 := fun o' => (hat.kept (grownBy_putObj' W D o') (fun h => by injection h with h; omega)).cell
    have k4 := fun o' => (herr.kept (grownBy_putObj' W D o') (fun h => by injection h with h; omega)).cell
    have qb := hI.below
    have hB2 : Hid (∀ o', Below w.heap.size w (W.putObj D o')) := fun o' => qb.grown (grownBy_putObj' W D o') (Nat.le_trans (Nat.le_refl _) qb.size) (fun k e => by cases e; omega)
    clear hI HI HZ H1 H2 x2 x3 x4 hT3 hb3 HI3 HX3 q2 hat herr hp hq hz hy hR qb ON
    gi_wp2
    refine ⟨by simp, .inl ⟨_, _, rfl, run_takeDeferred hK, ?_⟩⟩
    refine ⟨_, (by simp [results, Tryz.results15, go_sem, k2, k3, k4]; try rfl), ⟨none, 0, rfl, fun _ => rfl, .inl rfl⟩, Wov_of_below (hB2.out _)⟩
theorem parse_any (l : List UInt8) (hl : l.length ≤ 900000 ∨ 1048576 < l.length) (w : World) (hv : ErrR w) : Calls Tryz.prog 15 #[.string (bs l)] w (zpC w (parseT l)) := by
  have hsz := bs_size l
  unfold parseT
  by_cases h1 : 1048576 < l.length
  · rw [if_pos h1]
    exact parse_early (bs l) w 3 (.inr trivial) (.inl ⟨by rw [hsz]; exact h1, rfl⟩)
  · rw [if_neg h1]
    by_cases h2 : l = []
    · rw [if_pos h2]
      subst h2
      exact parse_early (bs []) w 0 (.inr trivial) (.inr ⟨rfl, by rw [Lib.toList_data, bs_list]; rfl, rfl⟩)
    · rw [if_neg h2]
      have hc := split_count 32 l
      by_cases h3 : 4096 < (splitB 32 l).length
      · rw [if_pos h3]
        refine parse_many (bs l) w (l.count 32) (count_any l 32) (by rw [hsz]; omega) ?_ (by omega)
        rw [Lib.toList_data, bs_list]
        cases l with
        | nil => exact absurd rfl h2
        | cons => rfl
      · rw [if_neg h3]
        exact callsIn_wide.1 (parse_in l (hl.resolve_right h1) h2 (by omega) w hv)
#print axioms parse_any
end Go.Proofs.YtpmpapenjcemjaaGreatDoor
