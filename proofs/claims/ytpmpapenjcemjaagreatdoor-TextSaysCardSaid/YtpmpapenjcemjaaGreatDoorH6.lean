/- Plain laws: zones of spans. No condition. -/
import Derived.Test.YtpmpapenjcemjaaGreatDoorH40
import Derived.Test.YtpmpapenjcemjaaGreatDoorH5
import Derived.Test.YtpmpapenjcemjaaGreatDoorMM
namespace Go.Proofs.YtpmpapenjcemjaaGreatDoor
set_option linter.unusedSimpArgs false
set_option linter.unusedVariables false
open Go Go.RowKit

theorem le_none_below {lo hi : Int} {ls hs op : Bool} (h : spanB lo hi hs op = true) : min noneB (belowB lo ls) = belowB lo ls := Int.min_eq_right (mayB_le (belowB_may h))
theorem le_none_above {lo hi : Int} {hs op : Bool} (h : spanB lo hi hs op = true) : min noneB (aboveB hi hs op) = aboveB hi hs op := Int.min_eq_right (mayB_le (aboveB_may h))
/-- The bounds of a span alone. -/
def spanG (lo : Int) (ls : Bool) (hi : Int) (hs op : Bool) : Nat → Int := moreAt (moreAt (topF 2) 1 (belowB lo ls)) 2 (aboveB hi hs op)
theorem spanG_vals {lo hi : Int} {ls hs op : Bool} (h : spanB lo hi hs op = true) : spanG lo ls hi hs op 0 = 1 ∧ spanG lo ls hi hs op 1 = belowB lo ls ∧ spanG lo ls hi hs op 2 = aboveB hi hs op ∧ spanG lo ls hi hs op 3 = 1 :=
  ⟨rfl, le_none_below h, le_none_above h, rfl⟩
theorem spanG_ok {lo hi : Int} {ls hs op : Bool} (h : spanB lo hi hs op = true) : okD (2 : Nat) (2 * 2) (spanG lo ls hi hs op) = true :=
  okD_more (okD_more (by decide) (belowB_may h)) (aboveB_may h)
theorem betwS_bad {lo hi : Int} {ls hs op : Bool} (h : spanB lo hi hs op = false) : betwS lo ls hi hs op = errM 8 := by
  unfold betwS betweenM
  rw [show okD 2 4 (topF 2) = true by decide, if_pos rfl, if_pos (by decide), h]
  rfl
theorem betwS_ok {lo hi : Int} {ls hs op : Bool} (h : spanB lo hi hs op = true) : betwS lo ls hi hs op = closeM (2 : Nat) (2 * 2) (spanG lo ls hi hs op) := by
  unfold betwS betweenM
  rw [show okD 2 4 (topF 2) = true by decide, if_pos rfl, if_pos (by decide), h]
  rfl
/-- The closed one of a span alone has the same bounds. -/
theorem spanG_closed {lo hi : Int} {ls hs op : Bool} (h : spanB lo hi hs op = true) {c : Nat → Int} (K : ClosedI 2 (spanG lo ls hi hs op) c) : c 1 = belowB lo ls ∧ c 2 = aboveB hi hs op := by
  obtain ⟨g0, g1, g2, g3⟩ := spanG_vals (ls := ls) h
  have hle := K.closed.2
  have htri := K.closed.1.2
  have e00 : mE 2 (spanG lo ls hi hs op) 0 0 = some 1 := by show eb _ = _; rw [show 0 * 2 + 0 = 0 from rfl, g0, eb_one]
  have e11 : mE 2 (spanG lo ls hi hs op) 1 1 = some 1 := by show eb _ = _; rw [show 1 * 2 + 1 = 3 from rfl, g3, eb_one]
  have c00 := K.closed.1.1 0 (by omega)
  have c11 := K.closed.1.1 1 (by omega)
  have l01 := hle 0 1 (by omega) (by omega)
  have l10 := hle 1 0 (by omega) (by omega)
  have d0 : ele (some 1) (eadd (mE 2 (spanG lo ls hi hs op) 0 1) (mE 2 (spanG lo ls hi hs op) 1 0)) := by
    have := htri 0 0 1 (by omega) (by omega) (by omega)
    rw [c00] at this
    exact ele_trans this (eadd_mono l01 l10)
  have hcl : Closed 2 (mE 2 (spanG lo ls hi hs op)) := by
    refine ⟨fun i hi => ?_, fun i j k hi hj hk => ?_⟩
    · have : i = 0 ∨ i = 1 := by omega
      rcases this with rfl | rfl
      · exact e00
      · exact e11
    · have hi : i = 0 ∨ i = 1 := by omega
      have hj : j = 0 ∨ j = 1 := by omega
      have hk : k = 0 ∨ k = 1 := by omega
      rcases hi with rfl | rfl <;> rcases hj with rfl | rfl <;> rcases hk with rfl | rfl <;>
        first
        | (rw [e00, one_eadd]; exact ele_refl _)
        | (rw [e00, eadd_one]; exact ele_refl _)
        | (rw [e11, eadd_one]; exact ele_refl _)
        | (rw [e11, one_eadd]; exact ele_refl _)
        | (rw [e00]; exact d0)
        | (rw [e11, eadd_comm]; exact d0)
  have hp := fun i j hi hj => K.pt hcl (fun _ _ _ _ => ele_refl _) (fun q _ hu => hu) i j hi hj
  constructor
  · rw [← g1]; exact eb_inj (hp 0 1 (by omega) (by omega))
  · rw [← g2]; exact eb_inj (hp 1 0 (by omega) (by omega))
theorem betwS_e {lo hi : Int} {ls hs op : Bool} (h : spanB lo hi hs op = true) : (betwS lo ls hi hs op).e = 6 ∨ ((betwS lo ls hi hs op).e = 0 ∧ (betwS lo ls hi hs op).f 1 = belowB lo ls ∧ (betwS lo ls hi hs op).f 2 = aboveB hi hs op) := by
  rw [betwS_ok h]
  rcases closeM_cases (spanG_ok (ls := ls) h) with ⟨c, hc, K⟩ | ⟨hc, _⟩
  · rw [hc]; exact .inr ⟨rfl, spanG_closed h K⟩
  · rw [hc]; exact .inl rfl
/-- What is closed and keeps a span's bounds: the span is not empty. -/
theorem span_some {n a b : Nat} {q : Nat → Nat → EB} {lo hi : Int} {ls hs op : Bool} (h : spanB lo hi hs op = true) (hq : Closed n q) (ha : a < n) (hb : b < n) (h1 : ele (q a b) (eb (belowB lo ls))) (h2 : ele (q b a) (eb (aboveB hi hs op))) : (betwS lo ls hi hs op).e = 0 := by
  rw [betwS_ok h]
  rcases closeM_cases (spanG_ok (ls := ls) h) with ⟨c, hc, K⟩ | ⟨hc, hno⟩
  · rw [hc]
  · exfalso
    obtain ⟨g0, g1, g2, g3⟩ := spanG_vals (ls := ls) h
    obtain ⟨s, hs⟩ : ∃ s : Nat → Nat, s = fun i => if i = 0 then a else b := ⟨_, rfl⟩
    have s0 : s 0 = a := by rw [hs]; rfl
    have s1 : s 1 = b := by rw [hs]; rfl
    have sl : ∀ i, i < 2 → s i < n := fun i _ => by rw [hs]; show (if i = 0 then a else b) < n; split <;> omega
    refine none_no (q := fun i j => q (s i) (s j)) hno ⟨fun i hi => hq.1 _ (sl i hi), fun i j k hi hj hk => hq.2 _ _ _ (sl i hi) (sl j hj) (sl k hk)⟩ fun i j hi hj => ?_
    have hi : i = 0 ∨ i = 1 := by omega
    have hj : j = 0 ∨ j = 1 := by omega
    show ele _ (eb (spanG lo ls _ _ op (i * 2 + j)))
    rcases hi with rfl | rfl <;> rcases hj with rfl | rfl
    · show ele (q (s 0) (s 0)) (eb (spanG _ _ _ _ _ 0))
      rw [g0, eb_one, hq.1 _ (sl 0 (by omega))]; exact ele_refl _
    · show ele (q (s 0) (s 1)) (eb (spanG _ _ _ _ _ 1))
      rw [g1, s0, s1]; exact h1
    · show ele (q (s 1) (s 0)) (eb (spanG _ _ _ _ _ 2))
      rw [g2, s0, s1]; exact h2
    · show ele (q (s 1) (s 1)) (eb (spanG _ _ _ _ _ 3))
      rw [g3, eb_one, hq.1 _ (sl 1 (by omega))]; exact ele_refl _

/-- A span. -/
structure Sp where
  lo : Int
  ls : Bool
  hi : Int
  hs : Bool
  op : Bool
def Sp.ok (s : Sp) : Bool := spanB s.lo s.hi s.hs s.op
def Sp.bel (s : Sp) : Int := belowB s.lo s.ls
def Sp.abo (s : Sp) : Int := aboveB s.hi s.hs s.op
def Sp.bw (s : Sp) : MR := betwS s.lo s.ls s.hi s.hs s.op
def Sp.inn (s : Sp) (t : Int × Int) : Bool := inSpan s.lo s.ls s.hi s.hs s.op t
/-- The bounds of three spans. -/
def zS (t u d : Sp) : Nat → Int
  | 0 => t.abo | 1 => t.bel | 2 => u.abo | 3 => u.bel | 4 => d.abo | _ => d.bel
/-- The document's zone of spans. -/
def madeZ (t u d : Sp) : (Nat → Int) × Int :=
  if t.ok && (u.ok && d.ok) then (if (closeM 3 9 (zF (zS t u d))).e = 0 then toldZ (closeM 3 9 (zF (zS t u d))).f else (fun _ => 0, 6)) else (fun _ => 0, 8)
theorem zS_vals (t u d : Sp) : zF (zS t u d) 0 = 1 ∧ zF (zS t u d) 1 = t.bel ∧ zF (zS t u d) 2 = u.bel ∧ zF (zS t u d) 3 = t.abo ∧ zF (zS t u d) 4 = 1 ∧ zF (zS t u d) 5 = d.bel ∧ zF (zS t u d) 6 = u.abo ∧ zF (zS t u d) 7 = d.abo ∧ zF (zS t u d) 8 = 1 := zF_vals (zS t u d)
theorem zS_ok {t u d : Sp} (ht : t.ok = true) (hu : u.ok = true) (hd : d.ok = true) : okD (3 : Nat) (3 * 3) (zF (zS t u d)) = true := by
  refine okD_of (f := topF 3) (by decide) fun x hx => ?_
  obtain ⟨a0, a1, a2, a3, a4, a5, a6, a7, a8⟩ := zS_vals t u d
  rcases nine (by omega : x < 9) with rfl | rfl | rfl | rfl | rfl | rfl | rfl | rfl | rfl
  · rw [a0]; rfl
  · rw [a1]; exact belowB_may ht
  · rw [a2]; exact belowB_may hu
  · rw [a3]; exact aboveB_may ht
  · rw [a4]; rfl
  · rw [a5]; exact belowB_may hd
  · rw [a6]; exact aboveB_may hu
  · rw [a7]; exact aboveB_may hd
  · rw [a8]; rfl
theorem zS_close6 {t u d : Sp} (ht : t.ok = true) (hu : u.ok = true) (hd : d.ok = true) (h : t.bw.e = 6 ∨ u.bw.e = 6 ∨ d.bw.e = 6) : (closeM (3 : Nat) (3 * 3) (zF (zS t u d))).e = 6 := by
  rcases closeM_cases (zS_ok ht hu hd) with ⟨c, hc, K⟩ | ⟨hc, _⟩
  · exfalso
    obtain ⟨a0, a1, a2, a3, a4, a5, a6, a7, a8⟩ := zS_vals t u d
    have hle := K.closed.2
    have p01 : ele (mE 3 c 0 1) (eb (zF (zS t u d) 1)) := hle 0 1 (by omega) (by omega)
    rw [a1] at p01
    have p10 : ele (mE 3 c 1 0) (eb (zF (zS t u d) 3)) := hle 1 0 (by omega) (by omega)
    rw [a3] at p10
    have p02 : ele (mE 3 c 0 2) (eb (zF (zS t u d) 2)) := hle 0 2 (by omega) (by omega)
    rw [a2] at p02
    have p20 : ele (mE 3 c 2 0) (eb (zF (zS t u d) 6)) := hle 2 0 (by omega) (by omega)
    rw [a6] at p20
    have p12 : ele (mE 3 c 1 2) (eb (zF (zS t u d) 5)) := hle 1 2 (by omega) (by omega)
    rw [a5] at p12
    have p21 : ele (mE 3 c 2 1) (eb (zF (zS t u d) 7)) := hle 2 1 (by omega) (by omega)
    rw [a7] at p21
    have z1 : t.bw.e = 0 := span_some ht K.closed.1 (a := 0) (b := 1) (by omega) (by omega) p01 p10
    have z2 : u.bw.e = 0 := span_some hu K.closed.1 (a := 0) (b := 2) (by omega) (by omega) p02 p20
    have z3 : d.bw.e = 0 := span_some hd K.closed.1 (a := 1) (b := 2) (by omega) (by omega) p12 p21
    omega
  · rw [hc]; rfl
theorem bw_cases (s : Sp) : (s.ok = false ∧ s.bw.e = 8) ∨ (s.ok = true ∧ s.bw.e = 6) ∨ (s.ok = true ∧ s.bw.e = 0 ∧ s.bw.f 1 = s.bel ∧ s.bw.f 2 = s.abo) := by
  cases h : s.ok
  · exact .inl ⟨rfl, by show (betwS _ _ _ _ _).e = 8; rw [betwS_bad h]; rfl⟩
  · rcases betwS_e (ls := s.ls) h with h' | h'
    · exact .inr (.inl ⟨rfl, h'⟩)
    · exact .inr (.inr ⟨rfl, h'⟩)
theorem has3 {a b c v : Int} : hasE 3 (eee a b c) v = true ↔ v = a ∨ v = b ∨ v = c := by
  constructor
  · intro h
    by_cases h1 : v = a
    · exact .inl h1
    · by_cases h2 : v = b
      · exact .inr (.inl h2)
      · by_cases h3 : v = c
        · exact .inr (.inr h3)
        · rw [hasE_f] at h
          · cases h
          · intro x hx
            have : x = 0 ∨ x = 1 ∨ x = 2 := by omega
            rcases this with rfl | rfl | rfl
            · exact h1
            · exact h2
            · exact h3
  · rintro (h | h | h)
    · exact hasE_t (t := 0) (by omega) h
    · exact hasE_t (t := 1) (by omega) h
    · exact hasE_t (t := 2) (by omega) h
/-- The zone of spans is the document's. -/
theorem make_eq (t u d : Sp) : makeZ t.bw u.bw d.bw = madeZ t u d := by
  unfold makeZ madeZ
  by_cases h8 : hasE 3 (eee d.bw.e u.bw.e t.bw.e) 8 = true
  · rw [if_pos h8]
    rw [has3] at h8
    have : (t.ok && (u.ok && d.ok)) = false := by
      rcases h8 with h | h | h
      · rcases bw_cases d with ⟨k, _⟩ | ⟨_, k⟩ | ⟨_, k, _⟩
        · rw [k]; simp
        · omega
        · omega
      · rcases bw_cases u with ⟨k, _⟩ | ⟨_, k⟩ | ⟨_, k, _⟩
        · rw [k]; simp
        · omega
        · omega
      · rcases bw_cases t with ⟨k, _⟩ | ⟨_, k⟩ | ⟨_, k, _⟩
        · rw [k]; simp
        · omega
        · omega
    rw [this]; rfl
  · rw [if_neg h8]
    rw [has3] at h8
    have ht : t.ok = true := by
      rcases bw_cases t with ⟨_, k⟩ | ⟨k, _⟩ | ⟨k, _⟩
      · exact absurd (.inr (.inr k.symm)) h8
      · exact k
      · exact k
    have hu : u.ok = true := by
      rcases bw_cases u with ⟨_, k⟩ | ⟨k, _⟩ | ⟨k, _⟩
      · exact absurd (.inr (.inl k.symm)) h8
      · exact k
      · exact k
    have hd : d.ok = true := by
      rcases bw_cases d with ⟨_, k⟩ | ⟨k, _⟩ | ⟨k, _⟩
      · exact absurd (.inl k.symm) h8
      · exact k
      · exact k
    rw [ht, hu, hd]
    simp only [Bool.and_self, if_true]
    by_cases h6 : hasE 3 (eee d.bw.e u.bw.e t.bw.e) 6 = true
    · rw [if_pos h6]
      rw [has3] at h6
      have := zS_close6 ht hu hd (by omega)
      rw [if_neg (by show ¬ (closeM (3 : Nat) (3 * 3) (zF (zS t u d))).e = 0; omega)]
    · rw [if_neg h6]
      rw [has3] at h6
      have kt : t.bw.e = 0 ∧ t.bw.f 1 = t.bel ∧ t.bw.f 2 = t.abo := by
        rcases bw_cases t with ⟨_, k⟩ | ⟨_, k⟩ | ⟨_, k⟩
        · exact absurd (.inr (.inr k.symm)) h8
        · exact absurd (.inr (.inr k.symm)) h6
        · exact k
      have ku : u.bw.e = 0 ∧ u.bw.f 1 = u.bel ∧ u.bw.f 2 = u.abo := by
        rcases bw_cases u with ⟨_, k⟩ | ⟨_, k⟩ | ⟨_, k⟩
        · exact absurd (.inr (.inl k.symm)) h8
        · exact absurd (.inr (.inl k.symm)) h6
        · exact k
      have kd : d.bw.e = 0 ∧ d.bw.f 1 = d.bel ∧ d.bw.f 2 = d.abo := by
        rcases bw_cases d with ⟨_, k⟩ | ⟨_, k⟩ | ⟨_, k⟩
        · exact absurd (.inl k.symm) h8
        · exact absurd (.inl k.symm) h6
        · exact k
      have hz : spansZ t.bw.f u.bw.f d.bw.f = zS t u d := by
        funext i
        match i with
        | 0 => exact kt.2.2
        | 1 => exact kt.2.1
        | 2 => exact ku.2.2
        | 3 => exact ku.2.1
        | 4 => exact kd.2.2
        | n + 5 => exact kd.2.1
      rw [hz]
      unfold ofZ
      rw [if_pos (show okD 3 9 (zF (zS t u d)) = true from zS_ok ht hu hd), if_pos rfl]
      by_cases h0 : (closeM 3 9 (zF (zS t u d))).e = 0
      · rw [if_pos h0, if_pos h0]
      · rw [if_neg h0, if_neg h0]
        rcases closeM_cases (zS_ok ht hu hd) with ⟨c, hc, _⟩ | ⟨hc, _⟩
        · exact absurd (show (closeM (3 : Nat) (3 * 3) (zF (zS t u d))).e = 0 by rw [hc]) h0
        · rw [show closeM 3 9 (zF (zS t u d)) = errM 6 from hc]; rfl

/-- A bound between two times is one of their difference. -/
theorem mul_lt_pos {a b k : Int} (hk : 0 < k) : a < b ↔ a * k < b * k := ⟨fun h => Int.mul_lt_mul_of_pos_right h hk, fun h => Int.lt_of_mul_lt_mul_right h (by omega)⟩
theorem mul_eq_pos {a b k : Int} (hk : 0 < k) : a = b ↔ a * k = b * k := ⟨fun h => by rw [h], fun h => Int.eq_of_mul_eq_mul_right (by omega) h⟩
theorem kept_scale {A E A' E' x : Int} (hE : 0 < E) (hE' : 0 < E') (h : A * E' = A' * E) : (A < bnum x * E ↔ A' < bnum x * E') ∧ (A = bnum x * E ↔ A' = bnum x * E') := by
  have r : bnum x * E * E' = bnum x * E' * E := Int.mul_right_comm _ _ _
  constructor
  · rw [mul_lt_pos hE', mul_lt_pos (a := A') hE, h, r]
  · rw [mul_eq_pos hE', mul_eq_pos (a := A') hE, h, r]
theorem kept_of_diff {n1 d1 n2 d2 m1 e1 m2 e2 x : Int} (h1 : 0 < d1 * d2) (h2 : 0 < e1 * e2) (h : (n1 * d2 - n2 * d1) * (e1 * e2) = (m1 * e2 - m2 * e1) * (d1 * d2)) : keptB n1 d1 n2 d2 x = keptB m1 e1 m2 e2 x := by
  obtain ⟨k1, k2⟩ := kept_scale (x := x) h1 h2 h
  unfold keptB
  rw [Bool.eq_iff_iff]
  simp only [Bool.or_eq_true, Bool.and_eq_true, decide_eq_true_eq, k1, k2]
theorem kept_self (a p : Int) : keptB a p a p 1 = true := by
  unfold keptB bnum bstr
  simp
theorem kept_above {s : Sp} (h : s.ok = true) (n d : Int) : keptB n d 0 1 s.abo = (s.op || cmpIn (cmpR n d s.hi 1) s.hs) := by
  obtain ⟨b1, b2, b3, b4, b5⟩ := spanB_bd h
  unfold Sp.abo aboveB
  cases ho : s.op
  · exact kept_high (by have := b5 ho; omega) b3
  · exact kept_open _ _ _ _
theorem kept_below {s : Sp} (h : s.ok = true) (n d : Int) : keptB 0 1 n d s.bel = cmpIn (cmpR s.lo 1 n d) s.ls := by
  obtain ⟨b1, b2, b3, b4, b5⟩ := spanB_bd h
  exact kept_low b1 b2
/-- A point keeps the bounds of spans just if its times, and their difference, are in these. -/
theorem kept_spans {t u d : Sp} (ht : t.ok = true) (hu : u.ok = true) (hd : d.ok = true) {a p b q n m : Int} (hp : 0 < p) (hq : 0 < q) (hm : 0 < m) (h : n * (q * p * 1) = (b * p + -a * q) * m) :
    keptAll 3 (zF (zS t u d)) (pt a p b q) = (t.inn (a, p) && (u.inn (b, q) && d.inn (n, m))) := by
  obtain ⟨a0, a1, a2, a3, a4, a5, a6, a7, a8⟩ := zS_vals t u d
  have hpq : 0 < p * q := Int.mul_pos hp hq
  have hqp : 0 < q * p := Int.mul_pos hq hp
  have e1 : keptB a p b q d.bel = keptB 0 1 n m d.bel := kept_of_diff hpq (by omega) (by
    rw [Int.one_mul, Int.zero_mul, Int.mul_one]
    have : (b * p + -a * q) * m = -((a * q - b * p) * m) := by rw [← Int.neg_mul]; congr 1; rw [Int.neg_mul]; omega
    rw [this, Int.mul_one, Int.mul_comm q p] at h
    have h' : (0 - n) * (p * q) = -(n * (p * q)) := by rw [← Int.neg_mul]; congr 1; omega
    rw [h', h]; omega)
  have e2 : keptB b q a p d.abo = keptB n m 0 1 d.abo := kept_of_diff hqp (by omega) (by
    rw [Int.mul_one, Int.mul_one, Int.zero_mul]
    rw [Int.mul_one] at h
    have h' : (n - 0) * (q * p) = n * (q * p) := by rw [Int.sub_zero]
    rw [h', h, Int.neg_mul, Int.sub_eq_add_neg])
  rw [Bool.eq_iff_iff, keptAll_iff]
  unfold Sp.inn inSpan
  rw [← kept_below ht, ← kept_above ht, ← kept_below hu, ← kept_above hu, ← kept_below hd, ← kept_above hd, ← e1, ← e2]
  simp only [Bool.and_eq_true]
  constructor
  · intro k
    have k01 := k 0 1 (by omega) (by omega)
    have k10 := k 1 0 (by omega) (by omega)
    have k02 := k 0 2 (by omega) (by omega)
    have k20 := k 2 0 (by omega) (by omega)
    have k12 := k 1 2 (by omega) (by omega)
    have k21 := k 2 1 (by omega) (by omega)
    rw [show 0 * 3 + 1 = 1 from rfl, a1] at k01
    rw [show 1 * 3 + 0 = 3 from rfl, a3] at k10
    rw [show 0 * 3 + 2 = 2 from rfl, a2] at k02
    rw [show 2 * 3 + 0 = 6 from rfl, a6] at k20
    rw [show 1 * 3 + 2 = 5 from rfl, a5] at k12
    rw [show 2 * 3 + 1 = 7 from rfl, a7] at k21
    exact ⟨⟨k01, k10⟩, ⟨k02, k20⟩, ⟨k12, k21⟩⟩
  · rintro ⟨⟨k01, k10⟩, ⟨k02, k20⟩, ⟨k12, k21⟩⟩ i j hi hj
    have hi : i = 0 ∨ i = 1 ∨ i = 2 := by omega
    have hj : j = 0 ∨ j = 1 ∨ j = 2 := by omega
    rcases hi with rfl | rfl | rfl <;> rcases hj with rfl | rfl | rfl
    · show keptB _ _ _ _ (zF (zS t u d) 0) = true
      rw [a0]; exact kept_self _ _
    · show keptB _ _ _ _ (zF (zS t u d) 1) = true
      rw [a1]; exact k01
    · show keptB _ _ _ _ (zF (zS t u d) 2) = true
      rw [a2]; exact k02
    · show keptB _ _ _ _ (zF (zS t u d) 3) = true
      rw [a3]; exact k10
    · show keptB _ _ _ _ (zF (zS t u d) 4) = true
      rw [a4]; exact kept_self _ _
    · show keptB _ _ _ _ (zF (zS t u d) 5) = true
      rw [a5]; exact k12
    · show keptB _ _ _ _ (zF (zS t u d) 6) = true
      rw [a6]; exact k20
    · show keptB _ _ _ _ (zF (zS t u d) 7) = true
      rw [a7]; exact k21
    · show keptB _ _ _ _ (zF (zS t u d) 8) = true
      rw [a8]; exact kept_self _ _
/-- ZoneSpans. -/
theorem zspans_law {t u d : Sp} {z : Nat → Int} {e : Int} (h : (z, e) = makeZ t.bw u.bw d.bw) (he : e ≠ 8) {a p b q n m f : Int} (hT : okRat a p = true) (hU : okRat b q = true) (hd : addPR b q (-a) p 1 = (n, m, f)) (hf : f = 0) :
    t.ok = true ∧ u.ok = true ∧ d.ok = true ∧ okRat n m = true ∧ fits64 n ∧ (e = 6 → (t.inn (a, p) && (u.inn (b, q) && d.inn (n, m))) = false) ∧ (e ≠ 6 → e = 0 ∧ hasZ z (pt a p b q) = ((t.inn (a, p) && (u.inn (b, q) && d.inn (n, m))), 0)) := by
  rw [make_eq] at h
  unfold madeZ at h
  cases hb : (t.ok && (u.ok && d.ok))
  · rw [hb] at h
    simp only [Bool.false_eq_true, if_false, Prod.mk.injEq] at h
    omega
  rw [hb] at h
  simp only [if_true] at h
  simp only [Bool.and_eq_true] at hb
  obtain ⟨ht, hu, hd'⟩ := hb
  have hsp : okRat n m = true ∧ fits64 n ∧ n * (q * p * 1) = (b * p + -a * q) * m ∧ 0 < m ∧ 0 < q ∧ 0 < p := by
    rcases addPR_spec (by omega) hd with ⟨_, o1, o2, fn, on, hm, h1, h2, h3⟩ | ⟨hne, _⟩
    · exact ⟨on, fn, hm, h1, h2, h3⟩
    · exact absurd hf hne
  obtain ⟨on, fn, hm, h1, h2, h3⟩ := hsp
  have kk := kept_spans ht hu hd' h3 h2 h1 (by rw [← hm])
  have hr : allRat 2 (pt a p b q) = true := by rw [rat2]; simp only [Bool.and_eq_true]; exact ⟨hT, hU⟩
  have hp : ∀ i, i < 3 → 0 < (tm (pt a p b q) i).2 := fun i hi => tm_pos hr i (by omega)
  refine ⟨ht, hu, hd', on, fn, ?_⟩
  rw [← kk]
  rcases closeM_cases (zS_ok ht hu hd') with ⟨c, hc, K⟩ | ⟨hc, hno⟩
  · rw [show closeM 3 9 (zF (zS t u d)) = ⟨3, 9, c, 0⟩ from hc] at h
    simp only [if_true] at h
    cases okc : okD (3 : Nat) (3 * 3) c
    · rw [toldZ_bad okc] at h
      simp only [Prod.mk.injEq] at h
      omega
    · rw [toldZ_ok okc] at h
      simp only [Prod.mk.injEq] at h
      obtain ⟨rfl, rfl⟩ := h
      refine ⟨fun h => by omega, fun _ => ⟨rfl, ?_⟩⟩
      rw [hasZ_of (okZ_of K okc) hr, kept_congr3 (zF_short K), kept_same hp K]
  · rw [show closeM 3 9 (zF (zS t u d)) = errM 6 from hc] at h
    have h6 : e = 6 := by
      have := congrArg Prod.snd h
      simpa [errM] using this
    refine ⟨fun _ => ?_, fun h => absurd h6 h⟩
    cases hk : keptAll 3 (zF (zS t u d)) (pt a p b q)
    · rfl
    · exact absurd ((kept_under hp).1 hk) (none_no hno (tmE_closed hp))
#print axioms zspans_law
#print axioms make_eq
end Go.Proofs.YtpmpapenjcemjaaGreatDoor
