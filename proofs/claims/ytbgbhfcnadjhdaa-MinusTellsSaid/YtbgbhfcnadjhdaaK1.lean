/- Plain laws of law10: the zone of a matrix by closed ones; two bounds more; spans, windows, and zones that are later. No condition. -/
import Derived.Test.YtbgbhfcnadjhdaaJ1
import Derived.Test.YtbgbhfcnadjhdaaH6
namespace Go.Proofs.Ytbgbhfcnadjhdaa
set_option linter.unusedSimpArgs false
set_option linter.unusedVariables false
open Go Go.RowKit

theorem placeZ_lt9 (i : Nat) : placeZ i < 9 := by
  match i with
  | 0 => decide
  | 1 => decide
  | 2 => decide
  | 3 => decide
  | 4 => decide
  | n + 5 => exact (by decide : 5 < 9)
/-- What the zone of a matrix is. -/
theorem ofZ_cases {f : Nat → Int} (ok : okD (3 : Nat) (3 * 3) f = true) :
    (∃ r, ofZ 3 9 f = (r, 0) ∧ okZ r = true ∧ ∀ q, Closed 3 q → (ZU r q ↔ Under 3 q (mE 3 f))) ∨
    (ofZ 3 9 f = (fun _ => 0, 6) ∧ ∀ q, Closed 3 q → ¬ Under 3 q (mE 3 f)) ∨
    (ofZ 3 9 f = (fun _ => 0, 8) ∧ ∃ q, Closed 3 q ∧ Under 3 q (mE 3 f)) := by
  unfold ofZ
  rw [if_pos (show okD 3 9 f = true from ok), if_pos rfl]
  rcases closeM_cases ok with ⟨c, hc, K⟩ | ⟨hc, hno⟩
  · rw [show closeM 3 9 f = ⟨3, 9, c, 0⟩ from hc, if_pos rfl]
    cases hk : okD (3 : Nat) (3 * 3) c
    · exact .inr (.inr ⟨toldZ_bad hk, _, K.closed.1, K.closed.2⟩)
    · refine .inl ⟨shortZ c, toldZ_ok hk, okZ_of K hk, fun q hq => ?_⟩
      rw [K.iff hq]
      exact ⟨under3_congr (zF_short K), under3_congr fun x hx => (zF_short K x hx).symm⟩
  · rw [show closeM 3 9 f = errM 6 from hc]
    exact .inr (.inl ⟨rfl, fun q hq hk => none_no hno hq hk⟩)
/-- Matrices with the same closed ones under them have the same zone. -/
theorem ofZ_eq {f g : Nat → Int} (hf : okD (3 : Nat) (3 * 3) f = true) (hg : okD (3 : Nat) (3 * 3) g = true) (h : ∀ q, Closed 3 q → (Under 3 q (mE 3 f) ↔ Under 3 q (mE 3 g))) : ofZ 3 9 f = ofZ 3 9 g := by
  unfold ofZ
  rw [if_pos (show okD 3 9 f = true from hf), if_pos rfl, if_pos (show okD 3 9 g = true from hg), if_pos rfl]
  rcases closeM_cases hf with ⟨c, hc, K⟩ | ⟨hc, hno⟩
  · rcases closeM_cases hg with ⟨c', hc', K'⟩ | ⟨hc', hno⟩
    · rw [show closeM 3 9 f = ⟨3, 9, c, 0⟩ from hc, show closeM 3 9 g = ⟨3, 9, c', 0⟩ from hc', if_pos rfl, if_pos rfl]
      have e : ∀ x, x < 9 → c x = c' x := fun x hx => by
        obtain ⟨i, j, hi, hj, rfl⟩ := at_place (n := 3) hx
        refine eb_inj (ele_antisymm ?_ ?_)
        · exact (K'.iff K.closed.1).1 ((h _ K.closed.1).1 K.closed.2) i j hi hj
        · exact (K.iff K'.closed.1).1 ((h _ K'.closed.1).2 K'.closed.2) i j hi hj
      have es : shortZ c = shortZ c' := funext fun i => e _ (placeZ_lt9 i)
      cases hk : okD (3 : Nat) (3 * 3) c
      · have hk' : okD (3 : Nat) (3 * 3) c' = false := by
          cases h' : okD (3 : Nat) (3 * 3) c'
          · rfl
          · rw [okD_of (f := c') (g := c) h' fun x hx => by rw [e x hx]; exact okD_may h' x hx] at hk; cases hk
        rw [toldZ_bad hk, toldZ_bad hk']
      · have hk' : okD (3 : Nat) (3 * 3) c' = true := okD_of (f := c) hk fun x hx => by rw [← e x hx]; exact okD_may hk x hx
        rw [toldZ_ok hk, toldZ_ok hk', es]
    · exact absurd ((h _ K.closed.1).1 K.closed.2) (none_no hno K.closed.1)
  · rcases closeM_cases hg with ⟨c', hc', K'⟩ | ⟨hc', _⟩
    · exact absurd ((h _ K'.closed.1).2 K'.closed.2) (none_no hno K'.closed.1)
    · rw [show closeM 3 9 f = errM 6 from hc, show closeM 3 9 g = errM 6 from hc']
theorem okD_upd {z : Nat → Int} (h : okD (3 : Nat) (3 * 3) (zF z) = true) {t : Nat} (ht : t < 6) {b : Int} (hb : mayB b = true) : okD (3 : Nat) (3 * 3) (zF (upd z t (min (z t) b))) = true := by
  refine okD_of h fun x hx => ?_
  rw [zF_with z ht b x hx]
  exact okD_may (okD_more h hb) x hx
theorem under_upd {z : Nat → Int} (h : okD (3 : Nat) (3 * 3) (zF z) = true) {t : Nat} (ht : t < 6) {b : Int} (hb : mayB b = true) {q : Nat → Nat → EB} : Under 3 q (mE 3 (zF (upd z t (min (z t) b)))) ↔ ZU z q ∧ HB q t b := by
  obtain ⟨p1, p2, _⟩ := pIJ ht
  unfold ZU HB
  rw [← under_more p1 p2 (okD_le h) (mayB_le hb)]
  exact ⟨under3_congr (zF_with z ht b), under3_congr fun x hx => (zF_with z ht b x hx).symm⟩
/-- A zone with two bounds more, before it is closed. -/
def W2 (z : Nat → Int) (t : Nat) (b : Int) (s : Nat) (c : Int) : Nat → Int := upd (upd z t (min (z t) b)) s (min (upd z t (min (z t) b) s) c)
def with2Z (z : Nat → Int) (t : Nat) (b : Int) (s : Nat) (c : Int) : (Nat → Int) × Int := ofZ 3 9 (zF (W2 z t b s c))
section
variable {z : Nat → Int} {t s : Nat} {b c : Int}
theorem okD_W2 (h : okD (3 : Nat) (3 * 3) (zF z) = true) (ht : t < 6) (hs : s < 6) (hb : mayB b = true) (hc : mayB c = true) : okD (3 : Nat) (3 * 3) (zF (W2 z t b s c)) = true := okD_upd (okD_upd h ht hb) hs hc
theorem under_W2 (h : okD (3 : Nat) (3 * 3) (zF z) = true) (ht : t < 6) (hs : s < 6) (hb : mayB b = true) (hc : mayB c = true) {q : Nat → Nat → EB} : Under 3 q (mE 3 (zF (W2 z t b s c))) ↔ ZU z q ∧ HB q t b ∧ HB q s c := by
  unfold W2
  rw [under_upd (okD_upd h ht hb) hs hc]
  unfold ZU
  rw [under_upd h ht hb, and_assoc]
  exact Iff.rfl
theorem with2_cases (h : okZ z = true) (ht : t < 6) (hs : s < 6) (hb : mayB b = true) (hc : mayB c = true) :
    (∃ r, with2Z z t b s c = (r, 0) ∧ okZ r = true ∧ ∀ q, Closed 3 q → (ZU r q ↔ ZU z q ∧ HB q t b ∧ HB q s c)) ∨
    (with2Z z t b s c = (fun _ => 0, 6) ∧ ∀ q, Closed 3 q → ¬ (ZU z q ∧ HB q t b ∧ HB q s c)) ∨
    (with2Z z t b s c = (fun _ => 0, 8) ∧ ∃ q, Closed 3 q ∧ ZU z q ∧ HB q t b ∧ HB q s c) := by
  have ok := okD_W2 (okZ_okD h) ht hs hb hc
  have hu := fun q => under_W2 (q := q) (okZ_okD h) ht hs hb hc
  rcases ofZ_cases ok with ⟨r, h1, h2, h3⟩ | ⟨h1, h2⟩ | ⟨h1, q, h2, h3⟩
  · exact .inl ⟨r, h1, h2, fun q hq => (h3 q hq).trans (hu q)⟩
  · exact .inr (.inl ⟨h1, fun q hq hk => h2 q hq ((hu q).2 hk)⟩)
  · exact .inr (.inr ⟨h1, q, h2, (hu q).1 h3⟩)
end
/-- May a number be a bound's of a matrix. -/
def fitsW (n : Int) : Bool := decide (-288230376151711744 ≤ n) && decide (n ≤ 288230376151711744)
theorem fitsW_bd {n : Int} (h : fitsW n = true) : -288230376151711744 ≤ n ∧ n ≤ 288230376151711744 := by simpa [fitsW] using h
/-- The zone of pairs whose difference is in a span. -/
def withinZ (z : Nat → Int) (s : Sp) : (Nat → Int) × Int := if okZ z then (if s.bw.e = 0 then with2Z z 4 s.abo 5 s.bel else (fun _ => 0, s.bw.e)) else (fun _ => 0, 8)
def windowOK (a b : Int) : Bool := fitsW a && (fitsW b && decide (a < b))
/-- The zone of pairs that end in a window. -/
def windowZ (z : Nat → Int) (a b : Int) : (Nat → Int) × Int := if okZ z then (if windowOK a b then with2Z z 2 (mkB b false) 3 (mkB (-a) true) else (fun _ => 0, 2)) else (fun _ => 0, 8)
/-- A bound with a number more. -/
def mvB (b n : Int) : Int := if b = noneB then noneB else b + 2 * n
def movZ (z : Nat → Int) (n : Int) : Nat → Int
  | 0 => mvB (z 0) n | 1 => mvB (z 1) (-n) | 2 => mvB (z 2) n | 3 => mvB (z 3) (-n) | 4 => z 4 | _ => z 5
/-- A later zone. -/
def shiftZ (z : Nat → Int) (n : Int) : (Nat → Int) × Int := if okZ z then (if fitsW n then (if okZ (movZ z n) then (movZ z n, 0) else (fun _ => 0, 8)) else (fun _ => 0, 2)) else (fun _ => 0, 8)
/-- What is in a span, by closed ones. -/
def InD (s : Sp) (q : Nat → Nat → EB) : Prop := HB q 4 s.abo ∧ HB q 5 s.bel
def InW (a b : Int) (q : Nat → Nat → EB) : Prop := HB q 2 (mkB b false) ∧ HB q 3 (mkB (-a) true)
theorem within_bad {z : Nat → Int} {s : Sp} (h : okZ z = false) : withinZ z s = (fun _ => 0, 8) := by unfold withinZ; rw [h]; rfl
theorem window_bad {z : Nat → Int} {a b : Int} (h : okZ z = false) : windowZ z a b = (fun _ => 0, 8) := by unfold windowZ; rw [h]; rfl
theorem window_arg {z : Nat → Int} {a b : Int} (h : okZ z = true) (h2 : windowOK a b = false) : windowZ z a b = (fun _ => 0, 2) := by unfold windowZ; rw [h, h2]; rfl
theorem windowOK_bd {a b : Int} (h : windowOK a b = true) : -288230376151711744 ≤ a ∧ a ≤ 288230376151711744 ∧ -288230376151711744 ≤ b ∧ b ≤ 288230376151711744 ∧ a < b := by
  simp only [windowOK, Bool.and_eq_true, decide_eq_true_eq] at h
  obtain ⟨h1, h2, h3⟩ := h
  have := fitsW_bd h1; have := fitsW_bd h2
  omega
theorem win_may {a b : Int} (h : windowOK a b = true) : mayB (mkB b false) = true ∧ mayB (mkB (-a) true) = true := by
  have := windowOK_bd h
  exact ⟨mkB_may (by omega) (by omega), mkB_may (by omega) (by omega)⟩
/-- What Within gives. -/
theorem within_cases {z : Nat → Int} {s : Sp} (h : okZ z = true) :
    (s.ok = true ∧ ∃ r, withinZ z s = (r, 0) ∧ okZ r = true ∧ ∀ q, Closed 3 q → (ZU r q ↔ ZU z q ∧ InD s q)) ∨
    (s.ok = true ∧ withinZ z s = (fun _ => 0, 6) ∧ ∀ q, Closed 3 q → ¬ (ZU z q ∧ InD s q)) ∨
    (s.ok = true ∧ withinZ z s = (fun _ => 0, 8) ∧ ∃ q, Closed 3 q ∧ ZU z q ∧ InD s q) ∨
    (s.ok = false ∧ withinZ z s = (fun _ => 0, 8)) := by
  unfold withinZ
  rw [if_pos h]
  rcases bw_cases s with ⟨h1, h2⟩ | ⟨h1, h2⟩ | ⟨h1, h2, h3, h4⟩
  · rw [h2]; exact .inr (.inr (.inr ⟨h1, rfl⟩))
  · rw [h2]
    refine .inr (.inl ⟨h1, rfl, fun q hq hk => ?_⟩)
    have := span_some (ls := s.ls) h1 hq (a := 1) (b := 2) (by omega) (by omega) hk.2.2 hk.2.1
    rw [show (betwS s.lo s.ls s.hi s.hs s.op).e = s.bw.e from rfl, h2] at this
    omega
  · rw [h2, if_pos rfl]
    rcases with2_cases h (t := 4) (s := 5) (by omega) (by omega) (aboveB_may h1 : mayB s.abo = true) (belowB_may h1 : mayB s.bel = true) with h5 | h5 | h5
    · exact .inl ⟨h1, h5⟩
    · exact .inr (.inl ⟨h1, h5⟩)
    · exact .inr (.inr (.inl ⟨h1, h5⟩))
/-- What Window gives. -/
theorem window_cases {z : Nat → Int} {a b : Int} (h : okZ z = true) :
    (windowOK a b = true ∧ ∃ r, windowZ z a b = (r, 0) ∧ okZ r = true ∧ ∀ q, Closed 3 q → (ZU r q ↔ ZU z q ∧ InW a b q)) ∨
    (windowOK a b = true ∧ windowZ z a b = (fun _ => 0, 6) ∧ ∀ q, Closed 3 q → ¬ (ZU z q ∧ InW a b q)) ∨
    (windowOK a b = true ∧ windowZ z a b = (fun _ => 0, 8) ∧ ∃ q, Closed 3 q ∧ ZU z q ∧ InW a b q) ∨
    (windowOK a b = false ∧ windowZ z a b = (fun _ => 0, 2)) := by
  cases h1 : windowOK a b
  · exact .inr (.inr (.inr ⟨rfl, window_arg h h1⟩))
  · unfold windowZ
    rw [if_pos h, h1, if_pos rfl]
    obtain ⟨m1, m2⟩ := win_may h1
    rcases with2_cases h (t := 2) (s := 3) (by omega) (by omega) m1 m2 with h5 | h5 | h5
    · exact .inl ⟨rfl, h5⟩
    · exact .inr (.inl ⟨rfl, h5⟩)
    · exact .inr (.inr (.inl ⟨rfl, h5⟩))
theorem within_eq {z y : Nat → Int} {s : Sp} (hz : okZ z = true) (hy : okZ y = true) (h1 : s.ok = true) (h : ∀ q, Closed 3 q → (ZU z q ∧ InD s q ↔ ZU y q ∧ InD s q)) : withinZ z s = withinZ y s := by
  unfold withinZ
  rw [if_pos hz, if_pos hy]
  by_cases he : s.bw.e = 0
  · rw [if_pos he, if_pos he]
    refine ofZ_eq (okD_W2 (okZ_okD hz) (by omega) (by omega) (aboveB_may h1) (belowB_may h1)) (okD_W2 (okZ_okD hy) (by omega) (by omega) (aboveB_may h1) (belowB_may h1)) fun q hq => ?_
    have m1 : mayB s.abo = true := aboveB_may h1
    have m2 : mayB s.bel = true := belowB_may h1
    rw [under_W2 (t := 4) (s := 5) (okZ_okD hz) (by omega) (by omega) m1 m2, under_W2 (t := 4) (s := 5) (okZ_okD hy) (by omega) (by omega) m1 m2]
    exact h q hq
  · rw [if_neg he, if_neg he]
end Go.Proofs.Ytbgbhfcnadjhdaa
