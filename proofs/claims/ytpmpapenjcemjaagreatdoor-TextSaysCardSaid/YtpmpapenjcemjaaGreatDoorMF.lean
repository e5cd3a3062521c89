/- Contracts of the document's layer 5: MayBound, clock, told, One, lesser, Common. Contract of the document's Set (layer 5); what it answers beside tight.Set. Contract of the document's Set (layer 5). Contracts of the document's Set and Meet (layer 5), of all matrices. Contract of the document's Meet (layer 5), of all matrices. Contracts of the document's MaySpan, Below, Above, Between (layer 5). Contract of the document's Between (layer 5), where all may be; what it answers beside tight.Between. Contract of the document's Between (layer 5), of all matrices. -/
import Derived.Test.YtpmpapenjcemjaaGreatDoorMP
import Derived.Test.YtpmpapenjcemjaaGreatDoorME
namespace Go.Proofs.YtpmpapenjcemjaaGreatDoor
set_option linter.unusedSimpArgs false
set_option linter.unusedVariables false
open Go Go.RowKit Go.Shelf
attribute [local go_sem] Nat.add_assoc Nat.add_lt_add_iff_left lit_lt_add

/-- A matrix of the call's own. -/
def rowPost (w : World) (n N : Nat) (f : Nat → Int) (e : Ending) (W : World) : Prop := ∃ B cap, e = .returned (.agg #[.int .i64 n, .slice (some ⟨B, 0, none⟩) N cap]) ∧ w.heap.size ≤ B ∧ B < W.heap.size ∧ HoldsI W B N f ∧ ∃ q, W = Wov w q

theorem lessF_step {f g : Nat → Int} {t : Nat} : (fun x => if x < t + 1 then min (f x) (g x) else f x) = upd (fun x => if x < t then min (f x) (g x) else f x) t (min (f t) (g t)) := by
  funext x
  unfold upd
  by_cases e : x = t
  · subst e; rw [if_pos rfl, if_pos (by omega)]
  · rw [if_neg e]
    show _ = if x < t then min (f x) (g x) else f x
    by_cases h : x < t
    · rw [if_pos h, if_pos (by omega)]
    · rw [if_neg h, if_neg (by omega)]

end Go.Proofs.YtpmpapenjcemjaaGreatDoor

namespace Go.Proofs.YtpmpapenjcemjaaGreatDoor
set_option linter.unusedSimpArgs false
set_option linter.unusedVariables false
open Go Go.RowKit Go.Shelf
attribute [local go_sem] Nat.add_assoc Nat.add_lt_add_iff_left lit_lt_add

/-- The document's answer. -/
def refSetM (n : Int) (N : Nat) (f : Nat → Int) (i j b : Int) : MR :=
  if okD n N f then (if 0 ≤ i ∧ i < n ∧ 0 ≤ j ∧ j < n then (if mayB b then closeM n N (lessF f (upd (topF n.toNat) (i * n + j).toNat b)) else errM 8) else errM 2) else errM 8

theorem topF_may (n : Nat) (x : Nat) : mayB (topF n x) = true := by
  unfold topF
  split
  · decide
  · decide
theorem okD_oneF {n N : Nat} {f : Nat → Int} {x : Nat} {b : Int} (h : okD n N f = true) (hb : mayB b = true) : okD n N (lessF f (upd (topF n) x b)) = true := by
  refine okD_of h fun y hy => mayB_min (okD_may h _ hy) ?_
  unfold upd
  split
  · exact hb
  · exact topF_may n y
/-- A closed one is under a matrix with one bound just if it keeps the bound, besides 0 of each clock. -/
theorem under_one {n a c : Nat} {b : Int} {q : Nat → Nat → EB} (hq : Closed n q) (ha : a < n) (hc : c < n) : Under n q (mE n (upd (topF n) (a * n + c) b)) ↔ ele (q a c) (eb b) := by
  have pt : ∀ i j, i < n → j < n → mE n (upd (topF n) (a * n + c) b) i j = if i = a ∧ j = c then eb b else if i = j then some 1 else none := by
    intro i j hi hj
    unfold mE upd
    by_cases e : i * n + j = a * n + c
    · obtain ⟨rfl, rfl⟩ := place_inj hj hc e
      rw [if_pos rfl, if_pos ⟨rfl, rfl⟩]
    · rw [if_neg e, if_neg (fun ⟨h, g⟩ => e (by rw [h, g])), topF_at hj]
      by_cases h : i = j
      · rw [if_pos h, if_pos h, eb_one]
      · rw [if_neg h, if_neg h, eb_none]
  constructor
  · intro h
    have := h a c ha hc
    rwa [pt a c ha hc, if_pos ⟨rfl, rfl⟩] at this
  · intro h i j hi hj
    rw [pt i j hi hj]
    split
    · rename_i e; obtain ⟨rfl, rfl⟩ := e; exact h
    · split
      · rename_i e; subst e; rw [hq.1 i hi]; exact ele_refl _
      · exact ele_none _
theorem one_le {n a c : Nat} {b : Int} (hb : mayB b = true) : ∀ i j, i < n → j < n → upd (topF n) (a * n + c) b (i * n + j) ≤ noneB := fun i j hi hj => by
  unfold upd
  split
  · exact mayB_le hb
  · exact mayB_le (topF_may n _)
/-- The document's answer is tight's. -/
theorem set_ref (n : Int) (N : Nat) (f : Nat → Int) (i j b : Int) : (setM n N f i j b).e = (refSetM n N f i j b).e ∧ sameM (setM n N f i j b) (refSetM n N f i j b) = true := by
  unfold setM refSetM
  cases hok : okD n N f
  · exact ⟨rfl, sameM_refl _⟩
  · obtain ⟨m, rfl, rfl, hm0, hm4⟩ := okD_form hok
    rw [if_pos rfl, if_pos rfl]
    by_cases h : 0 ≤ i ∧ i < (m : Int) ∧ 0 ≤ j ∧ j < (m : Int)
    · rw [if_pos h, if_pos h]
      cases hb : mayB b
      · exact ⟨rfl, sameM_refl _⟩
      · rw [if_pos rfl, if_pos rfl]
        obtain ⟨a, rfl⟩ : ∃ a : Nat, i = (a : Int) := ⟨i.toNat, by omega⟩
        obtain ⟨c, rfl⟩ : ∃ c : Nat, j = (c : Int) := ⟨j.toNat, by omega⟩
        have ha : a < m := by omega
        have hc : c < m := by omega
        rw [show ((a : Int) * (m : Int) + (c : Int)).toNat = a * m + c from by rw [show (a : Int) * (m : Int) + (c : Int) = ((a * m + c : Nat) : Int) from by push_cast; rfl]; rfl, show ((m : Int)).toNat = m from rfl]
        refine closeM_eq (okD_more hok hb) (okD_oneF hok hb) fun q hq => ?_
        rw [under_more ha hc (okD_le hok) (mayB_le hb), under_less (okD_le hok) (one_le hb), under_one hq ha hc]
    · rw [if_neg h, if_neg h]
      exact ⟨rfl, sameM_refl _⟩
#print axioms set_ref
end Go.Proofs.YtpmpapenjcemjaaGreatDoor

namespace Go.Proofs.YtpmpapenjcemjaaGreatDoor
set_option linter.unusedSimpArgs false
set_option linter.unusedVariables false
open Go Go.RowKit Go.Shelf
attribute [local go_sem] Nat.add_assoc Nat.add_lt_add_iff_left lit_lt_add

theorem OwnP.grow {w0 W W' : World} {p : Option Addr} {N : Nat} {f : Nat → Int} (h : OwnP w0 W p N f) (hb : Below W.heap.size W W') : OwnP w0 W' p N f := by
  rcases h with h | ⟨B, h1, h2, h3, h4⟩
  · exact .inl h
  · exact .inr ⟨B, h1, h2, Nat.lt_of_lt_of_le h3 hb.size, h4.below hb h3⟩

end Go.Proofs.YtpmpapenjcemjaaGreatDoor

namespace Go.Proofs.YtpmpapenjcemjaaGreatDoor
set_option linter.unusedSimpArgs false
set_option linter.unusedVariables false
open Go Go.RowKit Go.Shelf
attribute [local go_sem] Nat.add_assoc Nat.add_lt_add_iff_left lit_lt_add

end Go.Proofs.YtpmpapenjcemjaaGreatDoor

namespace Go.Proofs.YtpmpapenjcemjaaGreatDoor
set_option linter.unusedSimpArgs false
set_option linter.unusedVariables false
open Go Go.RowKit Go.Shelf
attribute [local go_sem] Nat.add_assoc Nat.add_lt_add_iff_left lit_lt_add

end Go.Proofs.YtpmpapenjcemjaaGreatDoor

namespace Go.Proofs.YtpmpapenjcemjaaGreatDoor
set_option linter.unusedSimpArgs false
set_option linter.unusedVariables false
open Go Go.RowKit Go.Shelf
attribute [local go_sem] Nat.add_assoc Nat.add_lt_add_iff_left lit_lt_add

theorem spanB_is {lo hi : Int} {hs : Bool} (h1 : -288230376151711744 ≤ lo) (h2 : lo ≤ 288230376151711744) : spanB lo hi hs false = (decide (lo ≤ hi) && decide (hi ≤ 288230376151711744)) ∧ spanB lo hi hs true = (decide (hi = 0) && !hs) := by
  constructor
  · unfold spanB; rw [decide_eq_true h1, decide_eq_true h2, Bool.eq_iff_iff]; simp; omega
  · unfold spanB; rw [decide_eq_true h1, decide_eq_true h2, Bool.eq_iff_iff]; simp; omega

end Go.Proofs.YtpmpapenjcemjaaGreatDoor

namespace Go.Proofs.YtpmpapenjcemjaaGreatDoor
set_option linter.unusedSimpArgs false
set_option linter.unusedVariables false
open Go Go.RowKit Go.Shelf
attribute [local go_sem] Nat.add_assoc Nat.add_lt_add_iff_left lit_lt_add

/-- The document's answer. -/
def refBetM (n : Int) (N : Nat) (f : Nat → Int) (i lo : Int) (ls : Bool) (hi : Int) (hs op : Bool) : MR :=
  if okD n N f then (if 0 ≤ i ∧ i < n then (if spanB lo hi hs op then closeM n N (lessF f (lessF (upd (topF n.toNat) (0 * n.toNat + i.toNat) (belowB lo ls)) (upd (topF n.toNat) (i.toNat * n.toNat + 0) (aboveB hi hs op)))) else errM 8) else errM 2) else errM 8

theorem okD_two {n N : Nat} {f : Nat → Int} {x y : Nat} {b c : Int} (h : okD n N f = true) (hb : mayB b = true) (hc : mayB c = true) : okD n N (lessF f (lessF (upd (topF n) x b) (upd (topF n) y c))) = true := by
  refine okD_of h fun z hz => mayB_min (okD_may h _ hz) (mayB_min ?_ ?_)
  · unfold upd; split
    · exact hb
    · exact topF_may n z
  · unfold upd; split
    · exact hc
    · exact topF_may n z
theorem between_ref (n : Int) (N : Nat) (f : Nat → Int) (i lo : Int) (ls : Bool) (hi : Int) (hs op : Bool) : (betweenM n N f i lo ls hi hs op).e = (refBetM n N f i lo ls hi hs op).e ∧ sameM (betweenM n N f i lo ls hi hs op) (refBetM n N f i lo ls hi hs op) = true := by
  unfold betweenM refBetM
  cases hok : okD n N f
  · exact ⟨rfl, sameM_refl _⟩
  · obtain ⟨m, rfl, rfl, hm0, hm4⟩ := okD_form hok
    rw [if_pos rfl, if_pos rfl]
    by_cases h : 0 ≤ i ∧ i < (m : Int)
    · rw [if_pos h, if_pos h]
      cases hb : spanB lo hi hs op
      · exact ⟨rfl, sameM_refl _⟩
      · rw [if_pos rfl, if_pos rfl]
        obtain ⟨a, rfl⟩ : ∃ a : Nat, i = (a : Int) := ⟨i.toNat, by omega⟩
        have ha : a < m := by omega
        have b1 := belowB_may (ls := ls) hb
        have b2 := aboveB_may hb
        rw [show ((a : Int) * (m : Int)).toNat = a * m + 0 from by rw [show (a : Int) * (m : Int) = ((a * m : Nat) : Int) from by push_cast; rfl]; rfl, show ((a : Int)).toNat = a from rfl, show ((m : Int)).toNat = m from rfl]
        have e : moreAt f a (belowB lo ls) = moreAt f (0 * m + a) (belowB lo ls) := by rw [Nat.zero_mul, Nat.zero_add]
        rw [e]
        have o1 := okD_more (x := 0 * m + a) hok b1
        refine closeM_eq (okD_more o1 b2) (okD_two hok b1 b2) fun q hq => ?_
        rw [under_more ha hm0 (okD_le o1) (mayB_le b2), under_more hm0 ha (okD_le hok) (mayB_le b1)]
        have l2 : ∀ i j, i < m → j < m → lessF (upd (topF m) (0 * m + a) (belowB lo ls)) (upd (topF m) (a * m + 0) (aboveB hi hs op)) (i * m + j) ≤ noneB := fun i j hi hj => Int.le_trans (Int.min_le_left _ _) (one_le b1 i j hi hj)
        rw [under_less (okD_le hok) l2, under_less (one_le b1) (one_le b2), under_one hq hm0 ha, under_one hq ha hm0, and_assoc]
    · rw [if_neg h, if_neg h]
      exact ⟨rfl, sameM_refl _⟩

end Go.Proofs.YtpmpapenjcemjaaGreatDoor

namespace Go.Proofs.YtpmpapenjcemjaaGreatDoor
set_option linter.unusedSimpArgs false
set_option linter.unusedVariables false
open Go Go.RowKit Go.Shelf
attribute [local go_sem] Nat.add_assoc Nat.add_lt_add_iff_left lit_lt_add

end Go.Proofs.YtpmpapenjcemjaaGreatDoor
