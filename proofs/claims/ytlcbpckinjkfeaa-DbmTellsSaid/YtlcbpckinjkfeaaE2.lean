/- A matrix and an error's number as a call's result; what is known of results. No condition. -/
import Derived.Test.YtlcbpckinjkfeaaE6
namespace Go.Proofs.Ytlcbpckinjkfeaa
set_option linter.unusedSimpArgs false
set_option linter.unusedVariables false
open Go Go.RowKit

/-- Bounds of the call's own, or none. -/
def OwnP (w W : World) (p : Option Addr) (N : Nat) (f : Nat → Int) : Prop := N = 0 ∨ ∃ B, p = some ⟨B, 0, none⟩ ∧ w.heap.size ≤ B ∧ B < W.heap.size ∧ HoldsI W B N f
theorem OwnP.slp {w W : World} {p : Option Addr} {N : Nat} {f : Nat → Int} (h : OwnP w W p N f) : SlP W p N f := by
  rcases h with h | ⟨B, rfl, _, hB, hh⟩
  · exact .inl h
  · exact slp_of hh hB
/-- A result: a matrix and an error's number. -/
def matC (w : World) (n : Int) (N : Nat) (f : Nat → Int) (e0 : Int) (e : Ending) (W : World) : Prop :=
  (∃ p cap, e = .returned (.tuple #[.agg #[.int .i64 n, .slice p N cap], .int .i64 e0]) ∧ OwnP w W p N f) ∧ ∃ q, W = Wov w q
theorem matC_of_close {w W : World} {n : Int} {N : Nat} {r : Option (Nat → Int) × Int} {e : Ending} (h : closePost w n N r e W) : matC w (mR n N r).n (mR n N r).N (mR n N r).f (mR n N r).e e W := by
  obtain ⟨h, hq⟩ := h
  refine ⟨?_, hq⟩
  obtain ⟨r1, r2⟩ := r
  cases r1 with
  | none => exact ⟨none, 0, h, .inl rfl⟩
  | some c =>
    obtain ⟨B, cap, h1, h2, h3, h4⟩ := h
    exact ⟨_, cap, h1, .inr ⟨B, rfl, h2, h3, h4⟩⟩
theorem closeM_any (n : Int) (p : Option Addr) (N cap : Nat) (f : Nat → Int) (w : World) (hn : fits64 n) (hS : SlP w p N f) (hF : Fits N f) (hN : N ≤ 1000000) :
    Calls Try.prog 29 #[.agg #[.int .i64 n, .slice p N cap]] w (matC w (closeM n N f).n (closeM n N f).N (closeM n N f).f (closeM n N f).e) :=
  (close_any n p N cap f w hn hS hF hN).mono fun _ _ h => matC_of_close h
theorem matC_err {w W : World} {e0 : Int} {e : Ending} (he : e = .returned (.tuple #[.agg #[.int .i64 0, .slice none 0 0], .int .i64 e0])) (h : Below w.heap.size w W) : matC w (errM e0).n (errM e0).N (errM e0).f (errM e0).e e W :=
  ⟨⟨none, 0, he, .inl rfl⟩, Wov_of_below h⟩
/-- Behind another call, from an earlier world. -/
theorem matC.later {w0 w W : World} {n : Int} {N : Nat} {f : Nat → Int} {e0 : Int} {e : Ending} (h : matC w n N f e0 e W) (hb : Below w0.heap.size w0 w) : matC w0 n N f e0 e W := by
  obtain ⟨⟨p, cap, he, ho⟩, q, rfl⟩ := h
  refine ⟨⟨p, cap, he, ?_⟩, ?_⟩
  · rcases ho with ho | ⟨B, h1, h2, h3, h4⟩
    · exact .inl ho
    · exact .inr ⟨B, h1, by have := hb.size; omega, h3, h4⟩
  · exact Wov_of_below (hb.trans ((below_Wov w q).mono hb.size))

/-- What a result's numbers are. -/
structure MRok (r : MR) : Prop where
  n : fits64 r.n
  f : Fits r.N r.f
  N : r.N ≤ 16
theorem errM_ok (e : Int) : MRok (errM e) := ⟨by unfold errM fits64; simp, fun x hx => by simp [errM] at hx, by simp [errM]⟩
theorem closedI_fits {n : Nat} {f c : Nat → Int} (K : ClosedI n f c) : Fits (n * n) c := fun x hx => by
  obtain ⟨i, j, hi, hj, rfl⟩ := at_place hx
  rcases K.bound i j hi hj with h | h
  · rw [h]; unfold noneB fits64; omega
  · unfold bnum at h; unfold fits64; omega
theorem closeM_ok (n : Int) (N : Nat) (f : Nat → Int) : MRok (closeM n N f) := by
  cases hok : okD n N f
  · rw [closeM_bad hok]; exact errM_ok 8
  · obtain ⟨m, rfl, rfl, hm0, hm4⟩ := okD_form hok
    rcases closeM_cases hok with ⟨c, h, K⟩ | ⟨h, _⟩
    · rw [h]
      have : m * m ≤ 4 * 4 := Nat.mul_le_mul hm4 hm4
      exact ⟨by show fits64 (m : Int); unfold fits64; omega, closedI_fits K, this⟩
    · rw [h]; exact errM_ok 6
theorem setM_ok (n : Int) (N : Nat) (f : Nat → Int) (i j b : Int) : MRok (setM n N f i j b) := by
  rcases setM_cases n N f i j b with ⟨e, h, _⟩ | ⟨m, a, c, _, _, _, _, _, _, _, _, _, _, h⟩
  · rw [h]; exact errM_ok e
  · rw [h]; exact closeM_ok _ _ _
theorem meetM_ok (n1 : Int) (N1 : Nat) (f1 : Nat → Int) (n2 : Int) (N2 : Nat) (f2 : Nat → Int) : MRok (meetM n1 N1 f1 n2 N2 f2) := by
  rcases meetM_cases n1 N1 f1 n2 N2 f2 with ⟨e, h, _⟩ | ⟨m, _, _, _, _, _, _, _, _, h⟩
  · rw [h]; exact errM_ok e
  · rw [h]; exact closeM_ok _ _ _
theorem mayB_fits {x : Int} (h : mayB x = true) : fits64 x := by
  rcases mayB_bd h with h | h
  · rw [h]; unfold noneB fits64; omega
  · unfold bnum at h; unfold fits64; omega
end Go.Proofs.Ytlcbpckinjkfeaa
