/- Zones: what zone.Make gives. No condition. -/
import Derived.Test.YtpmpapenjcemjaaGreatDoorH3
namespace Go.Proofs.YtpmpapenjcemjaaGreatDoor
set_option linter.unusedSimpArgs false
set_option linter.unusedVariables false
open Go Go.RowKit Go.Shelf
attribute [local go_sem] Nat.add_assoc Nat.add_lt_add_iff_left lit_lt_add

/-- A block that holds numbers, in bounds. -/
structure HoldsA (W : World) (B N : Nat) (f : Nat → Int) : Prop where
  lt : B < W.heap.size
  holds : HoldsI W B N f
theorem HoldsA.below {W V : World} {B N : Nat} {f : Nat → Int} (h : HoldsA W B N f) (hb : Below W.heap.size W V) : HoldsA V B N f := ⟨Nat.lt_of_lt_of_le h.lt hb.size, h.holds.below hb h.lt⟩
theorem wpList_world {P : Program} {ops : Array Oper} {Q : Exit → Act → World → Prop} {l : List Oper} {a : Act} {W0 : World} (F : World → Prop) (hF : F W0) (h : ∀ W, F W → wpList P ops Q l a W) : wpList P ops Q l a W0 := h _ hF
theorem slots121 {P : Program} {ops : Array Oper} {Q : Exit → Act → World → Prop} {l : List Oper} {D : List Deferred} {W : World} {s6 s7 s118 : Value} {t0 t1 t2 t3 t4 t5 t8 t9 t10 t11 t12 t13 t14 t15 t16 t17 t18 t19 t20 t21 t22 t23 t24 t25 t26 t27 t28 t29 t30 t31 t32 t33 t34 t35 t36 t37 t38 t39 t40 t41 t42 t43 t44 t45 t46 t47 t48 t49 t50 t51 t52 t53 t54 t55 t56 t57 t58 t59 t60 t61 t62 t63 t64 t65 t66 t67 t68 t69 t70 t71 t72 t73 t74 t75 t76 t77 t78 t79 t80 t81 t82 t83 t84 t85 t86 t87 t88 t89 t90 t91 t92 t93 t94 t95 t96 t97 t98 t99 t100 t101 t102 t103 t104 t105 t106 t107 t108 t109 t110 t111 t112 t113 t114 t115 t116 t117 t119 t120 : Value} (h : ∀ t0 t1 t2 t3 t4 t5 t8 t9 t10 t11 t12 t13 t14 t15 t16 t17 t18 t19 t20 t21 t22 t23 t24 t25 t26 t27 t28 t29 t30 t31 t32 t33 t34 t35 t36 t37 t38 t39 t40 t41 t42 t43 t44 t45 t46 t47 t48 t49 t50 t51 t52 t53 t54 t55 t56 t57 t58 t59 t60 t61 t62 t63 t64 t65 t66 t67 t68 t69 t70 t71 t72 t73 t74 t75 t76 t77 t78 t79 t80 t81 t82 t83 t84 t85 t86 t87 t88 t89 t90 t91 t92 t93 t94 t95 t96 t97 t98 t99 t100 t101 t102 t103 t104 t105 t106 t107 t108 t109 t110 t111 t112 t113 t114 t115 t116 t117 t119 t120 : Value, wpList P ops Q l { tmps := (t0 :: t1 :: t2 :: t3 :: t4 :: t5 :: s6 :: s7 :: t8 :: t9 :: t10 :: t11 :: t12 :: t13 :: t14 :: t15 :: t16 :: t17 :: t18 :: t19 :: t20 :: t21 :: t22 :: t23 :: t24 :: t25 :: t26 :: t27 :: t28 :: t29 :: t30 :: t31 :: t32 :: t33 :: t34 :: t35 :: t36 :: t37 :: t38 :: t39 :: t40 :: t41 :: t42 :: t43 :: t44 :: t45 :: t46 :: t47 :: t48 :: t49 :: t50 :: t51 :: t52 :: t53 :: t54 :: t55 :: t56 :: t57 :: t58 :: t59 :: t60 :: t61 :: t62 :: t63 :: t64 :: t65 :: t66 :: t67 :: t68 :: t69 :: t70 :: t71 :: t72 :: t73 :: t74 :: t75 :: t76 :: t77 :: t78 :: t79 :: t80 :: t81 :: t82 :: t83 :: t84 :: t85 :: t86 :: t87 :: t88 :: t89 :: t90 :: t91 :: t92 :: t93 :: t94 :: t95 :: t96 :: t97 :: t98 :: t99 :: t100 :: t101 :: t102 :: t103 :: t104 :: t105 :: t106 :: t107 :: t108 :: t109 :: t110 :: t111 :: t112 :: t113 :: t114 :: t115 :: t116 :: t117 :: s118 :: t119 :: t120 :: []).toArray, defers := D } W) : wpList P ops Q l { tmps := (t0 :: t1 :: t2 :: t3 :: t4 :: t5 :: s6 :: s7 :: t8 :: t9 :: t10 :: t11 :: t12 :: t13 :: t14 :: t15 :: t16 :: t17 :: t18 :: t19 :: t20 :: t21 :: t22 :: t23 :: t24 :: t25 :: t26 :: t27 :: t28 :: t29 :: t30 :: t31 :: t32 :: t33 :: t34 :: t35 :: t36 :: t37 :: t38 :: t39 :: t40 :: t41 :: t42 :: t43 :: t44 :: t45 :: t46 :: t47 :: t48 :: t49 :: t50 :: t51 :: t52 :: t53 :: t54 :: t55 :: t56 :: t57 :: t58 :: t59 :: t60 :: t61 :: t62 :: t63 :: t64 :: t65 :: t66 :: t67 :: t68 :: t69 :: t70 :: t71 :: t72 :: t73 :: t74 :: t75 :: t76 :: t77 :: t78 :: t79 :: t80 :: t81 :: t82 :: t83 :: t84 :: t85 :: t86 :: t87 :: t88 :: t89 :: t90 :: t91 :: t92 :: t93 :: t94 :: t95 :: t96 :: t97 :: t98 :: t99 :: t100 :: t101 :: t102 :: t103 :: t104 :: t105 :: t106 :: t107 :: t108 :: t109 :: t110 :: t111 :: t112 :: t113 :: t114 :: t115 :: t116 :: t117 :: s118 :: t119 :: t120 :: []).toArray, defers := D } W := h t0 t1 t2 t3 t4 t5 t8 t9 t10 t11 t12 t13 t14 t15 t16 t17 t18 t19 t20 t21 t22 t23 t24 t25 t26 t27 t28 t29 t30 t31 t32 t33 t34 t35 t36 t37 t38 t39 t40 t41 t42 t43 t44 t45 t46 t47 t48 t49 t50 t51 t52 t53 t54 t55 t56 t57 t58 t59 t60 t61 t62 t63 t64 t65 t66 t67 t68 t69 t70 t71 t72 t73 t74 t75 t76 t77 t78 t79 t80 t81 t82 t83 t84 t85 t86 t87 t88 t89 t90 t91 t92 t93 t94 t95 t96 t97 t98 t99 t100 t101 t102 t103 t104 t105 t106 t107 t108 t109 t110 t111 t112 t113 t114 t115 t116 t117 t119 t120
theorem holdsA_chg {W V : World} {A B N : Nat} {f : Nat → Int} (h : HoldsA W A N f) (hc : Chg W B V) (hn : A ≠ B) : HoldsA V A N f := ⟨Nat.lt_of_lt_of_le h.lt hc.size, h.holds.of_block (hc.block A h.lt hn)⟩
theorem HoldsA.zone {W : World} {A : Nat} {t : TypeId} (hA : A = W.heap.size) : HoldsA (W.alloc (.cells #[.int .i64 0, .int .i64 0, .int .i64 0, .int .i64 0, .int .i64 0, .int .i64 0] t)) A 6 (fun _ => 0) := by
  subst hA
  refine ⟨by simp, fun x hx => ?_⟩
  have : x = 0 ∨ x = 1 ∨ x = 2 ∨ x = 3 ∨ x = 4 ∨ x = 5 := by omega
  rcases this with rfl | rfl | rfl | rfl | rfl | rfl <;> (constructor <;> simp [go_sem])

/-- The matrix of a span alone. -/
def betwS (lo : Int) (ls : Bool) (hi : Int) (hs op : Bool) : MR := betweenM 2 4 (topF 2) 1 lo ls hi hs op
/-- What a span alone gives. -/
theorem betwS_cases (lo : Int) (ls : Bool) (hi : Int) (hs op : Bool) : ((betwS lo ls hi hs op).e = 8 ∨ (betwS lo ls hi hs op).e = 6) ∨ ((betwS lo ls hi hs op).n = 2 ∧ (betwS lo ls hi hs op).N = 4 ∧ (betwS lo ls hi hs op).e = 0 ∧ Fits 4 (betwS lo ls hi hs op).f) := by
  unfold betwS
  have ok : okD 2 4 (topF 2) = true := by decide
  have hd : betweenM 2 4 (topF 2) 1 lo ls hi hs op = if spanB lo hi hs op = true then closeM 2 4 (moreAt (moreAt (topF 2) 1 (belowB lo ls)) 2 (aboveB hi hs op)) else errM 8 := by
    unfold betweenM
    rw [ok, if_pos rfl, if_pos (by decide)]
    rfl
  rw [hd]
  cases hb : spanB lo hi hs op
  · exact .inl (.inl rfl)
  · rw [if_pos rfl]
    have ok2 : okD (2 : Nat) (2 * 2) (moreAt (moreAt (topF 2) 1 (belowB lo ls)) 2 (aboveB hi hs op)) = true := okD_more (okD_more ok (belowB_may hb)) (aboveB_may hb)
    have mo := closeM_ok 2 4 (moreAt (moreAt (topF 2) 1 (belowB lo ls)) 2 (aboveB hi hs op))
    rcases closeM_cases ok2 with ⟨c, hc, K⟩ | ⟨hc, _⟩
    · have hc' : closeM 2 4 (moreAt (moreAt (topF 2) 1 (belowB lo ls)) 2 (aboveB hi hs op)) = ⟨2, 4, c, 0⟩ := hc
      rw [hc'] at mo ⊢
      exact .inr ⟨rfl, rfl, rfl, mo.f⟩
    · have hc' : closeM 2 4 (moreAt (moreAt (topF 2) 1 (belowB lo ls)) 2 (aboveB hi hs op)) = errM 6 := hc
      rw [hc']; exact .inl (.inr rfl)
/-- The zone of spans before it is closed. -/
def spansZ (ft fu fd : Nat → Int) : Nat → Int
  | 0 => ft 2 | 1 => ft 1 | 2 => fu 2 | 3 => fu 1 | 4 => fd 2 | _ => fd 1
def eee (a b c : Int) : Nat → Int
  | 0 => a | 1 => b | _ => c
theorem slp_three (X : World) (t : TypeId) (a b c : Int) : SlP (X.alloc (.cells #[.int .i64 a, .int .i64 b, .int .i64 c] t)) (some ⟨X.heap.size, 0, none⟩) 3 (eee a b c) := by
  refine .inr ⟨X.heap.size, 0, rfl, by simp, fun x hx => ?_⟩
  have : x = 0 ∨ x = 1 ∨ x = 2 := by omega
  rcases this with rfl | rfl | rfl <;> simp [go_sem, eee]
theorem hasE_none {a b c v : Int} (h : hasE 3 (eee a b c) v = false) : v ≠ a ∧ v ≠ b ∧ v ≠ c := by
  refine ⟨fun e => ?_, fun e => ?_, fun e => ?_⟩
  · rw [hasE_t (t := 0) (by omega) e] at h; cases h
  · rw [hasE_t (t := 1) (by omega) e] at h; cases h
  · rw [hasE_t (t := 2) (by omega) e] at h; cases h
theorem spansZ_fits {ft fu fd : Nat → Int} (h1 : Fits 4 ft) (h2 : Fits 4 fu) (h3 : Fits 4 fd) : FitsZ (spansZ ft fu fd) := by
  intro i hi
  have : i = 0 ∨ i = 1 ∨ i = 2 ∨ i = 3 ∨ i = 4 ∨ i = 5 := by omega
  rcases this with rfl | rfl | rfl | rfl | rfl | rfl
  · exact h1 2 (by omega)
  · exact h1 1 (by omega)
  · exact h2 2 (by omega)
  · exact h2 1 (by omega)
  · exact h3 2 (by omega)
  · exact h3 1 (by omega)
def makeZ (t u d : MR) : (Nat → Int) × Int :=
  if hasE 3 (eee d.e u.e t.e) 8 then (fun _ => 0, 8) else if hasE 3 (eee d.e u.e t.e) 6 then (fun _ => 0, 6) else ofZ 3 9 (zF (spansZ t.f u.f d.f))
theorem makeZ_8 {t u d : MR} (h : hasE 3 (eee d.e u.e t.e) 8 = true) : makeZ t u d = (fun _ => 0, 8) := by unfold makeZ; rw [if_pos h]
theorem makeZ_6 {t u d : MR} (h : hasE 3 (eee d.e u.e t.e) 8 = false) (h6 : hasE 3 (eee d.e u.e t.e) 6 = true) : makeZ t u d = (fun _ => 0, 6) := by unfold makeZ; rw [if_neg (by rw [h]; decide), if_pos h6]
theorem makeZ_0 {t u d : MR} (h : hasE 3 (eee d.e u.e t.e) 8 = false) (h6 : hasE 3 (eee d.e u.e t.e) 6 = false) : makeZ t u d = ofZ 3 9 (zF (spansZ t.f u.f d.f)) := by unfold makeZ; rw [if_neg (by rw [h]; decide), if_neg (by rw [h6]; decide)]
theorem makeZ_00 (ft fu fd : Nat → Int) : makeZ ⟨2, 4, ft, 0⟩ ⟨2, 4, fu, 0⟩ ⟨2, 4, fd, 0⟩ = ofZ 3 9 (zF (spansZ ft fu fd)) := makeZ_0 (show hasE 3 (eee 0 0 0) 8 = false by decide) (show hasE 3 (eee 0 0 0) 6 = false by decide)
/-- Two spans in a row. -/
structure TwoS (W : World) (A : Nat) (lo : Int) (ls : Bool) (hi : Int) (hs op : Bool) (lo' : Int) (ls' : Bool) (hi' : Int) (hs' op' : Bool) : Prop where
  lt : A < W.heap.size
  c0 : W.cell? ⟨A, 0, none⟩ = some (.int .i64 lo)
  c1 : W.cell? ⟨A, 1, none⟩ = some (.bool ls)
  c2 : W.cell? ⟨A, 2, none⟩ = some (.int .i64 hi)
  c3 : W.cell? ⟨A, 3, none⟩ = some (.bool hs)
  c4 : W.cell? ⟨A, 4, none⟩ = some (.bool op)
  c5 : W.cell? ⟨A, 5, none⟩ = some (.int .i64 lo')
  c6 : W.cell? ⟨A, 6, none⟩ = some (.bool ls')
  c7 : W.cell? ⟨A, 7, none⟩ = some (.int .i64 hi')
  c8 : W.cell? ⟨A, 8, none⟩ = some (.bool hs')
  c9 : W.cell? ⟨A, 9, none⟩ = some (.bool op')
theorem TwoS.below {W V : World} {A : Nat} {lo : Int} {ls : Bool} {hi : Int} {hs op : Bool} {lo' : Int} {ls' : Bool} {hi' : Int} {hs' op' : Bool} (h : TwoS W A lo ls hi hs op lo' ls' hi' hs' op') (hb : Below W.heap.size W V) : TwoS V A lo ls hi hs op lo' ls' hi' hs' op' :=
  ⟨Nat.lt_of_lt_of_le h.lt hb.size, (hb.cell (p := ⟨A, 0, none⟩) h.lt).trans h.c0, (hb.cell (p := ⟨A, 1, none⟩) h.lt).trans h.c1, (hb.cell (p := ⟨A, 2, none⟩) h.lt).trans h.c2, (hb.cell (p := ⟨A, 3, none⟩) h.lt).trans h.c3, (hb.cell (p := ⟨A, 4, none⟩) h.lt).trans h.c4, (hb.cell (p := ⟨A, 5, none⟩) h.lt).trans h.c5, (hb.cell (p := ⟨A, 6, none⟩) h.lt).trans h.c6, (hb.cell (p := ⟨A, 7, none⟩) h.lt).trans h.c7, (hb.cell (p := ⟨A, 8, none⟩) h.lt).trans h.c8, (hb.cell (p := ⟨A, 9, none⟩) h.lt).trans h.c9⟩
theorem TwoS.new {W : World} {A : Nat} {t : TypeId} {lo : Int} {ls : Bool} {hi : Int} {hs op : Bool} {lo' : Int} {ls' : Bool} {hi' : Int} {hs' op' : Bool} (hA : A = W.heap.size) : TwoS (W.alloc (.cells #[.int .i64 lo, .bool ls, .int .i64 hi, .bool hs, .bool op, .int .i64 lo', .bool ls', .int .i64 hi', .bool hs', .bool op'] t)) A lo ls hi hs op lo' ls' hi' hs' op' := by
  subst hA
  exact ⟨by simp, by simp [go_sem], by simp [go_sem], by simp [go_sem], by simp [go_sem], by simp [go_sem], by simp [go_sem], by simp [go_sem], by simp [go_sem], by simp [go_sem], by simp [go_sem]⟩
theorem slp_chg {W V : World} {A B N : Nat} {f : Nat → Int} (h : SlP W (some ⟨A, 0, none⟩) N f) (hc : Chg W B V) (hn : A ≠ B) : SlP V (some ⟨A, 0, none⟩) N f := by
  rcases h with h | ⟨A', o, e, h1, h2⟩
  · exact .inl h
  · simp only [Option.some.injEq, Addr.mk.injEq] at e
    obtain ⟨rfl, rfl, _⟩ := e
    exact .inr ⟨A, 0, rfl, Nat.lt_of_lt_of_le h1 hc.size, fun y hy => (hc.cell h1 hn).trans (h2 y hy)⟩
theorem slp_congr {W : World} {p : Option Addr} {N : Nat} {f g : Nat → Int} (h : SlP W p N f) (he : ∀ x, x < N → f x = g x) : SlP W p N g := by
  rcases h with h | ⟨A, o, e, h1, h2⟩
  · exact .inl h
  · exact .inr ⟨A, o, e, h1, fun y hy => by rw [h2 y hy, he y hy]⟩
/-- The matrix under way. -/
def outS (gt gu : Nat → Int) : Nat → Nat → Int
  | 0 => topF 3
  | 1 => upd (upd (topF 3) 1 (gt 1)) 3 (gt 2)
  | _ => upd (upd (upd (upd (topF 3) 1 (gt 1)) 3 (gt 2)) 2 (gu 1)) 6 (gu 2)
theorem outS_zF (gt gu gd : Nat → Int) : ∀ x, x < 9 → upd (upd (outS gt gu 2) 5 (gd 1)) 7 (gd 2) x = zF (spansZ gt gu gd) x := by
  obtain ⟨a0, a1, a2, a3, a4, a5, a6, a7, a8⟩ := zF_vals (spansZ gt gu gd)
  intro x hx
  have : x = 0 ∨ x = 1 ∨ x = 2 ∨ x = 3 ∨ x = 4 ∨ x = 5 ∨ x = 6 ∨ x = 7 ∨ x = 8 := by omega
  rcases this with rfl | rfl | rfl | rfl | rfl | rfl | rfl | rfl | rfl
  · rw [a0]; rfl
  · rw [a1]; rfl
  · rw [a2]; rfl
  · rw [a3]; rfl
  · rw [a4]; rfl
  · rw [a5]; rfl
  · rw [a6]; rfl
  · rw [a7]; rfl
  · rw [a8]; rfl
def spanV (lo : Int) (ls : Bool) (hi : Int) (hs op : Bool) : Value := .agg #[.int .i64 lo, .bool ls, .int .i64 hi, .bool hs, .bool op]

end Go.Proofs.YtpmpapenjcemjaaGreatDoor
