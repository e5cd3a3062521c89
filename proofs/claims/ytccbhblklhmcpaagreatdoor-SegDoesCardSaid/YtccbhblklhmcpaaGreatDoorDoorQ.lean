/- What a law's listed variables and the world's shape give its walk: 'Laid'; strings and signals among a law's arguments, with their sizes. No condition. -/
import Derived.Test.YtccbhblklhmcpaaGreatDoorQ8
import Derived.Test.YtccbhblklhmcpaaGreatDoorQF
import Derived.Test.YtccbhblklhmcpaaGreatDoorRows
import Derived.Lib.LaidU8
import Derived.ChangeMaps
import Derived.SliceStrings
import Derived.Deep.SlicePairs
import Derived.Handed
import Derived.SizedLaws
import Derived.Shelf.Vars
namespace Go.Proofs.YtccbhblklhmcpaaGreatDoor
set_option linter.unusedSimpArgs false
set_option linter.unusedVariables false
set_option maxRecDepth 10000
open Go Go.RowKit Go.ChangeShapes Go.WideShapes Go.ChangeAt Go.Joins Go.Deep
section
variable {H : Type} {enc : TypeId × Value → H}
/-- The plain wrap for rows that list variables, the world's shape and the sizes handed on. -/
theorem returns_laid_shaped {a : Assume} {C : Checked} {os : Os} {f : FuncId} {fn : Func} {s : ChangeSpec} {conds : List PathCond} {apart fresh handsOn again : Bool} {X : World → Array Value → Prop}
    (hX : ∀ (w w' : World) (args : Array Value), w.heap = w'.heap → X w args → X w' args)
    (own : ownKnob C.prog.godebug = none) (started : os.Started) (noInit : C.prog.inits.idxOf? f = none) (hfn : C.prog.funcs[f]? = some fn)
    (witness : ∃ (w : World) (tape : Tape) (i : Input), w.os = os ∧ (w.forCall tape i).Shaped C.prog ∧ i.vars = [] ∧ Input.okWide C.prog (w.forCall tape i) .any w.heap.size f i ∧
      ((s.pre enc C.prog fn conds apart (w.forCall tape i).memory i.args ∧ X (w.forCall tape i).memory i.args) ∧ sizedMet enc C.prog fn (OpenSpec.ofChange s) apart (w.forCall tape i).memory i.args) ∧ a.holds C.prog (lone (Frame.enter C.prog f i.args .normal) [] (w.forCall tape i)))
    (contract : ∀ (W : World) (base : Nat) (args : Array Value) (ds gs : List (DataW H)) (before : List MemPlace),
      (∀ (j : Nat) t v, fn.params[j]? = some t → args[j]? = some v → Value.okWide C.prog W .any base t v) →
      DataW.Whole enc C.prog fn.params.toList s.vars apart W args.toList ds gs before →
      conds.all (PathCond.test C.prog ⟨fn.params.toList, ds, s.plain.varTypes C.prog, gs⟩) = true →
      (DataW.weightsEach C.prog (fn.params.toList ++ s.plain.varTypes C.prog) (ds ++ gs)).all (· ≤ reachBytes) = true → X W args → W.ShapedOpen C.prog →
      a.holds C.prog (lone (Frame.enter C.prog f args .normal) [] W) →
      Calls C.prog f args W fun e W' => ∃ v, e = .returned v ∧ s.post enc C.prog fn apart fresh handsOn again W args v W') :
    ReturnsInHanded a C os f .any (fun w args => (s.pre enc C.prog fn conds apart w args ∧ X w args) ∧ sizedMet enc C.prog fn (OpenSpec.ofChange s) apart w args) (s.post enc C.prog fn apart fresh handsOn again) := by
  refine returnsInHanded_of_calls own started noInit witness ?_
  intro w tape i _ hsh _ hok hpre hholds
  obtain ⟨_, _, _, fn', hfn', _, _, _, _, hval⟩ := hok
  have e : fn' = fn := Option.some.inj (hfn'.symm.trans hfn)
  subst e
  obtain ⟨⟨⟨ds, gs, before, hw, hc⟩, hx⟩, hz⟩ := hpre
  have hw' := DataW.Whole.of_heap (w' := w.forCall tape i) (by rfl) hw
  refine (contract (w.forCall tape i) w.heap.size i.args ds gs before hval hw' hc (hz.weights hw) (hX _ _ _ (by rfl) hx) hsh hholds).mono fun e W' ⟨v, he, hp⟩ => ?_
  subst he
  exact ChangeSpec.post_blind hp
end
theorem tab_of_reads {W : World} {n : String} (hg : Tryz.prog.globalNamed n = some 0) (h : Lib.VarReads Tryz.prog W n (Lib.tabData .u64 Lib.pow10Tab)) : Tab W := by
  intro nm hn
  obtain ⟨g, t, cs, fuel, p, h1, h2, h3, h4⟩ := h
  obtain rfl := Option.some.inj (hg.symm.trans h1)
  have hty : (Tryz.prog.globals[0]?).map (·.type) = some 128 := by kernel_rfl
  obtain rfl := Option.some.inj (hty.symm.trans h2)
  unfold Lib.TabIs
  rw [← Lib.cells_of_tab Tryz.underlying128 Tryz.underlying98 (by kernel_rfl) (by kernel_rfl) h4, ← h3]
  unfold World.var?
  rw [hn, h1]
set_option maxRecDepth 100000 in
theorem err_of_reads {W : World} {nm tn : String} {d : DataW Unit} {g0 : Nat} (hg : Tryz.prog.globalNamed nm = some g0) (hty : (Tryz.prog.globals[g0]?).map (·.type) = some 41) (h : Lib.VarReads Tryz.prog W nm (.iface tn d)) : ErrAt nm W := by
  obtain ⟨g, t, cs, fuel, p, h1, h2, h3, h4⟩ := h
  obtain rfl := Option.some.inj (hg.symm.trans h1)
  obtain rfl := Option.some.inj (hty.symm.trans h2)
  cases fuel with
  | zero => cases h4
  | succ k =>
    have hcs : ∃ u v, cs.toList = [.iface u v] := by
      unfold DataW.trod at h4
      rw [Tryz.underlying41] at h4
      rcases hl : cs.toList with _ | ⟨a, _ | ⟨b, r⟩⟩
      · rw [hl] at h4; simp at h4
      · rw [hl] at h4
        cases a <;> first | exact ⟨_, _, rfl⟩ | (exfalso; simp at h4)
      · rw [hl] at h4; simp at h4
    obtain ⟨u, v, hl⟩ := hcs
    refine ⟨u, v, ?_⟩
    rw [h3]
    congr 1
    apply Array.ext'
    rw [hl]
theorem laid_of_reads {W : World} {t1 t2 : String} {d1 d2 : DataW Unit} (hsh : W.ShapedOpen Tryz.prog) (h1 : Lib.VarReads Tryz.prog W "internal/strconv.uint64pow10" (Lib.tabData .u64 Lib.pow10Tab)) (h2 : Lib.VarReads Tryz.prog W "strconv.ErrRange" (.iface t1 d1)) (h3 : Lib.VarReads Tryz.prog W "strconv.ErrSyntax" (.iface t2 d2)) : Laid W :=
  ⟨tab_of_reads (by kernel_rfl) h1, err_of_reads (g0 := 3) (by kernel_rfl) (by kernel_rfl) h2, err_of_reads (g0 := 2) (by kernel_rfl) (by kernel_rfl) h3,
    cell_of_shapedOpen_int (P := Tryz.prog) (g := 1) (t := 3) (zero := #[.int .i64 0]) hsh (of_decide_eq_true (by kernel_rfl)) (by kernel_rfl) rfl (by kernel_rfl) (by kernel_rfl) Tryz.underlying3⟩
theorem reach47 {n : Nat} (h : n ≤ reachBytes) : n ≤ 140737488355328 := Nat.le_trans h (by decide)
set_option maxRecDepth 100000 in
theorem open_strw {H : Type} {enc : TypeId × Value → H} {W : World} {base : Nat} {v : Value} {d : DataW H} {p : List MemPlace}
    (hv : Value.okWide Tryz.prog W .any base 9 v) (h : DataW.Trod enc Tryz.prog W 0 (fun _ => true) true 9 v d p) (hz : ∀ n ∈ d.weights Tryz.prog 9, n ≤ reachBytes) :
    ∃ l : List UInt8, v = .string (bs l) ∧ d = .lit (.string l) ∧ p = [] ∧ l.length ≤ 140737488355328 := by
  obtain ⟨s, rfl, rfl, rfl, hs⟩ := Go.ChangeMaps.open_string Tryz.underlying9 hv h
  refine ⟨s.data.toList, ?_, rfl, rfl, reach47 (hz _ (by simp [DataW.weights]))⟩
  congr 1
/-- A slice's pointer leads into a block. -/
theorem slice_block {W : World} {base : Nat} {t e : TypeId} {a : Addr} {len cap : Nat} (hu : Tryz.prog.underlying t = some (.slice e)) (hv : Value.okWide Tryz.prog W .any base t (.slice (some a) len cap)) : a.block < W.heap.size := by
  simp only [Value.okWide, hu, Cell.okWide, Cell.ok] at hv
  obtain ⟨_, _, _, _, row, cells, hs, _⟩ := hv
  rcases Nat.lt_or_ge a.block W.heap.size with h | h
  · exact h
  · simp [World.shape?, Array.getElem?_eq_none h] at hs
theorem weightsAll_mem {H : Type} {P : Program} {e : TypeId} : ∀ {ds : List (DataW H)} {d : DataW H}, d ∈ ds → ∀ n ∈ d.weights P e, n ∈ DataW.weightsAll P e ds
  | d0 :: ds, d, hd, n, hn => by
    simp only [DataW.weightsAll, List.mem_append]
    rcases List.mem_cons.1 hd with rfl | h
    · exact .inl hn
    · exact .inr (weightsAll_mem h n hn)
/-- Strings that came in. -/
theorem open_strs {H : Type} {enc : TypeId × Value → H} {W : World} {base : Nat} {v : Value} {d : DataW H} {p : List MemPlace}
    (hv : Value.okWide Tryz.prog W .any base 22 v) (h : DataW.Trod enc Tryz.prog W 0 (fun _ => true) true 22 v d p) (hz : ∀ n ∈ d.weights Tryz.prog 22, n ≤ reachBytes) :
    ∃ (q : Option Addr) (c : Nat) (N : List (List UInt8)), v = .slice q N.length c ∧ SlS W q N ∧ (∀ A o, q = some ⟨A, o, none⟩ → A < W.heap.size) ∧ N.length ≤ 140737488355328 ∧ ∀ x, x ∈ N → x.length ≤ 140737488355328 := by
  obtain ⟨a0, l0, k0, rfl⟩ := okWide_slice Tryz.underlying22 hv
  obtain ⟨n, h⟩ := h
  rcases open_strings Tryz.underlying22 Tryz.underlying9 (by kernel_rfl) h with ⟨h1, _⟩ | ⟨a, len, cap, ss, h1, hb, hl, hm, hss, hx, hcell, hw⟩
  · have h1 : Value.slice a0 l0 k0 = .slice none 0 0 := by simpa [Value.cells] using h1
    exact ⟨none, 0, [], h1, .inl rfl, (fun A o e => by cases e), by decide, fun x hx => by cases hx⟩
  · have h1 : Value.slice a0 l0 k0 = .slice (some a) len cap := by simpa [Value.cells] using h1
    rw [h1] at hv
    simp only [if_true] at hss
    obtain ⟨rfl, _⟩ : d = .slice (strs (ss.take len)) (strs (ss.drop len)) ∧ True := ⟨(Prod.mk.inj hx).1, trivial⟩
    have hlen : (ss.take len).length = len := by rw [List.length_take]; omega
    have hblk := slice_block Tryz.underlying22 hv
    refine ⟨some a, cap, (ss.take len).map (·.data.toList), by rw [h1, List.length_map, hlen], ?_, (fun A o e => by injection e with e; rw [e] at hblk; exact hblk), ?_, ?_⟩
    · by_cases h0 : len = 0
      · refine .inl ?_
        rw [h0]; rfl
      · obtain ⟨B, off, spot⟩ := a
        have c00 := hcell 0 (by omega)
        have hspot : spot = none := by simpa [Addr.add] using World.cell?_spot c00
        subst hspot
        refine .inr ⟨B, off, rfl, hblk, fun i j x u hxi hu => ?_⟩
        have hj : j = 0 := by
          have := (List.getElem?_eq_some_iff.1 hu).1
          simp [strD] at this; exact this
        subst hj
        have hu' : Value.string (bs x) = u := by simpa [strD] using hu
        subst hu'
        rw [List.getElem?_map] at hxi
        cases hy : (ss.take len)[i]? with
        | none => rw [hy] at hxi; cases hxi
        | some s =>
          rw [hy] at hxi
          simp only [Option.map_some, Option.some.injEq] at hxi
          have hi : i < len := by have := (List.getElem?_eq_some_iff.1 hy).1; omega
          rw [List.getElem?_take_of_lt hi] at hy
          have hc := hcell i (by omega)
          rw [add_plain, List.getD_eq_getElem?_getD, hy] at hc
          have e1 : strD.k = 1 := rfl
          rw [e1, Nat.mul_one, Nat.add_zero, hc, ← hxi]
          rfl
    · have := hz _ (by simp only [DataW.weights, Tryz.underlying22]; exact List.mem_cons_self ..)
      have hb16 : Tryz.prog.bytesOf 9 = 16 := by kernel_rfl
      rw [hb16] at this
      have := reach47 this
      simp only [strs, List.length_map] at this ⊢
      omega
    · intro x hx
      obtain ⟨s, hs, rfl⟩ := List.mem_map.1 hx
      refine reach47 (hz _ ?_)
      simp only [DataW.weights, Tryz.underlying22]
      refine List.mem_cons_of_mem _ (List.mem_append_left _ (weightsAll_mem (d := .lit (.string s.data.toList)) ?_ _ (by simp [DataW.weights])))
      exact List.mem_map.2 ⟨s, hs, rfl⟩
/-- A signal that came in. -/
theorem open_segs {H : Type} {enc : TypeId × Value → H} {W : World} {base : Nat} {v : Value} {d : DataW H} {p : List MemPlace}
    (hv : Value.okWide Tryz.prog W .any base 23 v) (h : DataW.Trod enc Tryz.prog W 0 (fun _ => true) true 23 v d p) (hz : ∀ n ∈ d.weights Tryz.prog 23, n ≤ reachBytes) :
    ∃ (q : Option Addr) (c : Nat) (L : List Sg), v = .slice q L.length c ∧ SlK sgD W q L ∧ (∀ s, s ∈ L → s.2 < 256) ∧ (∀ s, s ∈ L → -9223372036854775808 ≤ s.1 ∧ s.1 ≤ 9223372036854775807) ∧ L.length ≤ 140737488355328 := by
  obtain ⟨a0, l0, k0, rfl⟩ := okWide_slice Tryz.underlying23 hv
  obtain ⟨n, h⟩ := h
  rcases open_slice_pairs Tryz.underlying23 (e := 49) Tryz.underlying49 (by kernel_rfl) (by kernel_rfl) (by kernel_rfl) (by kernel_rfl) (by kernel_rfl) h with ⟨h1, _⟩ | ⟨a, len, cap, m, n', V0, V1, D0, D1, P0, P1, h1, hb, hl, hm, hmm, hx0, hx⟩
  · have h1 : Value.slice a0 l0 k0 = .slice none 0 0 := by simpa [Value.cells] using h1
    exact ⟨none, 0, [], h1, .inl rfl, (fun s hs => by cases hs), (fun s hs => by cases hs), by decide⟩
  · have h1 : Value.slice a0 l0 k0 = .slice (some a) len cap := by simpa [Value.cells] using h1
    rw [h1] at hv
    have hblk := slice_block Tryz.underlying23 hv
    simp only [if_true] at hmm
    subst hmm
    have hg : ∀ i, ∃ r : Sg, i < m → V0 i = .int .i64 r.1 ∧ V1 i = .int .u8 r.2 ∧ (-9223372036854775808 ≤ r.1 ∧ r.1 ≤ 9223372036854775807) ∧ r.2 < 256 := by
      intro i
      by_cases hi : i < m
      · obtain ⟨_, _, t0, t1⟩ := hx i hi
        obtain ⟨x, e0, _, wx⟩ := DataW.trod_int Tryz.underlying3 t0
        obtain ⟨y, e1, _, wy⟩ := DataW.trod_int Tryz.underlying5 t1
        simp only [List.cons.injEq, and_true] at e0 e1
        have wy : 0 ≤ y ∧ y ≤ 255 := by simpa [Lit.wf, IntKind.min, IntKind.max, IntKind.signed, IntKind.bits] using wy
        refine ⟨(x, y.toNat), fun _ => ⟨e0, ?_, fits_of_wf wx, ?_⟩⟩
        · rw [e1]; simp only [Value.int.injEq, true_and]; omega
        · show y.toNat < 256; omega
      · exact ⟨(0, 0), fun h => absurd h hi⟩
    obtain ⟨T, hT⟩ := Classical.axiomOfChoice hg
    refine ⟨some a, m, (List.range len).map T, by rw [h1]; simp, ?_, ?_, ?_, ?_⟩
    · by_cases h0 : len = 0
      · refine .inl ?_
        rw [h0]; rfl
      · obtain ⟨B, off, spot⟩ := a
        have c00 := (hx 0 (by omega)).1
        have hspot : spot = none := by simpa [Addr.add] using World.cell?_spot c00
        subst hspot
        refine .inr ⟨B, off, rfl, hblk, fun i j x u hxi hu => ?_⟩
        have hi : i < len := by have := (List.getElem?_eq_some_iff.1 hxi).1; simpa using this
        have hxT : T i = x := by
          rw [List.getElem?_map, List.getElem?_range hi] at hxi
          simpa using hxi
        obtain ⟨k0, k1, _, _⟩ := hx i (by omega)
        rw [add_plain] at k0 k1
        obtain ⟨e0, e1, _, _⟩ := hT i (by omega)
        have ek : sgD.k = 2 := rfl
        rw [ek]
        have hj : j < 2 := by have := (List.getElem?_eq_some_iff.1 hu).1; simpa [sgD] using this
        match j, hj with
        | 0, _ =>
          have hu' : Value.int .i64 x.1 = u := by simpa [sgD] using hu
          rw [Nat.add_zero, k0, e0, ← hu', hxT]
        | 1, _ =>
          have hu' : Value.int .u8 x.2 = u := by simpa [sgD] using hu
          rw [k1, e1, ← hu', hxT]
    · intro s hs
      obtain ⟨i, hi, rfl⟩ := List.mem_map.1 hs
      rw [List.mem_range] at hi
      exact (hT i (by omega)).2.2.2
    · intro s hs
      obtain ⟨i, hi, rfl⟩ := List.mem_map.1 hs
      rw [List.mem_range] at hi
      exact (hT i (by omega)).2.2.1
    · obtain ⟨rfl, _⟩ : d = _ ∧ True := ⟨(Prod.mk.inj hx0).1, trivial⟩
      have := hz _ (by simp only [DataW.weights, Tryz.underlying23]; exact List.mem_cons_self ..)
      have hb16 : Tryz.prog.bytesOf 49 = 16 := by kernel_rfl
      rw [hb16] at this
      have := reach47 this
      simp only [List.length_map, List.length_range] at this ⊢
      omega
#print axioms open_segs
end Go.Proofs.YtccbhblklhmcpaaGreatDoor
