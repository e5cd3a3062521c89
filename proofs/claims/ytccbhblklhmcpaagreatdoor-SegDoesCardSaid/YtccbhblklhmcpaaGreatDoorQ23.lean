/- tree.Names: may names be declared? No condition but on sizes, and what some package variables hold. -/
import Derived.Test.YtccbhblklhmcpaaGreatDoorQ22
namespace Go.Proofs.YtccbhblklhmcpaaGreatDoor
set_option linter.unusedSimpArgs false
set_option linter.unusedVariables false
open Go Go.RowKit Go.Shelf
attribute [local go_sem] Nat.add_assoc Nat.add_lt_add_iff_left lit_lt_add

/-- Are all names good ones, each but once? -/
def goodN (N : List (List UInt8)) : Bool := N.all mayName && decide N.Nodup
theorem good_odd {N : List (List UInt8)} {i : Nat} {y : List UInt8} (h : N[i]? = some y) (hy : (decide (y ∈ N.take i) || !mayName y) = true) : goodN N = false := by
  unfold goodN
  rw [Bool.or_eq_true] at hy
  rcases hy with hy | hy
  · have hy := of_decide_eq_true hy
    have : decide N.Nodup = false := decide_eq_false fun hn => by
      obtain ⟨hi, e⟩ := List.getElem?_eq_some_iff.1 h
      obtain ⟨j, hj, ej⟩ := List.getElem_of_mem hy
      rw [List.length_take] at hj
      rw [List.getElem_take] at ej
      exact List.pairwise_iff_getElem.1 hn j i (by omega) hi (by omega) (ej.trans e.symm)
    rw [this, Bool.and_false]
  · have : N.all mayName = false := by
      rw [Bool.eq_false_iff]; intro ha
      have := List.all_eq_true.1 ha y (List.mem_of_getElem? h)
      rw [this] at hy; cases hy
    rw [this, Bool.false_and]
theorem good_all {N : List (List UInt8)} (h : ∀ k y, k < N.length → N[k]? = some y → (decide (y ∈ N.take k) || !mayName y) = false) : goodN N = true := by
  unfold goodN
  have h1 : N.all mayName = true := by
    rw [List.all_eq_true]
    intro x hx
    obtain ⟨k, hk, rfl⟩ := List.getElem_of_mem hx
    have := h k _ hk (List.getElem?_eq_getElem hk)
    rw [Bool.or_eq_false_iff] at this
    simpa using this.2
  have h2 : decide N.Nodup = true := decide_eq_true (by
    rw [List.Nodup, List.pairwise_iff_getElem]
    intro i j hi hj hij e
    have := h j _ hj (List.getElem?_eq_getElem hj)
    rw [Bool.or_eq_false_iff, decide_eq_false_iff_not] at this
    refine this.1 ?_
    rw [← e]
    exact List.mem_take_iff_getElem.2 ⟨i, by omega, rfl⟩)
  rw [h1, h2]; rfl
theorem may_good (N : List (List UInt8)) : mayNames N = (decide (N.length ≤ 8) && goodN N) := by
  unfold mayNames goodN; rw [Bool.and_assoc]
/-- What a search for an odd name hands back. -/
def findC (w : World) (g : Bool) (e : Ending) (W' : World) : Prop := (∃ r : Int, e = .returned (.int .i64 r) ∧ decide (0 ≤ r) = !g) ∧ Below w.heap.size w W'
set_option maxRecDepth 10000 in
set_option maxHeartbeats 4000000 in
theorem nfind_any (q : Option Addr) (c : Nat) (N : List (List UInt8)) (w W : World) (b : Nat) (hS : SlS w q N) (hM : MapI W b []) (hB : Below w.heap.size w W) (hb : w.heap.size ≤ b) (hL : Laid w) (hN : N.length ≤ 100000) (hX : ∀ x, x ∈ N → x.length ≤ 140737488355328) :
    Calls Tryz.prog 39 #[.slice q N.length c, .func (.func 19) #[] #[.pointer (some ⟨b + 1, 0, none⟩)]] W (findC w (goodN N)) := by
  have HS := Lib.hid hS.get
  have HM := Lib.hid hM
  have OD : Hid (∀ (i : Nat) (x : List UInt8) W', N[i]? = some x → MapI W' b (N.take i) → Below w.heap.size w W' → Calls Tryz.prog 19 #[.string (bs x), .pointer (some ⟨b + 1, 0, none⟩)] W' (oddC w b (N.take i) x)) := fun i x W' h1 h2 h3 =>
    odd_any w W' b (N.take i) x h2 h3 hb hL (hX x (List.mem_of_getElem? h1)) (by rw [List.length_take]; omega)
  obtain ⟨n, hn⟩ : ∃ n, n = N.length := ⟨_, rfl⟩
  obtain ⟨G, hG⟩ : ∃ G, G = goodN N := ⟨_, rfl⟩
  rw [← hn] at hN ⊢
  rw [← hG]
  have Hn := Lib.hid hn
  have HG := Lib.hid hG
  clear hS hM hL hX hn hG
  go_enter Tryz.func39, Tryz.ntmps39
  go_wp2_with (fail)
  go_loopw [8] (fun s8 wr => ∃ i : Nat, s8 = .int .i64 i ∧ i ≤ n ∧ Below w.heap.size w wr ∧ Hid (MapI wr b (N.take i) ∧ ∀ k y, k < i → N[k]? = some y → (decide (y ∈ N.take k) || !mayName y) = false)) (fun s8 _ => n - (intOf s8).toNat)
  case atStart => exact ⟨0, rfl, Nat.zero_le _, hB, ⟨by rw [List.take_zero]; exact HM.out, fun k y h => absurd h (Nat.not_lt_zero _)⟩⟩
  case round =>
    obtain ⟨i, rfl, hin, hBw, hI⟩ := hrel
    have szr := hBw.size
    by_cases hlt : i < n
    · have hil : i < N.length := by rw [← Hn.out]; exact hlt
      obtain ⟨A, o, rfl, hA, hv⟩ := HS.out.resolve_left (fun h => by rw [h] at hil; simp at hil)
      obtain ⟨y, hy⟩ : ∃ y, N[i]? = some y := ⟨_, List.getElem?_eq_getElem hil⟩
      have cy := (hBw.cell (p := ⟨A, o + i, none⟩) hA).trans (hv i y hy)
      have j0 : (0 : Int) ≤ (i : Int) := by omega
      have j1 : (i : Int) < (n : Int) := by omega
      have OY := Lib.hid (OD.out i y wr hy hI.out.1 hBw)
      have HY := Lib.hid hy
      have HI := Lib.hid hI.out.2
      unfold oddC at OY
      clear hv hy hI
      obtain ⟨B, hBB⟩ : ∃ B, B = (decide (y ∈ N.take i) || !mayName y) := ⟨_, rfl⟩
      rw [← hBB] at OY
      have HB := Lib.hid hBB
      clear hBB
      cases B
      · go_wp2_with (fail)
        refine OY.out.mono ?_; rintro e w' ⟨rfl, hB2, hM2⟩
        have HM2 := Lib.hid hM2
        clear hM2
        go_wp2_with (fail)
        go_roundw
        case rel => exact ⟨i + 1, by go_num, hlt, hB2, ⟨by rw [List.take_add_one, HY.out]; exact HM2.out, fun k z hk hz => by
          by_cases ek : k = i
          · subst ek
            rw [HY.out] at hz
            rw [← Option.some.inj hz]; exact HB.out.symm
          · exact HI.out k z (by omega) hz⟩⟩
        case measure => simp [intOf]; omega
      · have hg : G = false := by rw [HG.out]; exact good_odd HY.out HB.out.symm
        go_wp2_with (fail)
        refine OY.out.mono ?_; rintro e w' ⟨rfl, hB2, hM2⟩
        clear hM2
        go_wp2_with (fail)
        go_ret
        exact ⟨⟨_, rfl, by rw [hg]; simp⟩, hB2⟩
    · obtain rfl : i = n := by omega
      have hg : G = true := by rw [HG.out]; exact good_all fun k y hk hy => hI.out.2 k y (by rw [Hn.out]; exact hk) hy
      have hGG := Lib.hid hg
      clear hI hg
      go_wp2_with (fail)
      go_ret
      exact ⟨⟨_, rfl, by rw [hGG.out]; decide⟩, hBw⟩
set_option maxRecDepth 10000 in
set_option maxHeartbeats 4000000 in
theorem ncont_any (q : Option Addr) (c : Nat) (N : List (List UInt8)) (w W : World) (b : Nat) (hS : SlS w q N) (hM : MapI W b []) (hB : Below w.heap.size w W) (hb : w.heap.size ≤ b) (hL : Laid w) (hN : N.length ≤ 100000) (hX : ∀ x, x ∈ N → x.length ≤ 140737488355328) :
    Calls Tryz.prog 21 #[.slice q N.length c, .func (.func 19) #[] #[.pointer (some ⟨b + 1, 0, none⟩)]] W (fun e W' => e = .returned (.bool (!goodN N)) ∧ Below w.heap.size w W') := by
  have NF := Lib.hid (nfind_any q c N w W b hS hM hB hb hL hN hX)
  unfold findC at NF
  obtain ⟨n, hn⟩ : ∃ n, n = N.length := ⟨_, rfl⟩
  obtain ⟨G, hG⟩ : ∃ G, G = goodN N := ⟨_, rfl⟩
  rw [← hn, ← hG] at NF
  rw [← hn, ← hG]
  clear hS hM hL hX hN hn hG
  go_enter Tryz.func21, Tryz.ntmps21
  go_wp2_with (fail)
  refine NF.out.mono ?_; rintro e w' ⟨⟨r, rfl, hr⟩, hB2⟩
  have HR := Lib.hid hr
  clear hr
  go_wp2_with (fail)
  go_ret
  exact ⟨by rw [← HR.out]; rfl, hB2⟩
theorem map_start (w : World) (t : TypeId) : MapI ((w.alloc (.map #[] 0)).alloc (.cells #[.map (some w.heap.size)] t)) w.heap.size [] := by
  have h := MapI.mk (W := (w.alloc (.map #[] 0)).alloc (.cells #[.map (some w.heap.size)] t)) (b := w.heap.size) (N := [])
  refine ⟨(World.ownsMap_made w Tryz.prog 9 (plainElem Tryz.prog 3)).alloc _, ?_, by rw [World.size_alloc, World.size_alloc]; omega⟩
  simp [go_sem]
set_option maxRecDepth 10000 in
set_option maxHeartbeats 4000000 in
/-- tree.Names. -/
theorem tnames_any (q : Option Addr) (c : Nat) (N : List (List UInt8)) (w : World) (hS : SlS w q N) (hL : Laid w) (hN : N.length ≤ 100000) (hX : ∀ x, x ∈ N → x.length ≤ 140737488355328) :
    Calls Tryz.prog 10 #[.slice q N.length c] w (Gives w (.int .i64 (if mayNames N = true then 0 else 2))) := by
  have hm := may_good N
  by_cases h8 : 8 < N.length
  · rw [hm, decide_eq_false (by omega), Bool.false_and, if_neg (by decide)]
    have j : (8 : Int) < (N.length : Int) := by omega
    obtain ⟨n, hn⟩ : ∃ n, n = N.length := ⟨_, rfl⟩
    rw [← hn] at j ⊢
    have hmk : ∀ w', (Instr.makeMap 56 none).run Tryz.prog w' = .ok (.map (some w'.heap.size)) (w'.alloc (.map #[] 0)) := fun w' => run_makeMap _ w'
    clear hm hS hL hX hN h8 hn
    go_enter Tryz.func10, Tryz.ntmps10
    go_wp2_with (fail)
    all_goals
      go_ret
      exact gives_end rfl (by (repeat' (first | (with_reducible assumption) | (with_reducible exact Below.refl _ _) | (with_reducible refine below_wov ?_ ?_ _) | (with_reducible refine below_drewN ?_ _) | (with_reducible refine Below.drew ?_) | (with_reducible refine Below.alloc ?_ ?_ _) | (with_reducible refine Below.setCell ?_ ?_ _) | (with_reducible exact Nat.le_refl _) | omega | (simp only [World.size_alloc, World.size_setCell, World.size_drew, Wov_size, World.heap_drewN]; omega))))
  · rw [hm, decide_eq_true (by omega), Bool.true_and]
    have j : (N.length : Int) ≤ 8 := by omega
    have NC : Hid (∀ W b, MapI W b [] → Below w.heap.size w W → w.heap.size ≤ b → Calls Tryz.prog 21 #[.slice q N.length c, .func (.func 19) #[] #[.pointer (some ⟨b + 1, 0, none⟩)]] W (fun e W' => e = .returned (.bool (!goodN N)) ∧ Below w.heap.size w W')) := fun W b h1 h2 h3 => ncont_any q c N w W b hS h1 h2 h3 hL hN hX
    obtain ⟨n, hn⟩ : ∃ n, n = N.length := ⟨_, rfl⟩
    obtain ⟨G, hG⟩ : ∃ G, G = goodN N := ⟨_, rfl⟩
    rw [← hn] at j NC ⊢
    rw [← hG] at NC ⊢
    have hmk : ∀ w', (Instr.makeMap 56 none).run Tryz.prog w' = .ok (.map (some w'.heap.size)) (w'.alloc (.map #[] 0)) := fun w' => run_makeMap _ w'
    clear hm hS hL hX hN h8 hn hG
    cases G
    · show Calls _ _ _ _ (Gives w (.int .i64 2))
      go_enter Tryz.func10, Tryz.ntmps10
      go_wp2_with (fail)
      refine (NC.out _ w.heap.size (map_start w _) (by (repeat' (first | (with_reducible assumption) | (with_reducible exact Below.refl _ _) | (with_reducible refine below_wov ?_ ?_ _) | (with_reducible refine below_drewN ?_ _) | (with_reducible refine Below.drew ?_) | (with_reducible refine Below.alloc ?_ ?_ _) | (with_reducible refine Below.setCell ?_ ?_ _) | (with_reducible exact Nat.le_refl _) | omega | (simp only [World.size_alloc, World.size_setCell, World.size_drew, Wov_size, World.heap_drewN]; omega)))) (Nat.le_refl _)).mono ?_
      rintro e w' ⟨rfl, hB2⟩
      go_wp2_with (fail)
      all_goals
        go_ret
        exact gives_end rfl hB2
    · show Calls _ _ _ _ (Gives w (.int .i64 0))
      go_enter Tryz.func10, Tryz.ntmps10
      go_wp2_with (fail)
      refine (NC.out _ w.heap.size (map_start w _) (by (repeat' (first | (with_reducible assumption) | (with_reducible exact Below.refl _ _) | (with_reducible refine below_wov ?_ ?_ _) | (with_reducible refine below_drewN ?_ _) | (with_reducible refine Below.drew ?_) | (with_reducible refine Below.alloc ?_ ?_ _) | (with_reducible refine Below.setCell ?_ ?_ _) | (with_reducible exact Nat.le_refl _) | omega | (simp only [World.size_alloc, World.size_setCell, World.size_drew, Wov_size, World.heap_drewN]; omega)))) (Nat.le_refl _)).mono ?_
      rintro e w' ⟨rfl, hB2⟩
      go_wp2_with (fail)
      all_goals
        go_ret
        exact gives_end rfl hB2
#print axioms tnames_any
end Go.Proofs.YtccbhblklhmcpaaGreatDoor
