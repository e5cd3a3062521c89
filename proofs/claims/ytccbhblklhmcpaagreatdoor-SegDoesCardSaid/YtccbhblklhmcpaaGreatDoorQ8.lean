/- Contracts of strings', strconv's and slices' functions that signals' texts call, off the shelf, in words of my own. No condition but on sizes, and what some package variables hold. -/
import Derived.Test.YtccbhblklhmcpaaGreatDoorSh3
import Derived.Test.YtccbhblklhmcpaaGreatDoorQ7
import Derived.Lib.AppendIntMem
import Derived.Lib.SmallJoins
import Derived.Lib.ItoaLen
namespace Go.Proofs.YtccbhblklhmcpaaGreatDoor
set_option linter.unusedSimpArgs false
set_option linter.unusedVariables false
open Go Go.RowKit Go.Shelf

theorem gives_same {v : Value} {e : Ending} {w w' : World} (h1 : e = .returned v) (h2 : w' = w) : Gives w v e w' := ⟨h1, ⟨#[], w.drawn⟩, by rw [h2, Wov_self]⟩
theorem gives_below {v : Value} {e : Ending} {w w' : World} (h1 : e = .returned v) (h2 : Below w.heap.size w w') : Gives w v e w' := ⟨h1, Wov_of_below h2⟩
/-- The table of powers of ten lies as the program's text lays it. -/
def Tab (w : World) : Prop := ∀ nm, Tryz.prog.globalNamed nm = some 0 → Lib.TabIs Tryz.prog w nm .u64 Lib.pow10Tab
theorem Tab.below {W V : World} (h : Tab W) (hb : Below W.heap.size W V) : Tab V := fun nm hn => Go.Joins.tab_stays hn (h nm hn) hb (Nat.le_refl _)
/-- The errors that strconv gives lie as they are laid. -/
def ErrAt (nm : String) (w : World) : Prop := ∃ tp p, w.var? Tryz.prog nm = some #[.iface tp p]
theorem ErrAt.below {nm : String} {w V : World} (h : ErrAt nm w) (hb : Below w.heap.size w V) : ErrAt nm V := by
  obtain ⟨tp, p, hv⟩ := h
  cases hg : Tryz.prog.globalNamed nm with
  | none => unfold World.var? at hv; rw [hg] at hv; cases hv
  | some g =>
    have hlt : g < w.heap.size := by
      unfold World.var? at hv
      rw [hg] at hv
      rcases Nat.lt_or_ge g w.heap.size with h | h
      · exact h
      · rw [Option.bind_some, Array.getElem?_eq_none h] at hv; cases hv
    exact ⟨tp, p, Go.Joins.var_stays hg hv hb (Nat.le_refl _)⟩
/-- internal/bytealg.MaxLen holds some number. -/
def MaxI (w : World) : Prop := ∃ m, w.cell? ⟨1, 0, none⟩ = some (.int .i64 m)
theorem MaxI.below {w V : World} (h : MaxI w) (hb : Below w.heap.size w V) : MaxI V := by
  obtain ⟨m, hm⟩ := h
  exact ⟨m, (hb.cell (p := ⟨_, 0, none⟩) (World.block_lt_of_cell? w _ hm)).trans hm⟩
/-- What the walks ask of the package's variables. -/
structure Laid (w : World) : Prop where
  tab : Tab w
  rng : ErrAt "strconv.ErrRange" w
  syn : ErrAt "strconv.ErrSyntax" w
  len : MaxI w
theorem Laid.below {w V : World} (h : Laid w) (hb : Below w.heap.size w V) : Laid V := ⟨h.tab.below hb, h.rng.below hb, h.syn.below hb, h.len.below hb⟩
theorem itoa_any (n : Int) (h0 : -9223372036854775808 ≤ n) (h1 : n ≤ 9223372036854775807) (w : World) (ht : Tab w) : Calls Tryz.prog 16 #[.int .i64 n] w (Gives w (.string (bs (Lib.itoa n)))) :=
  (Any.strconv_Itoa Tryz.lays171 n h0 h1 w (ht _ (by kernel_rfl))).mono fun e w' ⟨he, k, os, hw⟩ => ⟨he, Wov_of_below (by rw [hw]; exact Lib.below_grow _ w (Nat.le_refl _) k os)⟩
theorem builder156 : Go.Proofs.Builder.Extra Tryz.prog Tryz.lays156_ren := { sizeBuilder := by kernel_rfl, liesBuilder := by kernel_rfl, t5 := Tryz.underlying5, a5 := Tryz.isAgg5, z5 := Tryz.sizeOf5, v5 := Tryz.zeroValue5, infoByte := by kernel_rfl, cellsByte := by kernel_rfl, sizeByte := by kernel_rfl, neB5 := by decide }
theorem join_any (p : Option Addr) (xs : List (List UInt8)) (c : Nat) (sep : List UInt8) (w : World) (hS : SlS w p xs) (hc : xs.length ≤ c) (hl : (Lib.join xs sep).length ≤ 140737488355328) (hn : xs.length ≤ 140737488355328) :
    Calls Tryz.prog 17 #[.slice p xs.length c, .string (bs sep)] w (Gives w (.string (bs (Lib.join xs sep)))) := by
  cases xs with
  | nil =>
    refine (Any.strings_Join_none Tryz.lays156 builder156 _ c (bs sep) w).mono fun e w' ⟨he, hw⟩ => ⟨?_, ⟨#[], w.drawn⟩, by rw [hw, Wov_self]⟩
    rw [he]; rfl
  | cons x r =>
    obtain ⟨A, o, rfl, hA, hcell⟩ := hS.get.resolve_left (by simp)
    have hm : ((x :: r).map bs).map (·.data.toList) = x :: r := by rw [List.map_map]; simp [Function.comp_def]
    have := Any.strings_Join Tryz.lays156 builder156 A o c ((x :: r).map bs) (bs sep) w (fun j y hy => by
      rw [List.getElem?_map] at hy
      cases hx : (x :: r)[j]? with
      | none => rw [hx] at hy; cases hy
      | some z =>
        rw [hx] at hy
        simp only [Option.map_some, Option.some.injEq] at hy
        rw [← hy]; exact hcell j z hx) hA (by simpa using hn) (by simpa using hc) (by rw [hm, bs_list]; exact hl)
    rw [hm, bs_list, List.length_map] at this
    exact this.mono fun e w' ⟨he, hb⟩ => ⟨he, Wov_of_below hb⟩
theorem prefix_any (s : List UInt8) (c : UInt8) : ∀ w, Calls Tryz.prog 43 #[.string (bs s), .string ⟨#[c]⟩] w (Gives w (.bool (decide (s.head? = some c)))) := fun w =>
  (Any.strings_HasPrefix Tryz.lays99 (bs s) ⟨#[c]⟩ w).mono fun e w' ⟨h1, h2⟩ => gives_same (by
    rw [h1, bs_list]
    congr 2
    unfold Lib.hasPrefix
    cases s with
    | nil => rfl
    | cons x r =>
      rw [List.isPrefixOf_cons_cons, List.isPrefixOf_nil_left, Bool.and_true, Bool.eq_iff_iff, beq_iff_eq, decide_eq_true_eq, List.head?_cons, Option.some.injEq]
      exact ⟨fun h => h.symm, fun h => h.symm⟩) h2
theorem ascii_of_all {l : List UInt8} (h : (l.all fun b => decide (b.toNat < 128)) = true) : ∀ (j : Nat) b, l[j]? = some b → b.toNat < 128 := fun j b hb => by
  have := List.all_eq_true.1 h b (List.mem_of_getElem? hb)
  simpa using this
theorem set256 : (Tryz.prog.info? (Tryz.lays161_ren.t 116)).map (fun i => (i.zero, i.size)) = some (some (.agg (Array.replicate 256 (.bool false))), 256) := by kernel_rfl
theorem trim_any (s cs : List UInt8) (h : (cs.all fun b => decide (b.toNat < 128)) = true) (hl : cs.length < 4294967281) : ∀ w, Calls Tryz.prog 53 #[.string (bs s), .string (bs cs)] w (Gives w (.string (bs (s.dropWhile (cs.contains ·))))) := fun w =>
  (Any.strings_TrimLeft_laid Tryz.lays161 set256 (bs s) (bs cs) w (by rw [bs_size]; exact hl) (by rw [bs_list]; exact ascii_of_all h)).mono fun e w' ⟨h1, h2⟩ => gives_below (by rw [h1, bs_list, bs_list]; rfl) h2
theorem trimL_any (s : List UInt8) : ∀ w, Calls Tryz.prog 53 #[.string (bs s), .string (bs lettersT)] w (Gives w (.string (bs (s.dropWhile isL)))) := fun w => by
  have := trim_any s lettersT (by decide) (by decide) w
  rwa [show (fun x => lettersT.contains x) = isL from funext letters_isL] at this
theorem trimD_any (s : List UInt8) : ∀ w, Calls Tryz.prog 53 #[.string (bs s), .string (bs digitsT)] w (Gives w (.string (bs (s.dropWhile isD)))) := fun w => by
  have := trim_any s digitsT (by decide) (by decide) w
  rwa [show (fun x => digitsT.contains x) = isD from funext digits_isD] at this
theorem trimW_any (s : List UInt8) : ∀ w, Calls Tryz.prog 53 #[.string (bs s), .string (bs (lettersT ++ digitsT))] w (Gives w (.string (bs (s.dropWhile isW)))) := fun w => by
  have := trim_any s (lettersT ++ digitsT) (by decide) (by decide) w
  rwa [show (fun x => (lettersT ++ digitsT).contains x) = isW from funext words_isW] at this
theorem index_any (q : Option Addr) (c : Nat) (N : List (List UInt8)) (x : List UInt8) (w : World) (hS : SlS w q N) (hN : N.length ≤ 9223372036854775807) :
    Calls Tryz.prog 56 #[.slice q N.length c, .string (bs x)] w (Gives w (.int .i64 (idxI N x))) := by
  rcases hS.get with rfl | ⟨A, o, rfl, hA, hc⟩
  · exact (Any.slices_Index_string_empty Tryz.lays109 q c (bs x) w).mono fun e w' ⟨h1, h2⟩ => gives_same h1 h2
  · refine (Any.slices_Index_string Tryz.lays109 A o N.length c (N.map bs) (bs x) w (by simp) hN fun j hj => ?_).mono fun e w' ⟨h1, h2⟩ => gives_same (by rw [h1, List.take_of_length_le (by simp), idxOfS_eq]) h2
    rw [List.length_map] at hj
    rw [hc j N[j] (List.getElem?_eq_getElem hj), List.getD_eq_getElem?_getD, List.getElem?_map, List.getElem?_eq_getElem hj]
    rfl
theorem contains_any (s sub : List UInt8) (hs : s.length < 4294967281) (w : World) (hm : MaxI w) : Calls Tryz.prog 38 #[.string (bs s), .string (bs sub)] w (Gives w (.bool (Lib.contains s sub))) := by
  obtain ⟨m, hm⟩ := hm
  exact (Any.strings_Contains Tryz.lays144 (bs s) (bs sub) m w (by rw [bs_size]; exact hs) hm).mono fun e w' ⟨h1, h2⟩ => gives_same (by rw [h1, bs_list, bs_list]) h2
theorem crune_ascii (s : List UInt8) (c : UInt8) (hc : c.toNat < 128) : ∀ w, Calls Tryz.prog 69 #[.string (bs s), .int .i32 c.toNat] w (Gives w (.bool (s.contains c))) := fun w =>
  (Any.strings_ContainsRune_ascii Tryz.lays151 (bs s) c.toNat w (by omega) (by omega)).mono fun e w' ⟨h1, h2⟩ => gives_same (by
    rw [h1, bs_list, Lib.contains_iff_indexByte]
    congr 4
    simp) h2
theorem indexByte_any (s : ByteArray) (c : UInt8) : ∀ w, Calls Tryz.prog 100 #[.string s, .int .u8 c.toNat] w (Gives w (.int .i64 (Lib.indexByte s.data.toList c))) := fun w =>
  (Any.strings_IndexByte Tryz.lays137 s c.toNat w).mono fun e w' ⟨h1, h2⟩ => gives_same (by rw [h1]; simp) h2
/-- strconv.Atoi of digits, or of nothing: the number, or an error. -/
theorem atoi_any (l : List UInt8) (hd : l.all isD = true) (hl : l.length ≤ 140737488355328) (w : World) (hL : Laid w) :
    Calls Tryz.prog 41 #[.string (bs l)] w fun e w' => (l ≠ [] ∧ valD 0 l < 9223372036854775808 ∧ Gives w (.tuple #[.int .i64 (valD 0 l), .nilIface]) e w') ∨ ((l = [] ∨ 9223372036854775808 ≤ valD 0 l) ∧ ∃ n N, Gives w (.tuple #[.int .i64 n, .iface 123 (.pointer (some ⟨N, 0, none⟩))]) e w') := by
  cases l with
  | nil =>
    obtain ⟨tp, p, hv⟩ := hL.syn
    refine (Any.strconv_Atoi_syntax_var Tryz.lays172 (bs []) (by rw [bs_size]; exact Nat.zero_le _) (by rw [bs_list]; rfl) tp p w hv).mono ?_
    rintro e w' ⟨N, h1, _, _, h2⟩
    exact .inr ⟨.inl rfl, _, N, gives_below h1 h2⟩
  | cons c r =>
    have hc : isD c = true := by simp only [List.all_cons, Bool.and_eq_true] at hd; exact hd.1
    unfold isD at hc
    have hc := of_decide_eq_true hc
    have ha : Lib.atoiAll (c :: r) = if valD 0 (c :: r) < 9223372036854775808 then .ok (valD 0 (c :: r) : Int) else .range := by
      rw [Lib.atoiAll_plain c r (by omega) (by omega)]
      unfold Lib.parseMag
      rw [if_neg (by simp), parse_digits (c :: r) 0 hd (by omega)]
      obtain ⟨v, hv⟩ : ∃ v, v = valD 0 (c :: r) := ⟨_, rfl⟩
      rw [← hv]
      by_cases h1 : v < 18446744073709551616
      · rw [if_pos h1]
        unfold Lib.signless
        by_cases h2 : 9223372036854775808 ≤ v
        · simp only [if_pos h2]; rw [if_neg (by omega)]
        · simp only [if_neg h2]; rw [if_pos (by omega)]
      · rw [if_neg h1, if_neg (by omega)]; rfl
    by_cases hv : valD 0 (c :: r) < 9223372036854775808
    · refine (Any.strconv_Atoi_ok Tryz.lays172 (bs (c :: r)) (by rw [bs_size]; omega) (valD 0 (c :: r)) (by rw [bs_list, ha, if_pos hv]) w).mono fun e w' ⟨h1, h2⟩ => .inl ⟨by simp, hv, gives_below h1 (by
        rcases h2 with rfl | ⟨t, rfl⟩
        · exact Below.refl _ _
        · exact Go.Joins.below_bytesWorld _ _ _ _ (Nat.le_refl _))⟩
    · obtain ⟨tp, p, he⟩ := hL.rng
      refine (Any.strconv_Atoi_range_var Tryz.lays172 (bs (c :: r)) (by rw [bs_size]; omega) (by rw [bs_list, ha, if_neg hv]) tp p w he).mono ?_
      rintro e w' ⟨N, h1, _, _, h2⟩
      exact .inr ⟨.inr (by omega), _, N, gives_below h1 h2⟩
#print axioms atoi_any
end Go.Proofs.YtccbhblklhmcpaaGreatDoor
