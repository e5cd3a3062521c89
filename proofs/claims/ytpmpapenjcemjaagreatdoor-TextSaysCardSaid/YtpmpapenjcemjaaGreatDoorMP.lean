/- Plain law of the document's closed matrix: the least sums along ways that come to no clock twice are the closed one. No condition. Contracts of the document's May, Check (matrices), Sum (bounds), and path: the least sum along ways. Contracts of the document's Sum (bounds) and path: the least sum along ways. Contracts of the document's Closed and Close. No condition but on the matrix. Contract of the document's Close. Contract of the document's Twin, of any matrix. What a law over copies keeps: blocks of its own, and what lies below a world. No condition. Contracts of the document's Kept and Keeps (matrices and times), and of its Twin of no bounds. Contract of the document's Keeps (matrices and times). -/
import Derived.Test.YtpmpapenjcemjaaGreatDoorMC
import Derived.Test.YtpmpapenjcemjaaGreatDoorMA
import Derived.Test.YtpmpapenjcemjaaGreatDoorME
import Derived.Test.YtpmpapenjcemjaaGreatDoorFrame2
import Derived.Deep.Upon
import Derived.Test.YtpmpapenjcemjaaGreatDoorMR
namespace Go.Proofs.YtpmpapenjcemjaaGreatDoor
set_option linter.unusedSimpArgs false
set_option linter.unusedVariables false
open Go Go.RowKit

/-- Whether a bit is set. -/
def bitB (left k : Nat) : Bool := decide (left / 2 ^ k % 2 = 1)
def stepW (n : Nat) (f : Nat → Int) (rec : Nat → Nat → Int) (left i j : Nat) (best : Int) (k : Nat) : Int :=
  if bitB left k = true ∧ k ≠ i ∧ k ≠ j then (if (addR (f (i * n + k)) (rec (left - 2 ^ k) k)).2 = 0 ∧ (addR (f (i * n + k)) (rec (left - 2 ^ k) k)).1 < best then (addR (f (i * n + k)) (rec (left - 2 ^ k) k)).1 else best) else best
/-- The least sum of bounds by clocks of 'left'. -/
def pathI (n : Nat) (f : Nat → Int) : Nat → Nat → Nat → Nat → Int
  | 0, _, i, j => f (i * n + j)
  | F + 1, left, i, j => (List.range n).foldl (stepW n f (fun l k => pathI n f F l k j) left i j) (f (i * n + j))

theorem bit_sub : ∀ left, left < 16 → ∀ k, k < 4 → bitB left k = true → 2 ^ k ≤ left ∧ ∀ v, v < 4 → bitB (left - 2 ^ k) v = (bitB left v && decide (v ≠ k)) := by decide
theorem bit_zero (v : Nat) : bitB 0 v = false := by simp [bitB]
theorem bit_full : ∀ n, n ≤ 4 → 1 ≤ n → ∀ i, i < n → ∀ v, v < n → bitB (2 ^ n - 1 - 2 ^ i) v = decide (v ≠ i) := by decide

/-- A sum along a way that comes to no clock twice, by clocks of 'left'. -/
def GoodW (n : Nat) (m : Nat → Nat → EB) (left i j : Nat) (x : EB) : Prop := ∃ l : List Nat, l.Nodup ∧ (∀ v ∈ l, v < n ∧ bitB left v = true ∧ v ≠ i ∧ v ≠ j) ∧ x = wsum m i l j
theorem GoodW.bd {n left i j : Nat} {f : Nat → Int} {x : Int} (hn : n ≤ 4) (hb : ∀ i j, i < n → j < n → bd 288230376151711744 (f (i * n + j))) (hi : i < n) (hj : j < n) (h : GoodW n (mE n f) left i j (eb x)) : bd 1441151880758558720 x := by
  obtain ⟨l, h1, h2, h3⟩ := h
  rw [bd_iff, h3]
  have := wsum_bd (m := mE n f) (C := 288230376151711744) (fun i j hi hj => bd_iff.1 (hb i j hi hj)) l i j hi hj (fun v hv => (h2 v hv).1)
  refine ebd_mono this ?_
  have := nodup_len n l h1 (fun v hv => (h2 v hv).1)
  have h5 : ((l.length : Int) + 1) * 288230376151711744 ≤ 5 * 288230376151711744 := Int.mul_le_mul_of_nonneg_right (by omega) (by omega)
  omega

theorem fold_path {n left i j : Nat} {f : Nat → Int} {rec : Nat → Nat → Int} (hn : n ≤ 4) (hl : left < 16) (hb : ∀ i j, i < n → j < n → bd 288230376151711744 (f (i * n + j))) (hi : i < n) (hj : j < n) (hbi : bitB left i = false)
    (hr : ∀ k, k < n → bitB left k = true → k ≠ i → k ≠ j → GoodW n (mE n f) (left - 2 ^ k) k j (eb (rec (left - 2 ^ k) k))) :
    ∀ (L : List Nat) (best : Int), (∀ k ∈ L, k < n) → GoodW n (mE n f) left i j (eb best) →
      GoodW n (mE n f) left i j (eb (L.foldl (stepW n f rec left i j) best)) ∧ ele (eb (L.foldl (stepW n f rec left i j) best)) (eb best) ∧
      ∀ k ∈ L, bitB left k = true → k ≠ i → k ≠ j → ele (eb (L.foldl (stepW n f rec left i j) best)) (eadd (mE n f i k) (eb (rec (left - 2 ^ k) k)))
  | [], best, _, hg => ⟨hg, ele_refl _, fun k hk => by cases hk⟩
  | k :: L, best, hL, hg => by
    have hk : k < n := hL k (List.mem_cons_self ..)
    have ih := fun b => fold_path hn hl hb hi hj hbi hr L b (fun v hv => hL v (List.mem_cons_of_mem _ hv))
    rw [List.foldl_cons]
    by_cases hc : bitB left k = true ∧ k ≠ i ∧ k ≠ j
    · obtain ⟨c1, c2, c3⟩ := hc
      have hG := hr k hk c1 c2 c3
      have hGb := hG.bd hn hb hk hj
      obtain ⟨x1, x2, x3⟩ := addR_exact (hb i k hi hk) hGb (by omega) (by omega) (by omega)
      have hgb := hg.bd hn hb hi hj
      have hlt := lt_iff_ele x3 hgb (by omega) (by omega)
      have hs : stepW n f rec left i j best k = if (addR (f (i * n + k)) (rec (left - 2 ^ k) k)).1 < best then (addR (f (i * n + k)) (rec (left - 2 ^ k) k)).1 else best := by
        unfold stepW
        rw [if_pos ⟨c1, c2, c3⟩]
        simp only [x2, true_and]
      have hgood : GoodW n (mE n f) left i j (eb (addR (f (i * n + k)) (rec (left - 2 ^ k) k)).1) := by
        obtain ⟨l, h1, h2, h3⟩ := hG
        refine ⟨k :: l, List.nodup_cons.2 ⟨fun hm => (h2 k hm).2.2.1 rfl, h1⟩, fun v hv => ?_, by rw [x1, h3]; rfl⟩
        rcases List.mem_cons.1 hv with rfl | hv
        · exact ⟨hk, c1, c2, c3⟩
        · obtain ⟨g1, g2, g3, g4⟩ := h2 v hv
          rw [(bit_sub left hl k (by omega) c1).2 v (by omega)] at g2
          simp only [Bool.and_eq_true, decide_eq_true_eq] at g2
          refine ⟨g1, g2.1, fun e => ?_, g4⟩
          rw [e, hbi] at g2; cases g2.1
      rw [hs]
      by_cases hlt' : (addR (f (i * n + k)) (rec (left - 2 ^ k) k)).1 < best
      · rw [if_pos hlt']
        obtain ⟨i1, i2, i3⟩ := ih _ hgood
        refine ⟨i1, ele_trans i2 (ele_of_not (hlt.1 hlt')), fun v hv => ?_⟩
        rcases List.mem_cons.1 hv with rfl | hv
        · intro _ _ _
          have := i2
          rw [x1] at this
          exact this
        · exact i3 v hv
      · rw [if_neg hlt']
        obtain ⟨i1, i2, i3⟩ := ih _ hg
        refine ⟨i1, i2, fun v hv => ?_⟩
        rcases List.mem_cons.1 hv with rfl | hv
        · intro _ _ _
          have h5 : ele (eb best) (eb (addR (f (i * n + v)) (rec (left - 2 ^ v) v)).1) := Classical.byContradiction fun hn => hlt' (hlt.2 hn)
          rw [x1] at h5
          exact ele_trans i2 h5
        · exact i3 v hv
    · have hs : stepW n f rec left i j best k = best := by unfold stepW; rw [if_neg hc]
      rw [hs]
      obtain ⟨i1, i2, i3⟩ := ih _ hg
      refine ⟨i1, i2, fun v hv => ?_⟩
      rcases List.mem_cons.1 hv with rfl | hv
      · intro a b c; exact absurd ⟨a, b, c⟩ hc
      · exact i3 v hv

theorem path_good {n : Nat} {f : Nat → Int} (hn : n ≤ 4) (hb : ∀ i j, i < n → j < n → bd 288230376151711744 (f (i * n + j))) : ∀ (F left i j : Nat), left < 16 → i < n → j < n → bitB left i = false → GoodW n (mE n f) left i j (eb (pathI n f F left i j))
  | 0, left, i, j, _, hi, hj, _ => ⟨[], List.nodup_nil, (fun v hv => by cases hv), rfl⟩
  | F + 1, left, i, j, hl, hi, hj, hbi => by
    refine (fold_path (rec := fun l k => pathI n f F l k j) hn hl hb hi hj hbi (fun k hk c1 c2 c3 => ?_) (List.range n) (f (i * n + j)) (fun k hk => by simpa using hk) ⟨[], List.nodup_nil, (fun v hv => by cases hv), rfl⟩).1
    have hs := bit_sub left hl k (by omega) c1
    exact path_good hn hb F (left - 2 ^ k) k j (Nat.lt_of_le_of_lt (Nat.sub_le _ _) hl) hk hj (by rw [hs.2 k (by omega)]; simp)
theorem path_least {n : Nat} {f : Nat → Int} (hn : n ≤ 4) (hb : ∀ i j, i < n → j < n → bd 288230376151711744 (f (i * n + j))) : ∀ (F left i j : Nat), left ≤ F → left < 16 → i < n → j < n → bitB left i = false →
    ∀ l : List Nat, l.Nodup → (∀ v ∈ l, v < n ∧ bitB left v = true ∧ v ≠ i ∧ v ≠ j) → ele (eb (pathI n f F left i j)) (wsum (mE n f) i l j)
  | 0, left, i, j, hF, _, hi, hj, _, l, h1, h2 => by
    obtain rfl : left = 0 := by omega
    cases l with
    | nil => exact ele_refl _
    | cons v l => have := (h2 v (List.mem_cons_self ..)).2.1; rw [bit_zero] at this; cases this
  | F + 1, left, i, j, hF, hl, hi, hj, hbi, l, h1, h2 => by
    have K := fold_path (rec := fun l k => pathI n f F l k j) hn hl hb hi hj hbi (fun k hk c1 c2 c3 => by
      have hs := bit_sub left hl k (by omega) c1
      exact path_good hn hb F (left - 2 ^ k) k j (Nat.lt_of_le_of_lt (Nat.sub_le _ _) hl) hk hj (by rw [hs.2 k (by omega)]; simp)) (List.range n) (f (i * n + j)) (fun k hk => by simpa using hk) ⟨[], List.nodup_nil, (fun v hv => by cases hv), rfl⟩
    cases l with
    | nil => exact K.2.1
    | cons k l =>
      obtain ⟨hk, c1, c2, c3⟩ := h2 k (List.mem_cons_self ..)
      have hs := bit_sub left hl k (by omega) c1
      refine ele_trans (K.2.2 k (by simpa using hk) c1 c2 c3) ?_
      refine eadd_mono_r _ ?_
      have hp : 0 < 2 ^ k := Nat.pow_pos (by omega)
      obtain ⟨n1, n2⟩ := List.nodup_cons.1 h1
      refine path_least hn hb F (left - 2 ^ k) k j (Nat.le_trans (Nat.sub_le_sub_left (show 1 ≤ 2 ^ k from hp) left) (by omega)) (Nat.lt_of_le_of_lt (Nat.sub_le _ _) hl) hk hj (by rw [hs.2 k (by omega)]; simp) l n2 (fun v hv => ?_)
      obtain ⟨g1, g2, g3, g4⟩ := h2 v (List.mem_cons_of_mem _ hv)
      have hvk : v ≠ k := fun e => n1 (e ▸ hv)
      exact ⟨g1, by rw [hs.2 v (by omega), g2]; simpa using hvk, hvk, g4⟩

/-- What is closed and under a matrix is under the sums along its ways. -/
theorem closed_le_wsum {n : Nat} {m q : Nat → Nat → EB} (hq : Closed n q) (hu : Under n q m) : ∀ (l : List Nat) (i j : Nat), i < n → j < n → (∀ v ∈ l, v < n) → ele (q i j) (wsum m i l j)
  | [], i, j, hi, hj, _ => hu i j hi hj
  | v :: l, i, j, hi, hj, hl => by
    have hv := hl v (List.mem_cons_self ..)
    exact ele_trans (hq.2 i j v hi hj hv) (eadd_mono (hu i v hi hv) (closed_le_wsum hq hu l v j hv hj (fun u hu => hl u (List.mem_cons_of_mem _ hu))))
theorem wsum_diag1 {m : Nat → Nat → EB} : ∀ (l : List Nat) (i j : Nat), l.Nodup → (∀ v ∈ l, v ≠ i ∧ v ≠ j) → i ≠ j → wsum (diag1 m) i l j = wsum m i l j
  | [], i, j, _, _, hij => diag1_off m hij
  | v :: l, i, j, h1, h2, hij => by
    obtain ⟨a, b⟩ := h2 v (List.mem_cons_self ..)
    obtain ⟨n1, n2⟩ := List.nodup_cons.1 h1
    show eadd (diag1 m i v) (wsum (diag1 m) v l j) = eadd (m i v) (wsum m v l j)
    rw [diag1_off m (Ne.symm a), wsum_diag1 l v j n2 (fun u hu => ⟨fun e => n1 (e ▸ hu), (h2 u (List.mem_cons_of_mem _ hu)).2⟩) b]

/-- No way round is below 0 if none that comes to no clock twice is. -/
theorem cycle_ok {n : Nat} {m : Nat → Nat → EB} (H : ∀ v, v < n → ∀ l : List Nat, l.Nodup → (∀ u ∈ l, u < n ∧ u ≠ v) → ele (some 1) (wsum m v l v)) :
    ∀ (N : Nat) (l l' : List Nat) (i k : Nat), l.length + l'.length ≤ N → i < n → k < n → i ≠ k → l.Nodup → l'.Nodup → (∀ u ∈ l, u < n ∧ u ≠ i ∧ u ≠ k) → (∀ u ∈ l', u < n ∧ u ≠ i ∧ u ≠ k) → ele (some 1) (eadd (wsum m i l k) (wsum m k l' i))
  | N, l, l', i, k, hN, hi, hk, hik, h1, h2, h3, h4 => by
    by_cases hd : ∃ v, v ∈ l ∧ v ∈ l'
    · obtain ⟨v, hv, hv'⟩ := hd
      obtain ⟨vn, vi, vk⟩ := h3 v hv
      obtain ⟨p, q, rfl⟩ := List.append_of_mem hv
      obtain ⟨r, s, rfl⟩ := List.append_of_mem hv'
      simp only [List.length_append, List.length_cons] at hN
      obtain ⟨N', rfl⟩ : ∃ N', N = N' + 1 := ⟨N - 1, by omega⟩
      rw [List.nodup_append] at h1 h2
      obtain ⟨a1, a2, a3⟩ := h1
      obtain ⟨b1, b2, b3⟩ := h2
      obtain ⟨a4, a5⟩ := List.nodup_cons.1 a2
      obtain ⟨b4, b5⟩ := List.nodup_cons.1 b2
      have P : ∀ u ∈ p, u < n ∧ u ≠ i ∧ u ≠ v := fun u hu => by
        have := h3 u (by simp [hu])
        exact ⟨this.1, this.2.1, a3 u hu v (by simp)⟩
      have Q : ∀ u ∈ q, u < n ∧ u ≠ k ∧ u ≠ v := fun u hu => by
        have := h3 u (by simp [hu])
        exact ⟨this.1, this.2.2, fun e => a4 (e ▸ hu)⟩
      have R : ∀ u ∈ r, u < n ∧ u ≠ k ∧ u ≠ v := fun u hu => by
        have := h4 u (by simp [hu])
        exact ⟨this.1, this.2.2, b3 u hu v (by simp)⟩
      have S : ∀ u ∈ s, u < n ∧ u ≠ i ∧ u ≠ v := fun u hu => by
        have := h4 u (by simp [hu])
        exact ⟨this.1, this.2.1, fun e => b4 (e ▸ hu)⟩
      have y1 := cycle_ok H N' p s i v (by omega) hi vn (Ne.symm vi) a1 b5 P S
      have y2 := cycle_ok H N' r q k v (by omega) hk vn (Ne.symm vk) b1 a5 R Q
      have y := eadd_mono y1 y2
      rw [show eadd (some 1) (some 1) = some 1 from rfl] at y
      rw [wsum_append, wsum_append]
      obtain ⟨A, hA⟩ : ∃ A, A = wsum m i p v := ⟨_, rfl⟩
      obtain ⟨B, hB⟩ : ∃ B, B = wsum m v q k := ⟨_, rfl⟩
      obtain ⟨C, hC⟩ : ∃ C, C = wsum m k r v := ⟨_, rfl⟩
      obtain ⟨D, hD⟩ : ∃ D, D = wsum m v s i := ⟨_, rfl⟩
      rw [← hA, ← hB, ← hC, ← hD]
      rw [← hA, ← hB, ← hC, ← hD] at y
      have e : eadd (eadd A B) (eadd C D) = eadd (eadd A D) (eadd C B) := by
        rw [eadd_assoc, eadd_assoc, eadd_comm C D, ← eadd_assoc B, eadd_comm B D, eadd_assoc D, eadd_comm B C]
      rw [e]; exact y
    · rw [← wsum_append]
      refine H i hi _ ?_ ?_
      · rw [List.nodup_append]
        refine ⟨h1, List.nodup_cons.2 ⟨fun hm => (h4 k hm).2.2 rfl, h2⟩, fun x hx y hy hxy => ?_⟩
        subst hxy
        rcases List.mem_cons.1 hy with hy | hy
        · exact (h3 x hx).2.2 hy
        · exact hd ⟨x, hx, hy⟩
      · intro u hu
        rcases List.mem_append.1 hu with hu | hu
        · exact ⟨(h3 u hu).1, (h3 u hu).2.1⟩
        · rcases List.mem_cons.1 hu with rfl | hu
          · exact ⟨hk, Ne.symm hik⟩
          · exact ⟨(h4 u hu).1, (h4 u hu).2.1⟩

theorem rounds_some {n : Nat} {m : Nat → Nat → EB} (H : ∀ v, v < n → ∀ l : List Nat, l.Nodup → (∀ u ∈ l, u < n ∧ u ≠ v) → ele (some 1) (wsum m v l v)) : ∀ k, k ≤ n → ∃ a, roundsR n (diag1 m) k = some a
  | 0, _ => ⟨_, rfl⟩
  | k + 1, hk => by
    obtain ⟨b, hb⟩ := rounds_some H k (by omega)
    have hkn : k < n := by omega
    have hd1 : ∀ i, i < n → diag1 m i i = some 1 := fun i _ => diag1_diag m i
    have ri := rounds_inv hd1 k b (by omega) hb
    have hs := rounds_simple hd1 k b (by omega) hb
    refine ⟨viaR b k, ?_⟩
    simp only [roundsR, hb]
    rw [if_pos]
    intro i hi
    refine le_emin (by rw [ri.diag i hi]; exact ele_refl _) ?_
    by_cases hik : i = k
    · subst hik
      rw [ri.diag i hi, one_eadd]; exact ele_refl _
    · rcases hs i k hi hkn with h1 | ⟨h1, _⟩ | ⟨_, l1, h2, h3, h4⟩
      · rw [h1, none_eadd]; exact ele_none _
      · exact absurd h1 hik
      rcases hs k i hkn hi with g1 | ⟨g1, _⟩ | ⟨_, l2, g2, g3, g4⟩
      · rw [g1, eadd_none]; exact ele_none _
      · exact absurd g1.symm hik
      rw [h4, g4, wsum_diag1 l1 i k h2 (fun v hv => (h3 v hv).2) hik, wsum_diag1 l2 k i g2 (fun v hv => (g3 v hv).2) (Ne.symm hik)]
      exact cycle_ok H _ l1 l2 i k (Nat.le_refl _) hi hkn hik h2 g2 (fun u hu => by have := h3 u hu; exact ⟨by omega, this.2⟩) (fun u hu => by have := g3 u hu; exact ⟨by omega, this.2.2, this.2.1⟩)

/-- The ways of all clocks but the first. -/
def topW (n : Nat) (f : Nat → Int) (i j : Nat) : Int := pathI n f 16 (2 ^ n - 1 - 2 ^ i) i j
theorem full_lt : ∀ n, n ≤ 4 → ∀ i, 2 ^ n - 1 - 2 ^ i < 16 := by
  intro n hn i
  have : 2 ^ n ≤ 2 ^ 4 := Nat.pow_le_pow_right (by omega) hn
  exact Nat.lt_of_le_of_lt (Nat.sub_le _ _) (by omega)

/-- The document's closed one is the closed one. -/
theorem topW_some {n : Nat} {f c : Nat → Int} (hn0 : 1 ≤ n) (hn : n ≤ 4) (hb : ∀ i j, i < n → j < n → bd 288230376151711744 (f (i * n + j))) (h : closeI n f = some c) :
    (∀ i, i < n → 1 ≤ topW n f i i) ∧ ∀ i j, i < n → j < n → c (i * n + j) = if i = j then 1 else topW n f i j := by
  have K := close_facts hn0 hn hb h
  obtain ⟨e, he, hce⟩ := K.ex
  have hcl := K.closed
  have low : ∀ i j, i < n → j < n → ele (mE n c i j) (eb (topW n f i j)) := fun i j hi hj => by
    obtain ⟨l, h1, h2, h3⟩ := path_good hn hb 16 (2 ^ n - 1 - 2 ^ i) i j (full_lt n hn i) hi hj (by rw [bit_full n hn hn0 i hi i hi]; simp)
    unfold topW
    rw [h3]
    exact closed_le_wsum hcl.1 hcl.2 l i j hi hj (fun v hv => (h2 v hv).1)
  refine ⟨fun i hi => ?_, fun i j hi hj => ?_⟩
  · have hbd := (path_good hn hb 16 (2 ^ n - 1 - 2 ^ i) i i (full_lt n hn i) hi hi (by rw [bit_full n hn hn0 i hi i hi]; simp)).bd hn hb hi hi
    refine (ele_one_iff hbd (by omega) (by omega)).2 ?_
    have := low i i hi hi
    rwa [hcl.1.1 i hi] at this
  · by_cases hij : i = j
    · subst hij; rw [if_pos rfl]; exact K.diag hi
    · rw [if_neg hij]
      refine eb_inj (ele_antisymm (low i j hi hj) ?_)
      rw [hce i j hi hj]
      unfold closeE at he
      split at he
      · rcases rounds_simple (fun i _ => diag1_diag _ i) n e (Nat.le_refl _) he i j hi hj with h1 | ⟨h1, _⟩ | ⟨_, l, h2, h3, h4⟩
        · rw [h1]; exact ele_none _
        · exact absurd h1 hij
        · rw [h4, wsum_diag1 l i j h2 (fun v hv => (h3 v hv).2) hij]
          have hlt := full_lt n hn i
          exact path_least hn hb 16 (2 ^ n - 1 - 2 ^ i) i j (by omega) hlt hi hj (by rw [bit_full n hn hn0 i hi i hi]; simp) l h2 (fun v hv => by
            obtain ⟨g1, g2, g3⟩ := h3 v hv
            exact ⟨g1, by rw [bit_full n hn hn0 i hi v g1]; simpa using g2, g2, g3⟩)
      · cases he
theorem topW_none {n : Nat} {f : Nat → Int} (hn0 : 1 ≤ n) (hn : n ≤ 4) (hb : ∀ i j, i < n → j < n → bd 288230376151711744 (f (i * n + j))) (h : closeI n f = none) : ∃ i, i < n ∧ topW n f i i < 1 := by
  refine Classical.byContradiction fun hno => ?_
  have hE := close_none hn hb h
  have H : ∀ v, v < n → ∀ l : List Nat, l.Nodup → (∀ u ∈ l, u < n ∧ u ≠ v) → ele (some 1) (wsum (mE n f) v l v) := by
    intro v hv l h1 h2
    have hlt := full_lt n hn v
    have hbf : bitB (2 ^ n - 1 - 2 ^ v) v = false := by rw [bit_full n hn hn0 v hv v hv]; simp
    have hp := path_least hn hb 16 (2 ^ n - 1 - 2 ^ v) v v (by omega) hlt hv hv hbf l h1 (fun u hu => by
      obtain ⟨g1, g2⟩ := h2 u hu
      exact ⟨g1, by rw [bit_full n hn hn0 v hv u g1]; simpa using g2, g2, g2⟩)
    have hbd := (path_good hn hb 16 (2 ^ n - 1 - 2 ^ v) v v hlt hv hv hbf).bd hn hb hv hv
    refine ele_trans ((ele_one_iff hbd (by omega) (by omega)).1 ?_) hp
    exact Classical.byContradiction fun hlt => hno ⟨v, hv, by show topW n f v v < 1; unfold topW; omega⟩
  obtain ⟨a, ha⟩ := rounds_some H n (Nat.le_refl _)
  unfold closeE at hE
  rw [if_pos (show ∀ i, i < n → ele (some 1) (mE n f i i) from fun i hi => H i hi [] List.nodup_nil (fun u hu => by cases hu))] at hE
  rw [ha] at hE; cases hE
#print axioms topW_some
#print axioms topW_none
end Go.Proofs.YtpmpapenjcemjaaGreatDoor

namespace Go.Proofs.YtpmpapenjcemjaaGreatDoor
set_option linter.unusedSimpArgs false
set_option linter.unusedVariables false
open Go Go.RowKit Go.Shelf
attribute [local go_sem] Nat.add_assoc Nat.add_lt_add_iff_left lit_lt_add

set_option maxRecDepth 10000 in
set_option maxHeartbeats 4000000 in
theorem refMay_any (n : Int) (p : Option Addr) (N cap : Nat) (f : Nat → Int) (w : World) (hn : fits64 n) (hS : SlP w p N f) (hF : Fits N f) (hN : N ≤ 1000000) :
    Calls Tryz.prog 117 #[.agg #[.int .i64 n, .slice p N cap]] w (Gives w (.bool (okD n N f))) := by
  by_cases h1 : 1 ≤ n
  · by_cases h2 : n ≤ 4
    · obtain ⟨m, rfl⟩ : ∃ m : Nat, n = (m : Int) := ⟨n.toNat, by omega⟩
      obtain ⟨q, hq⟩ : ∃ q : Nat, (m : Int) * (m : Int) = (q : Int) := ⟨m * m, by simp⟩
      have hqm : q ≤ 4 * 4 := by
        have : m * m ≤ 4 * 4 := Nat.mul_le_mul (by omega) (by omega)
        have e : m * m = q := by exact_mod_cast hq
        omega
      by_cases h3 : N = q
      · subst h3
        have R : Hid (okD m N f = allMay N f) := by
          show _ = _
          simp [okD, hq, h1, h2]
        have h4 : ((N : Int) != (N : Int)) = false := by simp
        have HS := Lib.hid hS
        have HF := Lib.hid hF
        clear hS hF
        go_enter Tryz.func117, Tryz.ntmps117
        go_wp2
        refine wp_world (fun W => Below w.heap.size w W ∧ w.heap.size < W.heap.size ∧ W.cell? ⟨w.heap.size, 0, none⟩ = some (.int .i64 m) ∧ W.cell? ⟨w.heap.size, 1, none⟩ = some (.slice p N cap)) ⟨by (repeat' (first | (with_reducible assumption) | (with_reducible exact Below.refl _ _) | (with_reducible refine below_wov ?_ ?_ _) | (with_reducible refine below_drewN ?_ _) | (with_reducible refine Below.drew ?_) | (with_reducible refine Below.alloc ?_ ?_ _) | (with_reducible refine Below.setCell ?_ ?_ _) | (with_reducible exact Nat.le_refl _) | omega | (simp only [World.size_alloc, World.size_setCell, World.size_drew, Wov_size, World.heap_drewN]; omega))), by simp, by simp [go_sem], by simp [go_sem]⟩ ?_
        rintro W ⟨hBw, hzw, c0, c1⟩
        go_loopw [3, 4] (fun i _ wr => ∃ t : Nat, t ≤ N ∧ i = .int .i64 t ∧ Hid (∀ x, x < t → mayB (f x) = true) ∧ ∃ k, wr = W.drewN k)
          (fun i _ _ => N - (intOf i).toNat)
        case atStart => exact ⟨0, Nat.zero_le _, rfl, (fun x hx => by omega), 0, rfl⟩
        case round =>
          obtain ⟨t, ht, rfl, hpre, k, rfl⟩ := hrel
          by_cases hlt : t < N
          · obtain ⟨B, off, rfl, hB, hc⟩ := HS.out.pos (by omega)
            have r1 : W.cell? ⟨B, off + t, none⟩ = some (.int .i64 (f t)) := (hBw.cell (p := ⟨B, off + t, none⟩) hB).trans (hc t hlt)
            have hf := HF.out t hlt
            have NU := Lib.hid (fun w' => refNumber_any (f t) w' hf.1 hf.2)
            have MB : Hid (mayB (f t) = (decide (f t = noneB) || (decide (-288230376151711744 ≤ bnum (f t)) && decide (bnum (f t) ≤ 288230376151711744)))) := rfl
            obtain ⟨v, hv⟩ : ∃ v, v = f t := ⟨_, rfl⟩
            obtain ⟨c, hcn⟩ : ∃ c, c = bnum (f t) := ⟨_, rfl⟩
            rw [← hcn] at NU MB
            rw [← hv] at r1 NU
            rw [← hv] at MB
            have HV := Lib.hid hv
            have HBc : B < W.heap.size := Nat.lt_of_lt_of_le hB hBw.size
            have u1 : (0 : Int) ≤ (t : Int) := by omega
            have u2 : (t : Int) < (N : Int) := by omega
            clear hv hcn hf hc
            by_cases e1 : v = noneB
            · have be : (v != 9223372036854775807) = false := by rw [e1]; rfl
              have good : Hid (mayB (f t) = true) := by show _ = _; rw [← HV.out, MB.out, decide_eq_true e1]; rfl
              clear MB e1
              go_wp2
              go_roundw
              case rel =>
                refine ⟨t + 1, hlt, by go_num, fun x hx => ?_, k, rfl⟩
                by_cases e : x = t
                · subst e; exact good.out
                · exact hpre.out x (by omega)
              case measure => simp [intOf]; omega
            · have be : (v != 9223372036854775807) = true := by rw [bne_iff_ne]; exact e1
              by_cases e2 : c < -288230376151711744
              · have bad : Hid (okD m N f = false) := by
                  show _ = _
                  rw [R.out]
                  refine allMay_f hlt ?_
                  rw [← HV.out, MB.out, decide_eq_false e1, decide_eq_false (show ¬ -288230376151711744 ≤ c by omega)]; rfl
                clear MB e1
                go_wp2_with (fail)
                all_goals (refine (NU.out _).mono ?_; rintro e w' ⟨rfl, rfl⟩)
                go_wp2
                all_goals
                  go_ret
                  exact gives_bool (by rw [bad.out]) (by (repeat' (first | (with_reducible assumption) | (with_reducible exact Below.refl _ _) | (with_reducible refine below_wov ?_ ?_ _) | (with_reducible refine below_drewN ?_ _) | (with_reducible refine Below.drew ?_) | (with_reducible refine Below.alloc ?_ ?_ _) | (with_reducible refine Below.setCell ?_ ?_ _) | (with_reducible exact Nat.le_refl _) | omega | (simp only [World.size_alloc, World.size_setCell, World.size_drew, Wov_size, World.heap_drewN]; omega))))
              · have b2 : decide (c < -288230376151711744) = false := by simp; omega
                by_cases e3 : 288230376151711744 < c
                · have bad : Hid (okD m N f = false) := by
                    show _ = _
                    rw [R.out]
                    refine allMay_f hlt ?_
                    rw [← HV.out, MB.out, decide_eq_false e1, decide_eq_false (show ¬ c ≤ 288230376151711744 by omega)]; simp
                  clear MB e1
                  go_wp2_with (fail)
                  refine (NU.out _).mono ?_; rintro e w' ⟨rfl, rfl⟩
                  go_wp2_with (fail)
                  refine (NU.out _).mono ?_; rintro e w' ⟨rfl, rfl⟩
                  go_wp2
                  all_goals
                    go_ret
                    exact gives_bool (by rw [bad.out]) (by (repeat' (first | (with_reducible assumption) | (with_reducible exact Below.refl _ _) | (with_reducible refine below_wov ?_ ?_ _) | (with_reducible refine below_drewN ?_ _) | (with_reducible refine Below.drew ?_) | (with_reducible refine Below.alloc ?_ ?_ _) | (with_reducible refine Below.setCell ?_ ?_ _) | (with_reducible exact Nat.le_refl _) | omega | (simp only [World.size_alloc, World.size_setCell, World.size_drew, Wov_size, World.heap_drewN]; omega))))
                · have b3 : decide (288230376151711744 < c) = false := by simp; omega
                  have good : Hid (mayB (f t) = true) := by show _ = _; rw [← HV.out, MB.out, decide_eq_true (show -288230376151711744 ≤ c by omega), decide_eq_true (show c ≤ 288230376151711744 by omega)]; simp
                  clear MB e1
                  go_wp2_with (fail)
                  refine (NU.out _).mono ?_; rintro e w' ⟨rfl, rfl⟩
                  go_wp2_with (fail)
                  refine (NU.out _).mono ?_; rintro e w' ⟨rfl, rfl⟩
                  go_wp2
                  go_roundw
                  case rel =>
                    refine ⟨t + 1, hlt, by go_num, fun x hx => ?_, k, rfl⟩
                    by_cases e : x = t
                    · subst e; exact good.out
                    · exact hpre.out x (by omega)
                  case measure => simp [intOf]; omega
          · have e : t = N := by omega
            subst e
            have good : Hid (okD m t f = true) := by show _ = _; rw [R.out]; exact allMay_t hpre.out
            go_wp2
            go_ret
            exact gives_bool (by rw [good.out]) (by (repeat' (first | (with_reducible assumption) | (with_reducible exact Below.refl _ _) | (with_reducible refine below_wov ?_ ?_ _) | (with_reducible refine below_drewN ?_ _) | (with_reducible refine Below.drew ?_) | (with_reducible refine Below.alloc ?_ ?_ _) | (with_reducible refine Below.setCell ?_ ?_ _) | (with_reducible exact Nat.le_refl _) | omega | (simp only [World.size_alloc, World.size_setCell, World.size_drew, Wov_size, World.heap_drewN]; omega))))
      · have R : Hid (okD m N f = false) := by
          show _ = _
          have : ¬ ((N : Int) = (m : Int) * (m : Int)) := by rw [hq]; omega
          simp [okD, this]
        have h4 : ((N : Int) != (q : Int)) = true := by rw [bne_iff_ne]; omega
        clear hS hF
        go_enter Tryz.func117, Tryz.ntmps117
        go_wp2
        all_goals
          go_ret
          exact gives_bool (by rw [R.out]) (by (repeat' (first | (with_reducible assumption) | (with_reducible exact Below.refl _ _) | (with_reducible refine below_wov ?_ ?_ _) | (with_reducible refine below_drewN ?_ _) | (with_reducible refine Below.drew ?_) | (with_reducible refine Below.alloc ?_ ?_ _) | (with_reducible refine Below.setCell ?_ ?_ _) | (with_reducible exact Nat.le_refl _) | omega | (simp only [World.size_alloc, World.size_setCell, World.size_drew, Wov_size, World.heap_drewN]; omega))))
    · have R : Hid (okD n N f = false) := by show _ = _; simp [okD, h2]
      have h3 : 4 < n := by omega
      clear hS hF
      go_enter Tryz.func117, Tryz.ntmps117
      go_wp2
      all_goals
        go_ret
        exact gives_bool (by rw [R.out]) (by (repeat' (first | (with_reducible assumption) | (with_reducible exact Below.refl _ _) | (with_reducible refine below_wov ?_ ?_ _) | (with_reducible refine below_drewN ?_ _) | (with_reducible refine Below.drew ?_) | (with_reducible refine Below.alloc ?_ ?_ _) | (with_reducible refine Below.setCell ?_ ?_ _) | (with_reducible exact Nat.le_refl _) | omega | (simp only [World.size_alloc, World.size_setCell, World.size_drew, Wov_size, World.heap_drewN]; omega))))
  · have R : Hid (okD n N f = false) := by show _ = _; simp [okD, h1]
    have h3 : n < 1 := by omega
    clear hS hF h1
    go_enter Tryz.func117, Tryz.ntmps117
    go_wp2
    all_goals
      go_ret
      exact gives_bool (by rw [R.out]) (by (repeat' (first | (with_reducible assumption) | (with_reducible exact Below.refl _ _) | (with_reducible refine below_wov ?_ ?_ _) | (with_reducible refine below_drewN ?_ _) | (with_reducible refine Below.drew ?_) | (with_reducible refine Below.alloc ?_ ?_ _) | (with_reducible refine Below.setCell ?_ ?_ _) | (with_reducible exact Nat.le_refl _) | omega | (simp only [World.size_alloc, World.size_setCell, World.size_drew, Wov_size, World.heap_drewN]; omega))))

end Go.Proofs.YtpmpapenjcemjaaGreatDoor

namespace Go.Proofs.YtpmpapenjcemjaaGreatDoor
set_option linter.unusedSimpArgs false
set_option linter.unusedVariables false
open Go Go.RowKit Go.Shelf
attribute [local go_sem] Nat.add_assoc Nat.add_lt_add_iff_left lit_lt_add

set_option maxRecDepth 10000 in
set_option maxHeartbeats 2000000 in
theorem refSum_any (a b : Int) (w : World) (ha : fits64 a) (hb : fits64 b) (oa : okB a = true) (ob : okB b = true) :
    Calls Tryz.prog 195 #[.int .i64 a, .int .i64 b] w (Gives w (.tuple #[.int .i64 (addR a b).1, .bool (decide ((addR a b).2 = 0))])) := by
  unfold fits64 at ha hb
  by_cases na : a = noneB
  · have R : Hid (addR a b = (noneB, 0)) := addR_none oa ob (.inl na)
    rw [R.out]
    have e : (a == 9223372036854775807) = true := isNone_t na
    clear na oa ob
    go_enter Tryz.func195, Tryz.ntmps195
    go_wp2
    all_goals
      go_ret2
      exact gives_end rfl (by (repeat' (first | (with_reducible assumption) | (with_reducible exact Below.refl _ _) | (with_reducible refine below_wov ?_ ?_ _) | (with_reducible refine below_drewN ?_ _) | (with_reducible refine Below.drew ?_) | (with_reducible refine Below.alloc ?_ ?_ _) | (with_reducible refine Below.setCell ?_ ?_ _) | (with_reducible exact Nat.le_refl _) | omega | (simp only [World.size_alloc, World.size_setCell, World.size_drew, Wov_size, World.heap_drewN]; omega))))
  · have ea : (a == 9223372036854775807) = false := isNone_f na
    by_cases nb : b = noneB
    · have R : Hid (addR a b = (noneB, 0)) := addR_none oa ob (.inr nb)
      rw [R.out]
      have e : (b == 9223372036854775807) = true := isNone_t nb
      clear na nb oa ob
      go_enter Tryz.func195, Tryz.ntmps195
      go_wp2
      all_goals
        go_ret2
        exact gives_end rfl (by (repeat' (first | (with_reducible assumption) | (with_reducible exact Below.refl _ _) | (with_reducible refine below_wov ?_ ?_ _) | (with_reducible refine below_drewN ?_ _) | (with_reducible refine Below.drew ?_) | (with_reducible refine Below.alloc ?_ ?_ _) | (with_reducible refine Below.setCell ?_ ?_ _) | (with_reducible exact Nat.le_refl _) | omega | (simp only [World.size_alloc, World.size_setCell, World.size_drew, Wov_size, World.heap_drewN]; omega))))
    · have eb : (b == 9223372036854775807) = false := isNone_f nb
      have R0 := addR_ok oa ob na nb
      have xa := okB_num oa na
      have xb := okB_num ob nb
      have N1 := Lib.hid (fun w' => refNumber_any a w' ha.1 ha.2)
      have N2 := Lib.hid (fun w' => refNumber_any b w' hb.1 hb.2)
      have S1 := Lib.hid (fun w' => refStrict_any a w')
      have S2 := Lib.hid (fun w' => refStrict_any b w')
      obtain ⟨x, hx⟩ : ∃ x, x = bnum a := ⟨_, rfl⟩
      obtain ⟨y, hy⟩ : ∃ y, y = bnum b := ⟨_, rfl⟩
      obtain ⟨s, hs⟩ : ∃ s, s = bstr a := ⟨_, rfl⟩
      obtain ⟨u, hu⟩ : ∃ u, u = bstr b := ⟨_, rfl⟩
      rw [← hx, ← hy, ← hs, ← hu] at R0
      rw [← hx] at N1 xa
      rw [← hy] at N2 xb
      rw [← hs] at S1
      rw [← hu] at S2
      have W1 : IntKind.i64.wrap (x + y) = x + y := by rw [IntKind.wrap_i64]; omega
      have M1 := Lib.hid (fun w' => ref1May_any (x + y) w' (by omega) (by omega))
      clear hx hy hs hu na nb oa ob ha hb
      cases ho : okN (x + y)
      · rw [madeR, ho] at R0
        have R : Hid (addR a b = (0, 10)) := R0
        rw [R.out]
        rw [ho] at M1
        clear ho R0 S1 S2
        go_enter Tryz.func195, Tryz.ntmps195
        go_wp2_with (fail)
        refine (N1.out _).mono ?_; rintro e w' ⟨rfl, rfl⟩
        go_wp2_with (fail)
        refine (N2.out _).mono ?_; rintro e w' ⟨rfl, rfl⟩
        go_wp2_with (fail)
        refine (M1.out _).mono ?_; rintro e w' ⟨rfl, rfl⟩
        go_wp2
        go_ret2
        exact gives_end rfl (by (repeat' (first | (with_reducible assumption) | (with_reducible exact Below.refl _ _) | (with_reducible refine below_wov ?_ ?_ _) | (with_reducible refine below_drewN ?_ _) | (with_reducible refine Below.drew ?_) | (with_reducible refine Below.alloc ?_ ?_ _) | (with_reducible refine Below.setCell ?_ ?_ _) | (with_reducible exact Nat.le_refl _) | omega | (simp only [World.size_alloc, World.size_setCell, World.size_drew, Wov_size, World.heap_drewN]; omega))))
      · rw [madeR, ho] at R0
        have R : Hid (addR a b = (mkB (x + y) (s || u), 0)) := R0
        rw [R.out]
        rw [ho] at M1
        have hb2 := okN_bd ho
        have MD := Lib.hid (fun t w' => refMade_any (x + y) t w' hb2.1 hb2.2)
        clear ho R0 hb2
        cases s
        · go_enter Tryz.func195, Tryz.ntmps195
          go_wp2_with (fail)
          refine (N1.out _).mono ?_; rintro e w' ⟨rfl, rfl⟩
          go_wp2_with (fail)
          refine (N2.out _).mono ?_; rintro e w' ⟨rfl, rfl⟩
          go_wp2_with (fail)
          refine (M1.out _).mono ?_; rintro e w' ⟨rfl, rfl⟩
          go_wp2_with (fail)
          refine (S1.out _).mono ?_; rintro e w' ⟨rfl, rfl⟩
          go_wp2_with (fail)
          refine (S2.out _).mono ?_; rintro e w' ⟨rfl, rfl⟩
          go_wp2_with (fail)
          refine (MD.out _ _).mono ?_; rintro e w' ⟨rfl, rfl⟩
          go_wp2
          go_ret2
          exact gives_end rfl (by (repeat' (first | (with_reducible assumption) | (with_reducible exact Below.refl _ _) | (with_reducible refine below_wov ?_ ?_ _) | (with_reducible refine below_drewN ?_ _) | (with_reducible refine Below.drew ?_) | (with_reducible refine Below.alloc ?_ ?_ _) | (with_reducible refine Below.setCell ?_ ?_ _) | (with_reducible exact Nat.le_refl _) | omega | (simp only [World.size_alloc, World.size_setCell, World.size_drew, Wov_size, World.heap_drewN]; omega))))
        · go_enter Tryz.func195, Tryz.ntmps195
          go_wp2_with (fail)
          refine (N1.out _).mono ?_; rintro e w' ⟨rfl, rfl⟩
          go_wp2_with (fail)
          refine (N2.out _).mono ?_; rintro e w' ⟨rfl, rfl⟩
          go_wp2_with (fail)
          refine (M1.out _).mono ?_; rintro e w' ⟨rfl, rfl⟩
          go_wp2_with (fail)
          refine (S1.out _).mono ?_; rintro e w' ⟨rfl, rfl⟩
          go_wp2_with (fail)
          refine (MD.out _ _).mono ?_; rintro e w' ⟨rfl, rfl⟩
          go_wp2
          go_ret2
          exact gives_end rfl (by (repeat' (first | (with_reducible assumption) | (with_reducible exact Below.refl _ _) | (with_reducible refine below_wov ?_ ?_ _) | (with_reducible refine below_drewN ?_ _) | (with_reducible refine Below.drew ?_) | (with_reducible refine Below.alloc ?_ ?_ _) | (with_reducible refine Below.setCell ?_ ?_ _) | (with_reducible exact Nat.le_refl _) | omega | (simp only [World.size_alloc, World.size_setCell, World.size_drew, Wov_size, World.heap_drewN]; omega))))

theorem bit_and : ∀ left : Nat, left < 16 → ∀ t : Nat, t < 4 → (bits BinOp.and IntKind.i64 ((left : Int) / 2 ^ t) 1 == 0) = !bitB left t := by decide +kernel
theorem shl_sub {left t : Nat} (hl : left < 16) (h : 2 ^ t ≤ left) : wrap64 ((left : Int) - wrap64 (2 ^ t)) = ((left - 2 ^ t : Nat) : Int) := by
  have h2p : ((2 : Int) ^ t) = ((2 ^ t : Nat) : Int) := by push_cast; rfl
  rw [h2p]
  generalize 2 ^ t = P at h ⊢
  have i1 : wrap64 (P : Int) = P := wrap64_id (by omega) (by omega)
  rw [i1, wrap64_id (by omega) (by omega)]
  omega
theorem path_unfold {n : Nat} {f : Nat → Int} {F left i j : Nat} (h : left ≤ F) : pathI n f F left i j = (List.range n).foldl (stepW n f (fun l k => pathI n f (F - 1) l k j) left i j) (f (i * n + j)) := by
  cases F with
  | zero =>
    obtain rfl : left = 0 := by omega
    have : ∀ (L : List Nat) (b : Int), L.foldl (stepW n f (fun l k => pathI n f (0 - 1) l k j) 0 i j) b = b := by
      intro L
      induction L with
      | nil => intro b; rfl
      | cons k L ih =>
        intro b
        rw [List.foldl_cons, ih]
        unfold stepW
        rw [if_neg (fun hc => by rw [bit_zero] at hc; cases hc.1)]
    rw [this]; rfl
  | succ F => rfl
/-- The best so far. -/
def bestT (n : Nat) (f : Nat → Int) (F left i j t : Nat) : Int := (List.range t).foldl (stepW n f (fun l k => pathI n f (F - 1) l k j) left i j) (f (i * n + j))
theorem bestT_succ (n : Nat) (f : Nat → Int) (F left i j t : Nat) : bestT n f F left i j (t + 1) = stepW n f (fun l k => pathI n f (F - 1) l k j) left i j (bestT n f F left i j t) t := by
  unfold bestT; rw [List.range_succ, List.foldl_append]; rfl

set_option maxRecDepth 100000 in
set_option maxHeartbeats 4000000 in
theorem path_step (n : Nat) (p : Option Addr) (cap : Nat) (f : Nat → Int) (hn0 : 1 ≤ n) (hn : n ≤ 4) (hb : ∀ i j, i < n → j < n → bd 288230376151711744 (f (i * n + j))) (F : Nat)
    (ih : ∀ (left i j : Nat) (w : World), left < F → left < 16 → i < n → j < n → bitB left i = false → SlP w p (n * n) f → Calls Tryz.prog 162 #[.agg #[.int .i64 n, .slice p (n * n) cap], .int .i64 i, .int .i64 j, .int .i64 left] w (Gives w (.int .i64 (pathI n f (F - 1) left i j))))
    (left i j : Nat) (w : World) (hF : left ≤ F) (hl : left < 16) (hi : i < n) (hj : j < n) (hbi : bitB left i = false) (hS : SlP w p (n * n) f) :
    Calls Tryz.prog 162 #[.agg #[.int .i64 n, .slice p (n * n) cap], .int .i64 i, .int .i64 j, .int .i64 left] w (Gives w (.int .i64 (pathI n f F left i j))) := by
  have hq0 : n * n ≤ 4 * 4 := Nat.mul_le_mul hn hn
  have hij := place_lt hi hj
  obtain ⟨B, off, rfl, hB, hc⟩ := hS.pos (by omega)
  obtain ⟨N, hN⟩ : ∃ N, N = n * n := ⟨_, rfl⟩
  obtain ⟨qi, hqi⟩ : ∃ q : Nat, q = i * n := ⟨_, rfl⟩
  have hqm : (i : Int) * (n : Int) = (qi : Int) := by rw [hqi]; push_cast; rfl
  have w1 : IntKind.i64.wrap (qi : Int) = (qi : Int) := by rw [IntKind.wrap_i64]; omega
  have w2 : ∀ x : Nat, x < 5 → IntKind.i64.wrap ((qi : Int) + (x : Int)) = (qi : Int) + (x : Int) := fun x hx => by rw [IntKind.wrap_i64]; omega
  have w3 := w2 j (by omega)
  have w4 : ((qi : Int) + (j : Int)).toNat = qi + j := by omega
  have cij : w.cell? ⟨B, off + (qi + j), none⟩ = some (.int .i64 (f (i * n + j))) := by rw [hqi]; exact hc _ hij
  rw [← hN] at hij hc ⊢
  have HC := Lib.hid hc
  have HBI := Lib.hid hbi
  have HB := Lib.hid hb
  have IH := Lib.hid ih
  have HQI := Lib.hid hqi
  have HN := Lib.hid hN
  obtain ⟨fij, hfij⟩ : ∃ x, x = f (i * n + j) := ⟨_, rfl⟩
  have HF0 : Hid (fij = bestT n f F left i j 0) := hfij
  rw [← hfij] at cij
  clear hbi hb ih hqi hN hfij
  have u1 : (0 : Int) ≤ (qi : Int) + (j : Int) := by omega
  have u2 : (qi : Int) + (j : Int) < (N : Int) := by omega
  have W2 := Lib.hid w2
  clear hc w2 hS
  go_enter Tryz.func162, Tryz.ntmps162
  go_wp2
  refine wp_world (fun W => Below w.heap.size w W ∧ w.heap.size < W.heap.size ∧ W.cell? ⟨w.heap.size, 0, none⟩ = some (.int .i64 n) ∧ W.cell? ⟨w.heap.size, 1, none⟩ = some (.slice (some ⟨B, off, none⟩) N cap)) ⟨by (repeat' (first | (with_reducible assumption) | (with_reducible exact Below.refl _ _) | (with_reducible refine below_wov ?_ ?_ _) | (with_reducible refine below_drewN ?_ _) | (with_reducible refine Below.drew ?_) | (with_reducible refine Below.alloc ?_ ?_ _) | (with_reducible refine Below.setCell ?_ ?_ _) | (with_reducible exact Nat.le_refl _) | omega | (simp only [World.size_alloc, World.size_setCell, World.size_drew, Wov_size, World.heap_drewN]; omega))), by simp, by simp [go_sem], by simp [go_sem]⟩ ?_
  rintro W ⟨hBw, hzw, c0, c1⟩
  go_loopw [9, 10, 11, 12] (fun b i' _ _ wr => ∃ t : Nat, t ≤ n ∧ i' = .int .i64 t ∧ b = .int .i64 (bestT n f F left i j t) ∧ Below W.heap.size W wr)
    (fun _ i' _ _ _ => n - (intOf i').toNat)
  case atStart => exact ⟨0, Nat.zero_le _, rfl, by rw [HF0.out], Below.refl _ _⟩
  case round =>
    obtain ⟨t, ht, rfl, rfl, hbl⟩ := hrel
    have d0 := (hbl.cell (p := ⟨w.heap.size, 0, none⟩) hzw).trans c0
    have d1 := (hbl.cell (p := ⟨w.heap.size, 1, none⟩) hzw).trans c1
    have hsz := hbl.size
    have zr : w.heap.size < wr.heap.size := by omega
    by_cases hlt : t < n
    · obtain ⟨bt, hbt⟩ : ∃ x, x = bestT n f F left i j t := ⟨_, rfl⟩
      rw [← hbt]
      have HBT := Lib.hid hbt
      clear hbt c0 c1
      have hbit := bit_and left hl t (by omega)
      cases hbl' : bitB left t
      · rw [hbl'] at hbit
        have hst : Hid (bestT n f F left i j (t + 1) = bt) := by
          show _ = _
          rw [bestT_succ, ← HBT.out]
          unfold stepW
          rw [if_neg (fun h => by rw [hbl'] at h; cases h.1)]
        simp only [Bool.not_false] at hbit
        go_wp2
        all_goals
          go_roundw
          case rel => exact ⟨t + 1, hlt, by go_num, by rw [hst.out], hbl⟩
          case measure => simp [intOf]; omega
      · rw [hbl'] at hbit
        simp only [Bool.not_true] at hbit
        have hti : t ≠ i := fun e => by subst e; rw [HBI.out] at hbl'; cases hbl'
        have eti : ((t : Int) == (i : Int)) = false := by rw [beq_eq_false_iff_ne]; omega
        by_cases htj : t = j
        · have etj : ((t : Int) == (j : Int)) = true := by rw [beq_iff_eq]; omega
          have hst : Hid (bestT n f F left i j (t + 1) = bt) := by
            show _ = _
            rw [bestT_succ, ← HBT.out]
            unfold stepW
            rw [if_neg (fun h => h.2.2 htj)]
          have HTJ := Lib.hid htj
          clear htj
          go_wp2
          all_goals
            go_roundw
            case rel => exact ⟨t + 1, hlt, by go_num, by rw [hst.out], hbl⟩
            case measure => simp [intOf]; omega
        · have etj : ((t : Int) == (j : Int)) = false := by rw [beq_eq_false_iff_ne]; omega
          have hbs := bit_sub left hl t (by omega) hbl'
          have HTI := Lib.hid hti
          have HTJ := Lib.hid htj
          have HBL := Lib.hid hbl'
          have zB : B < w.heap.size := hB
          have ct : wr.cell? ⟨B, off + (qi + t), none⟩ = some (.int .i64 (f (i * n + t))) := (hbl.cell (p := ⟨B, off + (qi + t), none⟩) (Nat.lt_of_lt_of_le hB hBw.size)).trans ((hBw.cell (p := ⟨B, off + (qi + t), none⟩) hB).trans (by rw [HQI.out]; exact HC.out _ (by rw [HN.out]; exact place_lt hi hlt)))
          obtain ⟨ft, hft⟩ : ∃ x, x = f (i * n + t) := ⟨_, rfl⟩
          rw [← hft] at ct
          have HFT := Lib.hid hft
          have w5 := W2.out t (by omega)
          have w6 : ((qi : Int) + (t : Int)).toNat = qi + t := by omega
          have u3 : (0 : Int) ≤ (qi : Int) + (t : Int) := by omega
          have u4 : (qi : Int) + (t : Int) < (N : Int) := by
            have h1 : qi + t < N := by rw [HQI.out, HN.out]; exact place_lt hi hlt
            omega
          have zBr : B < wr.heap.size := by have := hBw.size; omega
          have HSH := Lib.hid (shl_sub hl hbs.1)
          have hlow : left - 2 ^ t < F := Nat.lt_of_lt_of_le (Nat.sub_lt (Nat.lt_of_lt_of_le (Nat.pow_pos (by omega)) hbs.1) (Nat.pow_pos (by omega))) hF
          have hlow2 : left - 2 ^ t < 16 := Nat.lt_of_le_of_lt (Nat.sub_le _ _) hl
          have hbt2 : bitB (left - 2 ^ t) t = false := by rw [hbs.2 t (by omega)]; simp
          have hgood := (path_good hn HB.out (F - 1) (left - 2 ^ t) t j hlow2 hlt hj hbt2).bd hn HB.out hlt hj
          obtain ⟨x1, x2, x3⟩ := addR_exact (HB.out i t hi hlt) hgood (by omega) (by omega) (by omega)
          have okp := bd_okB hgood (by omega)
          have oki := bd_okB (HB.out i t hi hlt) (by omega)
          have fp : fits64 (pathI n f (F - 1) (left - 2 ^ t) t j) := by
            rcases hgood with h | h
            · rw [h]; unfold noneB fits64; omega
            · unfold bnum at h; unfold fits64; omega
          have fi : fits64 (f (i * n + t)) := by
            rcases HB.out i t hi hlt with h | h
            · rw [h]; unfold noneB fits64; omega
            · unfold bnum at h; unfold fits64; omega
          have PA : Hid (∀ p, Calls Tryz.prog 162 #[.agg #[.int .i64 n, .slice (some ⟨B, off, none⟩) N cap], .int .i64 t, .int .i64 j, .int .i64 ((left - 2 ^ t : Nat) : Int)] (Wov wr p) fun e w'' => e = .returned (.int .i64 (pathI n f (F - 1) (left - 2 ^ t) t j)) ∧ ∃ q, w'' = Wov wr q) := fun p => by
            have := IH.out (left - 2 ^ t) t j (Wov wr p) hlow hlow2 hlt hj hbt2 (.inr ⟨B, off, rfl, by rw [Wov_size]; omega, fun x hx => by
              rw [Wov_cell_past _ _ _ _ zBr]
              rw [← HN.out] at hx
              exact (hbl.cell (p := ⟨B, off + x, none⟩) (Nat.lt_of_lt_of_le hB hBw.size)).trans ((hBw.cell (p := ⟨B, off + x, none⟩) hB).trans (HC.out x hx))⟩)
            rw [← HN.out] at this
            exact this.mono fun e w'' ⟨he, q, hq⟩ => ⟨he, ⟨p.bl ++ q.bl, q.dr⟩, by rw [hq, Wov_Wov]⟩
          have SU : Hid (Pure Tryz.prog 195 #[.int .i64 (f (i * n + t)), .int .i64 (pathI n f (F - 1) (left - 2 ^ t) t j)] (.tuple #[.int .i64 (addR (f (i * n + t)) (pathI n f (F - 1) (left - 2 ^ t) t j)).1, .bool true])) := fun w' => by
            have := refSum_any _ _ w' fi fp oki okp
            rw [x2] at this
            exact this
          have hst : Hid (∀ s, s = (addR (f (i * n + t)) (pathI n f (F - 1) (left - 2 ^ t) t j)).1 → bestT n f F left i j (t + 1) = if s < bt then s else bt) := fun s hs => by
            rw [bestT_succ, ← HBT.out]
            unfold stepW
            rw [if_pos ⟨hbl', hti, htj⟩]
            show (if (addR (f (i * n + t)) (pathI n f (F - 1) (left - 2 ^ t) t j)).2 = 0 ∧ _ then _ else _) = _
            by_cases h5 : (addR (f (i * n + t)) (pathI n f (F - 1) (left - 2 ^ t) t j)).1 < bt
            · rw [if_pos ⟨x2, h5⟩, if_pos (by rw [hs]; exact h5), hs]
            · rw [if_neg (fun h => h5 h.2), if_neg (by rw [hs]; exact h5)]
          obtain ⟨pv, hpv⟩ : ∃ x, x = pathI n f (F - 1) (left - 2 ^ t) t j := ⟨_, rfl⟩
          rw [← hpv] at PA SU hst
          rw [← hft] at SU hst
          obtain ⟨s, hs⟩ : ∃ s, s = (addR ft pv).1 := ⟨_, rfl⟩
          have hst2 := Lib.hid (hst.out s hs)
          rw [← hs] at SU
          clear hti htj hbl' hft hs hst hpv fp fi okp oki x1 x2 x3 hgood hbt2 hlow hlow2 hbs
          by_cases hsb : s < bt
          · have e1 : decide (s < bt) = true := by simp [hsb]
            have hr : Hid (bestT n f F left i j (t + 1) = s) := by show _ = _; rw [hst2.out, if_pos hsb]
            clear hst2
            go_wp2
            refine wp_region_wov (by kernel_rfl) (by kernel_rfl) ?_
            repeat (go_big_quiet_step (first | (go_at_call 162; rw [HSH.out]; exact PA.out _) | (go_at_call 195; exact SU.out.at _ _)))
            refine wpQuiet_nil ?_
            rintro _ ⟨pq, rfl⟩
            go_wp2
            go_roundw
            case rel => exact ⟨t + 1, hlt, by go_num, by rw [hr.out], by (repeat' (first | (with_reducible assumption) | (with_reducible exact Below.refl _ _) | (with_reducible refine below_wov ?_ ?_ _) | (with_reducible refine below_drewN ?_ _) | (with_reducible refine Below.drew ?_) | (with_reducible refine Below.alloc ?_ ?_ _) | (with_reducible refine Below.setCell ?_ ?_ _) | (with_reducible exact Nat.le_refl _) | omega | (simp only [World.size_alloc, World.size_setCell, World.size_drew, Wov_size, World.heap_drewN]; omega)))⟩
            case measure => simp [intOf]; omega
          · have e1 : decide (s < bt) = false := by simp; omega
            have hr : Hid (bestT n f F left i j (t + 1) = bt) := by show _ = _; rw [hst2.out, if_neg hsb]
            clear hst2
            go_wp2
            refine wp_region_wov (by kernel_rfl) (by kernel_rfl) ?_
            repeat (go_big_quiet_step (first | (go_at_call 162; rw [HSH.out]; exact PA.out _) | (go_at_call 195; exact SU.out.at _ _)))
            refine wpQuiet_nil ?_
            rintro _ ⟨pq, rfl⟩
            go_wp2
            go_roundw
            case rel => exact ⟨t + 1, hlt, by go_num, by rw [hr.out], by (repeat' (first | (with_reducible assumption) | (with_reducible exact Below.refl _ _) | (with_reducible refine below_wov ?_ ?_ _) | (with_reducible refine below_drewN ?_ _) | (with_reducible refine Below.drew ?_) | (with_reducible refine Below.alloc ?_ ?_ _) | (with_reducible refine Below.setCell ?_ ?_ _) | (with_reducible exact Nat.le_refl _) | omega | (simp only [World.size_alloc, World.size_setCell, World.size_drew, Wov_size, World.heap_drewN]; omega)))⟩
            case measure => simp [intOf]; omega
    · have e : t = n := by omega
      subst e
      have fin : Hid (bestT t f F left i j t = pathI t f F left i j) := (path_unfold (by omega)).symm
      go_wp2
      go_ret
      exact gives_int fin.out (hBw.trans (hbl.mono hBw.size))
theorem path_any (n : Nat) (p : Option Addr) (cap : Nat) (f : Nat → Int) (hn0 : 1 ≤ n) (hn : n ≤ 4) (hb : ∀ i j, i < n → j < n → bd 288230376151711744 (f (i * n + j))) : ∀ (F left i j : Nat) (w : World), left ≤ F → left < 16 → i < n → j < n → bitB left i = false → SlP w p (n * n) f →
    Calls Tryz.prog 162 #[.agg #[.int .i64 n, .slice p (n * n) cap], .int .i64 i, .int .i64 j, .int .i64 left] w (Gives w (.int .i64 (pathI n f F left i j)))
  | 0, left, i, j, w, h1, h2, h3, h4, h5, h6 => path_step n p cap f hn0 hn hb 0 (fun _ _ _ _ h => by omega) left i j w h1 h2 h3 h4 h5 h6
  | F + 1, left, i, j, w, h1, h2, h3, h4, h5, h6 => path_step n p cap f hn0 hn hb (F + 1) (fun l i' j' w' h => path_any n p cap f hn0 hn hb F l i' j' w' (by omega)) left i j w h1 h2 h3 h4 h5 h6
#print axioms path_any
end Go.Proofs.YtpmpapenjcemjaaGreatDoor

namespace Go.Proofs.YtpmpapenjcemjaaGreatDoor
set_option linter.unusedSimpArgs false
set_option linter.unusedVariables false
open Go Go.RowKit Go.Shelf
attribute [local go_sem] Nat.add_assoc Nat.add_lt_add_iff_left lit_lt_add

/-- What the document's closed matrix holds. -/
def closedF (n : Nat) (f : Nat → Int) : Nat → Int := fun x => if x / n = x % n then 1 else topW n f (x / n) (x % n)
theorem closedF_at {n i j : Nat} {f : Nat → Int} (hj : j < n) : closedF n f (i * n + j) = if i = j then 1 else topW n f i j := by
  have hn : 0 < n := by omega
  unfold closedF
  rw [Nat.mul_comm, Nat.mul_add_div hn, Nat.div_eq_of_lt hj, Nat.mul_add_mod, Nat.mod_eq_of_lt hj, Nat.add_zero]
/-- A matrix and whether it is one. -/
def matB (w : World) (n : Int) (N : Nat) (f : Nat → Int) (b : Bool) (e : Ending) (W : World) : Prop :=
  (∃ p cap, e = .returned (.tuple #[.agg #[.int .i64 n, .slice p N cap], .bool b]) ∧ OwnP w W p N f) ∧ ∃ q, W = Wov w q
theorem closed_yes {n : Nat} {f : Nat → Int} (hok : okD n (n * n) f = true) (h : ∀ i, i < n → 1 ≤ topW n f i i) : ∃ c, closeM n (n * n) f = ⟨n, n * n, c, 0⟩ ∧ ∀ x, x < n * n → closedF n f x = c x := by
  obtain ⟨hn0, hn, hb⟩ := okD_bd hok
  cases hc : closeI n f with
  | none =>
    obtain ⟨i, hi, hv⟩ := topW_none hn0 hn hb hc
    have := h i hi; omega
  | some c =>
    obtain ⟨_, h2⟩ := topW_some hn0 hn hb hc
    refine ⟨c, ?_, fun x hx => ?_⟩
    · unfold closeM closeR
      rw [hok, if_pos rfl, show ((n : Int)).toNat = n from rfl, hc]; rfl
    · obtain ⟨i, j, hi, hj, rfl⟩ := at_place hx
      rw [h2 i j hi hj, closedF_at hj]
theorem closed_no {n : Nat} {f : Nat → Int} {i : Nat} (hok : okD n (n * n) f = true) (hi : i < n) (h : topW n f i i < 1) : closeM n (n * n) f = errM 6 := by
  obtain ⟨hn0, hn, hb⟩ := okD_bd hok
  cases hc : closeI n f with
  | none =>
    unfold closeM closeR
    rw [hok, if_pos rfl, show ((n : Int)).toNat = n from rfl, hc]; rfl
  | some c =>
    have := (topW_some hn0 hn hb hc).1 i hi
    omega

theorem bit_left : ∀ n : Nat, n ≤ 4 → ∀ t : Nat, t < n → bits BinOp.andNot IntKind.i64 (wrap64 (wrap64 (2 ^ n) - 1)) (wrap64 (2 ^ t)) = ((2 ^ n - 1 - 2 ^ t : Nat) : Int) := by decide +kernel
theorem grown_wov (W : World) (q : Gr) : W.grownBy (Wov W q) none := ⟨rfl, rfl, rfl, by simp [Wov], fun j hj _ => Wov_heap W q j hj⟩
theorem TopI.wov {w W : World} {n H D base : Nat} {vs : List Value} (h : TopI w n H D base vs W) (q : Gr) : TopI w n H D base vs (Wov W q) :=
  topI_own w n H D base (fun l : List Value => l) w.heap.size (Nat.le_refl _) vs W (Wov W q) none h (grown_wov W q) (fun r e => by cases e)

set_option maxRecDepth 100000 in
set_option maxHeartbeats 4000000 in
theorem refClosed_any (n : Nat) (p : Option Addr) (cap : Nat) (f : Nat → Int) (w : World) (hok : okD n (n * n) f = true) (hS : SlP w p (n * n) f) :
    Calls Tryz.prog 118 #[.agg #[.int .i64 n, .slice p (n * n) cap]] w (matB w (closeM n (n * n) f).n (closeM n (n * n) f).N (closeM n (n * n) f).f (decide ((closeM n (n * n) f).e = 0))) := by
  obtain ⟨hn0, hn, hbd⟩ := okD_bd hok
  have hq0 : n * n ≤ 4 * 4 := Nat.mul_le_mul hn hn
  have hq1 : 1 * 1 ≤ n * n := Nat.mul_le_mul hn0 hn0
  obtain ⟨i0, hi, hz0, hz1, hz2⟩ := info_parts infoB
  have HI := Lib.hid hi
  have HZ := Lib.hid hz0
  have H1 := Lib.hid hz1
  have H2 := Lib.hid hz2
  clear hi hz0 hz1 hz2
  have PT : Hid (∀ i j W, i < n → j < n → Below w.heap.size w W → Calls Tryz.prog 162 #[.agg #[.int .i64 n, .slice p (n * n) cap], .int .i64 i, .int .i64 j, .int .i64 ((2 ^ n - 1 - 2 ^ i : Nat) : Int)] W (Gives W (.int .i64 (topW n f i j)))) := fun i j W hi hj hb => by
    have hlt := full_lt n hn i
    exact path_any n p cap f hn0 hn hbd 16 (2 ^ n - 1 - 2 ^ i) i j W (by omega) hlt hi hj (by rw [bit_full n hn hn0 i hi i hi]; simp) (hS.below hb)
  have YES : Hid ((∀ i, i < n → 1 ≤ topW n f i i) → ∃ c, closeM n (n * n) f = ⟨n, n * n, c, 0⟩ ∧ ∀ x, x < n * n → closedF n f x = c x) := fun h => closed_yes hok h
  have NO : Hid (∀ i, i < n → topW n f i i < 1 → closeM n (n * n) f = errM 6) := fun i hi h => closed_no hok hi h
  clear hok hS hbd
  obtain ⟨r, hr⟩ : ∃ r, r = closeM n (n * n) f := ⟨_, rfl⟩
  rw [← hr] at YES NO ⊢
  clear hr
  go_enter Tryz.func118, Tryz.ntmps118
  go_wp2
  obtain ⟨w1, hw1⟩ : ∃ w1, w1 = w.alloc (.cells #[.int .i64 n, .slice p (n * n) cap] 96) := ⟨_, rfl⟩
  have hs1 : w1.heap.size = w.heap.size + 1 := by rw [hw1]; simp
  have hb1 : Below w.heap.size w w1 := by rw [hw1]; exact (Below.refl _ _).alloc (Nat.le_refl _) _
  have e0 : w1.cell? ⟨w.heap.size, 0, none⟩ = some (.int .i64 n) := by rw [hw1]; simp [go_sem]
  have e1 : w1.cell? ⟨w.heap.size, 1, none⟩ = some (.slice p (n * n) cap) := by rw [hw1]; simp [go_sem]
  refine wp_world (fun W => TopI w1 n (w.heap.size + 1) (w.heap.size + 2) (w.heap.size + 3) [] W) ⟨by rw [hs1, hw1]; (repeat' (first | (with_reducible assumption) | (with_reducible exact Below.refl _ _) | (with_reducible refine below_wov ?_ ?_ _) | (with_reducible refine below_drewN ?_ _) | (with_reducible refine Below.drew ?_) | (with_reducible refine Below.alloc ?_ ?_ _) | (with_reducible refine Below.setCell ?_ ?_ _) | (with_reducible exact Nat.le_refl _) | omega | (simp only [World.size_alloc, World.size_setCell, World.size_drew, Wov_size, World.heap_drewN]; omega))), by simp, by simp [go_sem], by simp [go_sem], by simp [go_sem], by simp [go_sem], by simp [go_sem], by simp [go_sem], .slice none 0 0, by simp [go_sem], World.ownsRow_nil _ _ _ _⟩ ?_
  intro w3 hT
  have HB1 := Lib.hid hb1
  have zw1 : w.heap.size < w1.heap.size := by omega
  clear hw1 hb1
  go_loopw [5, 6, 7, 8] (fun i _ _ _ wr => ∃ t : Nat, t ≤ n ∧ i = .int .i64 t ∧ Hid (∀ i, i < t → 1 ≤ topW n f i i) ∧ Hid (TopI w1 n (w.heap.size + 1) (w.heap.size + 2) (w.heap.size + 3) (cellsI (t * n) (closedF n f)) wr))
    (fun i _ _ _ _ => n - (intOf i).toNat)
  case atStart => exact ⟨0, Nat.zero_le _, rfl, (fun i hi => by omega), by rw [Nat.zero_mul]; exact hT⟩
  case round =>
    obtain ⟨t, ht, rfl, hD, hI⟩ := hrel
    obtain ⟨wo, rfl⟩ : ∃ wo : World, wo = wr := ⟨_, rfl⟩
    clear hT
    have c0 := ((hI.out.below).cell (p := ⟨w.heap.size, 0, none⟩) zw1).trans e0
    have c1 := ((hI.out.below).cell (p := ⟨w.heap.size, 1, none⟩) zw1).trans e1
    have hsz := hI.out.size
    have zwo : w.heap.size < wo.heap.size := by omega
    by_cases hlt : t < n
    · go_wp2
      go_loopw [6, 7, 8] (fun j _ _ wr => ∃ s : Nat, s ≤ n ∧ j = .int .i64 s ∧ Hid (t < s → 1 ≤ topW n f t t) ∧ Hid (TopI w1 n (w.heap.size + 1) (w.heap.size + 2) (w.heap.size + 3) (cellsI (t * n + s) (closedF n f)) wr))
        (fun j _ _ _ => n - (intOf j).toNat)
      case atStart => exact ⟨0, Nat.zero_le _, rfl, (fun h => by omega), hI⟩
      case round =>
        clear hI c0 c1 hsz zwo
        obtain ⟨s, hs, rfl, hDs, hI⟩ := hrel
        have c0 := ((hI.out.below).cell (p := ⟨w.heap.size, 0, none⟩) zw1).trans e0
        have c1 := ((hI.out.below).cell (p := ⟨w.heap.size, 1, none⟩) zw1).trans e1
        have hsz := hI.out.size
        have zwr : w.heap.size < wr.heap.size := by omega
        by_cases hls : s < n
        · obtain ⟨v, hv, hrow⟩ := hI.out.row
          have hfd := hI.out.fd
          have hlt2 := place_lt hlt hls
          have zD : w.heap.size + 2 < wr.heap.size := by omega
          have zH : w.heap.size + 1 < wr.heap.size := by omega
          rw [cellsI_len] at hrow
          have HR : Hid (∀ q, (Wov wr q).ownsRow (w.heap.size + 3) 47 1 v (t * n + s) (cellsI (t * n + s) (closedF n f))) := fun q => by
            obtain ⟨v2, hv2, hr2⟩ := (hI.out.wov q).row
            rw [Wov_cell_past _ _ _ _ zD, hv] at hv2
            cases hv2
            rwa [cellsI_len] at hr2
          have step : Hid (∀ (q : Gr) (u : Int), u = closedF n f (t * n + s) → ∀ v' w2, w2.ownsRow (w.heap.size + 3) 47 1 v' (t * n + s + 1) (cellsI (t * n + s) (closedF n f) ++ [.int .i64 u]) → ((Wov wr q).alloc (.cells #[.int .i64 u] 47)).grownBy w2 v.ownBlock →
              (w2.cell? ⟨w.heap.size + 2, 1, none⟩ = some v ∧ w2.frozen? ⟨w.heap.size + 2, 1, none⟩ = false) ∧
              TopI w1 n (w.heap.size + 1) (w.heap.size + 2) (w.heap.size + 3) (cellsI (t * n + (s + 1)) (closedF n f)) (w2.setCell ⟨w.heap.size + 2, 1, none⟩ v')) := by
            intro q u hu v' w2 hown hgrow
            have hIq := hI.out.wov q
            have hvq : (Wov wr q).cell? ⟨w.heap.size + 2, 1, none⟩ = some v := by rw [Wov_cell_past _ _ _ _ zD]; exact hv
            have hb := app_below (HR.out q) hIq.size hgrow
            have hst := hIq.step (by omega) (by omega) (by omega) hvq (by rw [cellsI_len]; exact HR.out q) (by rw [cellsI_len]; exact hown) hgrow
            refine ⟨⟨(hb.cell (p := ⟨w.heap.size + 2, 1, none⟩) (by simp)).trans hvq, (hb.frozen (p := ⟨w.heap.size + 2, 1, none⟩) (by simp)).trans (hIq.fd)⟩, ?_⟩
            rw [← Nat.add_assoc, cellsI_succ, ← hu]; exact hst
          have PC := Lib.hid (fun W h => PT.out t s W hlt hls h)
          have BL := Lib.hid (bit_left n hn t hlt)
          have hbw : Below w.heap.size w wr := HB1.out.trans (hI.out.below.mono (by omega))
          have r0 := hI.out.res0
          have r1 := hI.out.res1
          have g0 := hI.out.fr0
          have g1 := hI.out.fr1
          have FV : Hid (closedF n f (t * n + s) = if t = s then 1 else topW n f t s) := closedF_at hls
          obtain ⟨b, hb⟩ : ∃ b, b = topW n f t s := ⟨_, rfl⟩
          rw [← hb] at PC FV
          have HBV := Lib.hid hb
          clear hb hrow PT
          by_cases hts : t = s
          · have ets : ((t : Int) == (s : Int)) = true := by rw [beq_iff_eq]; omega
            by_cases hb1 : b < 1
            · have RES : Hid (r = errM 6) := NO.out t hlt (by rw [hts]; rw [hts] at HBV; rw [← HBV.out]; exact hb1)
              have HTS := Lib.hid hts
              clear hts step HR YES NO
              go_wp2
              go_quiet (fail)
              go_wp2_with (fail)
              rw [BL.out]
              refine (PC.out _ (by (repeat' (first | (with_reducible assumption) | (with_reducible exact Below.refl _ _) | (with_reducible refine below_wov ?_ ?_ _) | (with_reducible refine below_drewN ?_ _) | (with_reducible refine Below.drew ?_) | (with_reducible refine Below.alloc ?_ ?_ _) | (with_reducible refine Below.setCell ?_ ?_ _) | (with_reducible exact Nat.le_refl _) | omega | (simp only [World.size_alloc, World.size_setCell, World.size_drew, Wov_size, World.heap_drewN]; omega))))).mono ?_; rintro e w' ⟨rfl, qq, rfl⟩
              go_wp2
              refine bodyPost_ret (by simp [results, Tryz.results118, go_sem, r0, r1]; try rfl) rfl ?_
              rw [RES.out]
              refine ⟨⟨none, 0, rfl, .inl rfl⟩, Wov_of_below ?_⟩
              exact ((below_wov hbw (by omega) qq).setCell (p := ⟨w.heap.size + 1, 0, none⟩) (by simp) _).setCell (p := ⟨w.heap.size + 1, 1, none⟩) (by simp) _
            · have HTV : Hid ((1 : Int) = closedF n f (t * n + s)) := by show _ = _; rw [FV.out, if_pos hts]
              have HD2 : Hid (t < s + 1 → 1 ≤ topW n f t t) := fun _ => by have := HBV.out; rw [← hts] at this; rw [← this]; omega
              have HTS := Lib.hid hts
              clear hts
              go_wp2
              go_quiet (fail)
              go_wp2_with (fail)
              rw [BL.out]
              refine (PC.out _ (by (repeat' (first | (with_reducible assumption) | (with_reducible exact Below.refl _ _) | (with_reducible refine below_wov ?_ ?_ _) | (with_reducible refine below_drewN ?_ _) | (with_reducible refine Below.drew ?_) | (with_reducible refine Below.alloc ?_ ?_ _) | (with_reducible refine Below.setCell ?_ ?_ _) | (with_reducible exact Nat.le_refl _) | omega | (simp only [World.size_alloc, World.size_setCell, World.size_drew, Wov_size, World.heap_drewN]; omega))))).mono ?_; rintro e w' ⟨rfl, qq, rfl⟩
              go_wp2_with (at_builtin; refine wpList_append_own _ rfl _ _ 94 rfl (w.heap.size + 3) 47 i0 (.int .i64 0) 1 8 Tryz.underlying94 HI.out HZ.out H1.out H2.out rfl (by decide) _ _ _ rfl ((HR.out _).alloc _) ⟨_, 0, none⟩ 1 1 [.int .i64 1] rfl rfl (by rw [← Wov_size]; exact cell_one_new _ _ _) (by simp [Value.oneCell']) (by unfold maxLen; omega) (by omega) (by simp only [World.size_alloc, Wov_size]; omega) ?_; intro v' w1' hown' hgrow _; obtain ⟨g', cap', rfl⟩ := ownsRow_succ hown'; obtain ⟨⟨k1, k2⟩, k3⟩ := step.out _ 1 HTV.out _ w1' hown' hgrow; clear hown' hgrow)
              go_roundw
              case rel => exact ⟨s + 1, hls, by go_num, HD2, k3⟩
              case measure => simp [intOf]; omega
          · have ets : ((t : Int) == (s : Int)) = false := by rw [beq_eq_false_iff_ne]; omega
            have HTV : Hid (b = closedF n f (t * n + s)) := by show _ = _; rw [FV.out, if_neg hts]
            have HD2 : Hid (t < s + 1 → 1 ≤ topW n f t t) := fun h => hDs.out (by omega)
            have HTS := Lib.hid hts
            clear hts
            go_wp2
            go_quiet (fail)
            go_wp2_with (fail)
            rw [BL.out]
            refine (PC.out _ (by (repeat' (first | (with_reducible assumption) | (with_reducible exact Below.refl _ _) | (with_reducible refine below_wov ?_ ?_ _) | (with_reducible refine below_drewN ?_ _) | (with_reducible refine Below.drew ?_) | (with_reducible refine Below.alloc ?_ ?_ _) | (with_reducible refine Below.setCell ?_ ?_ _) | (with_reducible exact Nat.le_refl _) | omega | (simp only [World.size_alloc, World.size_setCell, World.size_drew, Wov_size, World.heap_drewN]; omega))))).mono ?_; rintro e w' ⟨rfl, qq, rfl⟩
            go_wp2_with (at_builtin; refine wpList_append_own _ rfl _ _ 94 rfl (w.heap.size + 3) 47 i0 (.int .i64 0) 1 8 Tryz.underlying94 HI.out HZ.out H1.out H2.out rfl (by decide) _ _ _ rfl ((HR.out _).alloc _) ⟨_, 0, none⟩ 1 1 [.int .i64 b] rfl rfl (by rw [← Wov_size]; exact cell_one_new _ _ _) (by simp [Value.oneCell']) (by unfold maxLen; omega) (by omega) (by simp only [World.size_alloc, Wov_size]; omega) ?_; intro v' w1' hown' hgrow _; obtain ⟨g', cap', rfl⟩ := ownsRow_succ hown'; obtain ⟨⟨k1, k2⟩, k3⟩ := step.out _ b HTV.out _ w1' hown' hgrow; clear hown' hgrow)
            go_roundw
            case rel => exact ⟨s + 1, hls, by go_num, HD2, k3⟩
            case measure => simp [intOf]; omega
        · have e : s = n := by omega
          subst e
          have hI2 : Hid (TopI w1 s (w.heap.size + 1) (w.heap.size + 2) (w.heap.size + 3) (cellsI ((t + 1) * s) (closedF s f)) wr) := by
            have := hI.out
            show TopI _ _ _ _ _ _ _
            rw [show (t + 1) * s = t * s + s by rw [Nat.add_mul, Nat.one_mul]]
            exact this
          have hD2 : Hid (∀ i, i < t + 1 → 1 ≤ topW s f i i) := fun i hi => by
            by_cases e : i = t
            · subst e; exact hDs.out hlt
            · exact hD.out i (by omega)
          clear hI hD hDs
          go_wp2
          go_roundw
          case rel => exact ⟨t + 1, hlt, by go_num, hD2, hI2⟩
          case measure => simp [intOf]; omega
    · have e : t = n := by omega
      subst e
      obtain ⟨c, hcr, hcv⟩ := YES.out hD.out
      have HCR := Lib.hid hcr
      obtain ⟨v, hv, hrow⟩ := hI.out.row
      rw [cellsI_len] at hrow
      obtain ⟨B, cap2, rfl, hB1, hB2, hH⟩ := holds_of_row (by omega) hrow
      have d0 := hI.out.d0
      have r0 := hI.out.res0
      have r1 := hI.out.res1
      have s0 := hI.out.fr0
      have s1 := hI.out.fr1
      have hbl : Below w.heap.size w wo := HB1.out.trans (hI.out.below.mono (by omega))
      have HH : Hid (HoldsI wo B (t * t) c) := fun x hx => by rw [← hcv x hx]; exact hH x hx
      have HCV := Lib.hid hcv
      clear hI hrow hH PT YES NO hcr hcv hD
      go_wp2
      refine bodyPost_ret (by simp [results, Tryz.results118, go_sem, r0, r1]; try rfl) rfl ?_
      rw [HCR.out]
      refine ⟨⟨some ⟨B, 0, none⟩, cap2, rfl, .inr ⟨B, rfl, by omega, by simp [World.setCell]; omega, ?_⟩⟩, Wov_of_below ((hbl.setCell (p := ⟨w.heap.size + 1, 0, none⟩) (by simp) _).setCell (p := ⟨w.heap.size + 1, 1, none⟩) (by simp) _)⟩
      exact HH.out.of_block (((Chg.set wo (w.heap.size + 1) 0 _).trans (Chg.set _ (w.heap.size + 1) 1 _)).block B hB2 (by omega))

end Go.Proofs.YtpmpapenjcemjaaGreatDoor

namespace Go.Proofs.YtpmpapenjcemjaaGreatDoor
set_option linter.unusedSimpArgs false
set_option linter.unusedVariables false
open Go Go.RowKit Go.Shelf
attribute [local go_sem] Nat.add_assoc Nat.add_lt_add_iff_left lit_lt_add

end Go.Proofs.YtpmpapenjcemjaaGreatDoor

namespace Go.Proofs.YtpmpapenjcemjaaGreatDoor
set_option linter.unusedSimpArgs false
set_option linter.unusedVariables false
open Go Go.RowKit Go.Shelf Go.Deep
attribute [local go_sem] Nat.add_assoc Nat.add_lt_add_iff_left lit_lt_add

theorem append_none (W : World) (p : Option Addr) (c : Nat) : (Builtin.append_ #[94, 94] 94 #[.slice none 0 0, .slice p 0 c]).run Tryz.prog W = .ok (.slice none 0 0) W := by
  obtain ⟨i0, hi, _, _, _⟩ := info_parts infoB
  have hs : Src Tryz.prog i0.size 94 (.slice p 0 c) 0 [] W := by
    cases p with
    | none => exact Src.ofNil W Tryz.underlying94 c
    | some a => exact Src.ofSlice W Tryz.underlying94 a 0 c [] (by simp) (fun j u h => by cases h) (fun u h => by cases h)
  exact run_append_nothing (P := Tryz.prog) W 94 94 94 47 i0 Tryz.underlying94 hi none 0 0 (Nat.le_refl _) _ hs
theorem step_append_none {ops : Array Oper} {o : Oper} {a : Act} {w : World} {K : Act → World → Prop} {Q : Exit → Act → World → Prop} {E : Prop} (hgd : o.guard = none) (s x : Operand)
    (ho : o.op = .call { callee := .builtin .append, args := #[s, x], argTypes := #[94, 94] }) (hty : o.type = 94) (hs : a.eval s = .slice none 0 0) (p : Option Addr) (c : Nat) (hx : a.eval x = .slice p 0 c)
    (h : K (a.put o.dst (.slice none 0 0)) w) : if Region.wanted o (yielded ops a.tmps) = true then Oper.wp Tryz.prog o a w K Q else E := by
  have hw : Region.wanted o (yielded ops a.tmps) = true := by simp [Region.wanted, hgd]
  rw [if_pos hw]
  have hr := append_none w p c
  unfold Oper.wp execOp
  simp only [ho, hty, resolve, invoke, builtin, Sem.run_bind, Sem.run_pure, Result.andThen_ok, List.map_toArray, List.map_cons, List.map_nil, hs, hx, hr]
  exact h

/-- Behind a copy: bounds of the call's own. -/
def copyPost (w : World) (n : Int) (N : Nat) (f : Nat → Int) (e : Ending) (W : World) : Prop := ∃ p cap, e = .returned (.agg #[.int .i64 n, .slice p N cap]) ∧ InS W p N cap f ∧ OwnP w W p N f ∧ ∃ q, W = Wov w q
theorem copy_of_pos {w W : World} {n : Int} {N : Nat} {f : Nat → Int} {e : Ending} (h0 : 0 < N) (h : twinPost w n N f e W) : copyPost w n N f e W := by
  obtain ⟨p, cap, he, ho, hq⟩ := h
  refine ⟨p, cap, he, ?_, ?_, hq⟩
  · rcases ho with ⟨h, _⟩ | ⟨B, c, h1, h2, h3, h4⟩
    · omega
    · simp only [Value.slice.injEq] at h1
      exact .inr ⟨h0, B, 0, h1.1, h3, fun x hx => by rw [Nat.zero_add]; exact (h4 x hx).1⟩
  · rcases ho with ⟨h, _⟩ | ⟨B, c, h1, h2, h3, h4⟩
    · exact .inl h
    · simp only [Value.slice.injEq] at h1
      exact .inr ⟨B, h1.1, h2, h3, h4⟩
/-- dbm.Twin, of what InS holds of. -/
theorem twinC_any (n : Int) (p : Option Addr) (N cap : Nat) (f : Nat → Int) (w : World) (hN : N ≤ 1000000) (hS : InS w p N cap f) :
    Calls Tryz.prog 120 #[.agg #[.int .i64 n, .slice p N cap]] w (fun e W => ∃ p2 cap2, e = .returned (.agg #[.int .i64 n, .slice p2 N cap2]) ∧ OwnP w W p2 N f ∧ ∃ q, W = Wov w q) :=
  (twin_any n p N cap f w hN hS).mono fun e W ⟨p2, cap2, he, ho, hq⟩ => ⟨p2, cap2, he, by
    rcases ho with ⟨h, _⟩ | ⟨B, c, h1, h2, h3, h4⟩
    · exact .inl h
    · simp only [Value.slice.injEq] at h1
      exact .inr ⟨B, h1.1, h2, h3, h4⟩, hq⟩
end Go.Proofs.YtpmpapenjcemjaaGreatDoor

namespace Go.Proofs.YtpmpapenjcemjaaGreatDoor
set_option linter.unusedSimpArgs false
set_option linter.unusedVariables false
open Go Go.RowKit Go.Shelf

/-- All of a world is as it was. -/
def From (W W2 : World) : Prop := Below W2.heap.size W2 W
theorem From.below {W W' W2 : World} (h : From W W2) (hb : Below W.heap.size W W') : From W' W2 := Below.trans h (hb.mono h.size)
/-- Bounds in block B, that may be written. -/
structure OwnAt (W : World) (B : Nat) (p : Option Addr) (N : Nat) (f : Nat → Int) : Prop where
  at_ : 0 < N → p = some ⟨B, 0, none⟩ ∧ B < W.heap.size
  holds : ∀ x, x < N → W.cell? ⟨B, x, none⟩ = some (.int .i64 (f x)) ∧ W.frozen? ⟨B, x, none⟩ = false
theorem OwnAt.below {W W' : World} {B : Nat} {p : Option Addr} {N : Nat} {f : Nat → Int} (h : OwnAt W B p N f) (hb : Below W.heap.size W W') : OwnAt W' B p N f :=
  ⟨fun h0 => ⟨(h.at_ h0).1, Nat.lt_of_lt_of_le (h.at_ h0).2 hb.size⟩, fun x hx => by
    have hB := (h.at_ (by omega)).2
    exact ⟨(hb.cell (p := ⟨B, x, none⟩) hB).trans (h.holds x hx).1, (hb.frozen (p := ⟨B, x, none⟩) hB).trans (h.holds x hx).2⟩⟩
theorem OwnP.blk {w W : World} {p : Option Addr} {N : Nat} {f : Nat → Int} (h : OwnP w W p N f) : ∃ B, w.heap.size ≤ B ∧ OwnAt W B p N f := by
  rcases h with h | ⟨B, rfl, h1, h2, h3⟩
  · exact ⟨w.heap.size, Nat.le_refl _, fun h0 => by omega, fun x hx => by omega⟩
  · exact ⟨B, h1, fun _ => ⟨rfl, h2⟩, h3⟩
theorem InS.below {W W' : World} {p : Option Addr} {N cap : Nat} {f : Nat → Int} (h : InS W p N cap f) (hb : Below W.heap.size W W') : InS W' p N cap f := by
  rcases h with h | ⟨h0, B, off, h1, h2, h3⟩
  · exact .inl h
  · exact .inr ⟨h0, B, off, h1, Nat.lt_of_lt_of_le h2 hb.size, fun x hx => (hb.cell (p := ⟨B, off + x, none⟩) h2).trans (h3 x hx)⟩
theorem chg_cell0 {W wr : World} {B b x N : Nat} (hne : 0 < N → b ≠ B) (h0 : N = 0 → wr = W) (hc : Chg W B wr) (hb : b < W.heap.size) : wr.cell? ⟨b, x, none⟩ = W.cell? ⟨b, x, none⟩ := by
  by_cases h : N = 0
  · rw [h0 h]
  · exact hc.cell hb (hne (by omega))
theorem gives_at {P : Program} {fi : FuncId} {args : Array Value} {v : Value} {W : World} (h : ∀ w', Below W.heap.size W w' → Calls P fi args w' (Gives w' v)) (p : Gr) : Calls P fi args (Wov W p) fun e w'' => e = .returned v ∧ ∃ q, w'' = Wov W q :=
  (h (Wov W p) (below_Wov W p)).mono fun _ _ ⟨he, q, hq⟩ => ⟨he, ⟨p.bl ++ q.bl, q.dr⟩, by rw [hq, Wov_Wov]⟩
end Go.Proofs.YtpmpapenjcemjaaGreatDoor

namespace Go.Proofs.YtpmpapenjcemjaaGreatDoor
set_option linter.unusedSimpArgs false
set_option linter.unusedVariables false
open Go Go.RowKit Go.Shelf
attribute [local go_sem] Nat.add_assoc Nat.add_lt_add_iff_left lit_lt_add

theorem slR_get {W : World} {Z L : Nat} {T : Nat → Int × Int} (h : SlR W (some ⟨Z, 0, none⟩) L T) {x : Nat} (hx : x < L) : Z < W.heap.size ∧ W.cell? ⟨Z, x * 2, none⟩ = some (.int .i64 (T x).1) ∧ W.cell? ⟨Z, x * 2 + 1, none⟩ = some (.int .i64 (T x).2) := by
  rcases h with h | ⟨B, off, h1, h2, h3⟩
  · omega
  · simp only [Option.some.injEq, Addr.mk.injEq, and_true] at h1
    obtain ⟨rfl, rfl⟩ := h1
    have := h3 x hx
    rw [Nat.zero_add, Nat.zero_add] at this
    exact ⟨h2, this⟩
theorem tm_fit {M : Nat} {T : Nat → Int × Int} (h : FitsR M T) : ∀ x, x < M + 1 → fits64 (tm T x).1 ∧ fits64 (tm T x).2
  | 0, _ => ⟨(by decide : fits64 0), (by decide : fits64 1)⟩
  | x + 1, hx => h x (by omega)
theorem tm_ok {M : Nat} {T : Nat → Int × Int} (h : allRat M T = true) : ∀ x, x < M + 1 → okRat (tm T x).1 (tm T x).2 = true
  | 0, _ => (by decide : okRat 0 1 = true)
  | x + 1, hx => allRat_iff.1 h x (by omega)

end Go.Proofs.YtpmpapenjcemjaaGreatDoor

namespace Go.Proofs.YtpmpapenjcemjaaGreatDoor
set_option linter.unusedSimpArgs false
set_option linter.unusedVariables false
open Go Go.RowKit Go.Shelf
attribute [local go_sem] Nat.add_assoc Nat.add_lt_add_iff_left lit_lt_add

end Go.Proofs.YtpmpapenjcemjaaGreatDoor
