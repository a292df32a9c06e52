/- A part. -/
import Derived.Test.YtnmajohhfcgddaaDxC
set_option linter.unusedVariables false
set_option linter.unusedSimpArgs false
set_option linter.unusedSectionVars false
namespace Go.Dx.St
open Go Go.Dx Go.Dx.Search
abbrev Ent := Int × Int
def pos (k : Int) : List Ent → Nat
 | [] => 0
 | x :: l => if x.1 < k then pos k l + 1 else 0
def YU (k : Int) (L : List Ent) : Bool := match L[pos k L]? with
 | some x => decide (x.1 = k)
 | none => false
def Qf (k v : Int) (L : List Ent) : List Ent := if YU k L then L.set (pos k L) (k, v) else Xc L (pos k L) (k, v)
def WY (k : Int) (L : List Ent) : List Ent := if YU k L then L.eraseIdx (pos k L) else L
def XZ (L : List Ent) : Prop := L.Pairwise fun a b => a.1 < b.1
theorem Qg (k : Int) : ∀ L : List Ent, pos k L ≤ L.length
 | [] => Nat.le_refl _
 | x :: l => by
  have := Qg k l
  unfold pos
  split
  · simp; omega
  · simp
theorem K2 (k : Int) : ∀ (L : List Ent) (i : Nat) (x : Ent), i < pos k L → L[i]? = some x → x.1 < k
 | [], i, x, h, _ => by simp [pos] at h
 | y :: l, i, x, h, hx => by
  unfold pos at h
  split at h
  · rename_i hy
    cases i with
    | zero => simp at hx; subst hx; exact hy
    | succ i => exact K2 k l i x (by omega) (by simpa using hx)
  · simp at h
theorem Ki (k : Int) : ∀ (L : List Ent), XZ L → ∀ (i : Nat) (x : Ent), pos k L ≤ i → L[i]? = some x → ¬ x.1 < k
 | [], _, i, x, _, hx => by simp at hx
 | y :: l, hr, i, x, h, hx => by
  have hp := List.pairwise_cons.1 hr
  unfold pos at h
  split at h
  · rename_i hy
    cases i with
    | zero => omega
    | succ i => exact Ki k l hp.2 i x (by omega) (by simpa using hx)
  · rename_i hy
    cases i with
    | zero => simp at hx; subst hx; exact hy
    | succ i =>
     have h1 := hp.1 x (List.mem_of_getElem? (show l[i]? = some x by simpa using hx))
     omega
def Kf (L : List Ent) (i : Nat) : Int := ((L.map (·.1))[i]?).getD 0
theorem Ce {L : List Ent} {i : Nat} {x : Ent} (h : L[i]? = some x) : Kf L i = x.1 := by unfold Kf; simp [h]
theorem TQ {L : List Ent} (hr : XZ L) (k : Int) : Vw (Kf L) L.length k (pos k L) := by
 refine ⟨Qg k L, fun i hi => ?_, fun i hi hl => ?_⟩
 · have hil : i < L.length := Nat.lt_of_lt_of_le hi (Qg k L)
   have hx : L[i]? = some L[i] := List.getElem?_eq_getElem hil
   rw [Ce hx]
   exact K2 k L i _ hi hx
 · have hx : L[i]? = some L[i] := List.getElem?_eq_getElem hl
   rw [Ce hx]
   exact Ki k L hr i _ hi hx
theorem Ng {L : List Ent} (hr : XZ L) : ∀ i j, i ≤ j → j < L.length → Kf L i ≤ Kf L j := by
 intro i j hij hj
 have hx : L[i]? = some L[i] := List.getElem?_eq_getElem (by omega)
 have hy : L[j]? = some L[j] := List.getElem?_eq_getElem hj
 rw [Ce hx, Ce hy]
 by_cases e : i = j
 · subst e; exact Int.le_refl _
 · exact Int.le_of_lt (List.pairwise_iff_getElem.1 hr i j (by omega) hj (by omega))
theorem PK (k : Int) (L : List Ent) : decide (pos k L < L.length ∧ Kf L (pos k L) = k) = YU k L := by
 unfold YU
 by_cases h : pos k L < L.length
 · have hx : L[pos k L]? = some L[pos k L] := List.getElem?_eq_getElem h
   rw [hx, Ce hx]
   simp [h]
 · rw [List.getElem?_eq_none (by omega)]
   simp [h]
theorem XX {k : Int} {L : List Ent} (h : YU k L = true) : ∃ x, L[pos k L]? = some x ∧ x.1 = k := by
 unfold YU at h
 split at h
 · rename_i x hx; exact ⟨x, hx, by simpa using h⟩
 · cases h
theorem Gp {k : Int} {L : List Ent} (hr : XZ L) (h : ¬ YU k L = true) : ∀ x, x ∈ L → x.1 ≠ k := by
 intro x hx e
 obtain ⟨i, hi, hxi⟩ := List.getElem_of_mem hx
 have hx' : L[i]? = some x := by rw [List.getElem?_eq_getElem hi, hxi]
 by_cases c : i < pos k L
 · have := K2 k L i x c hx'; omega
 · by_cases c2 : i = pos k L
   · apply h
     unfold YU
     rw [← c2, hx']
     simpa using e
   · have h1 : pos k L < L.length := by omega
     have hy : L[pos k L]? = some L[pos k L] := List.getElem?_eq_getElem h1
     have h2 := Ki k L hr _ _ (Nat.le_refl _) hy
     have h3 := List.pairwise_iff_getElem.1 hr (pos k L) i h1 hi (by omega)
     rw [hxi] at h3
     omega
theorem Di {L : List Ent} {k v : Int} (h : YU k L = true) : (L.set (pos k L) (k, v)).map (·.1) = L.map (·.1) := by
 obtain ⟨x, hx, e⟩ := XX h
 rw [List.map_set]
 apply List.ext_getElem?
 intro i
 rw [List.getElem?_set]
 split
 · rename_i hi
   subst hi
   have hl := (List.getElem?_eq_some_iff.1 hx).1
   rw [if_pos (by simpa using hl)]
   simp [hx, e]
 · rfl
theorem TJ {L M : List Ent} (h : L.map (·.1) = M.map (·.1)) (hr : XZ M) : XZ L := by
 have := List.pairwise_map.2 hr
 rw [← h] at this
 exact List.pairwise_map.1 this
theorem TT {α : Type} {l : List α} {i : Nat} {x y : α} : y ∈ Xc l i x ↔ y ∈ l ∨ y = x := by
 unfold Xc
 rw [List.mem_append, List.mem_cons]
 constructor
 · rintro (h | h | h)
   · exact .inl (List.mem_of_mem_take h)
   · exact .inr h
   · exact .inl (List.mem_of_mem_drop h)
 · rintro (h | h)
   · rw [← List.take_append_drop i l, List.mem_append] at h
     exact h.elim .inl fun h => .inr (.inr h)
   · exact .inr (.inl h)
theorem Q5 {L : List Ent} (hr : XZ L) (k v : Int) : XZ (Qf k v L) := by
 unfold Qf
 split
 · rename_i h; exact TJ (Di h) hr
 · rename_i h
   have hne := Gp hr h
   unfold Xc XZ
   have h1 : ∀ x, x ∈ L.take (pos k L) → x.1 < k := fun x hx => by
    obtain ⟨i, hi, hxi⟩ := List.getElem_of_mem hx
    rw [List.length_take] at hi
    have : L[i]? = some x := by rw [← hxi, List.getElem_take, List.getElem?_eq_getElem]
    exact K2 k L i x (by omega) this
   have h2 : ∀ x, x ∈ L.drop (pos k L) → k < x.1 := fun x hx => by
    obtain ⟨i, hi, hxi⟩ := List.getElem_of_mem hx
    rw [List.length_drop] at hi
    have : L[pos k L + i]? = some x := by rw [← hxi, List.getElem_drop, List.getElem?_eq_getElem]
    have h3 := Ki k L hr _ x (by omega) this
    have h4 := hne x (List.mem_of_getElem? this)
    omega
   rw [List.pairwise_append, List.pairwise_cons]
   refine ⟨hr.sublist (List.take_sublist _ _), ⟨fun x hx => h2 x hx, hr.sublist (List.drop_sublist _ _)⟩, fun x hx y hy => ?_⟩
   rcases List.mem_cons.1 hy with rfl | hy
   · exact h1 x hx
   · have := h1 x hx; have := h2 y hy; omega
theorem V3 {L : List Ent} (hr : XZ L) (k : Int) : XZ (WY k L) := by
 unfold WY
 split
 · exact hr.sublist (List.eraseIdx_sublist _ _)
 · exact hr
theorem put_len {L : List Ent} (k v : Int) : (Qf k v L).length = if YU k L then L.length else L.length + 1 := by
 unfold Qf
 split
 · simp
 · exact Fd (Qg k L)
theorem del_len {L : List Ent} (k : Int) : (WY k L).length = if YU k L then L.length - 1 else L.length := by
 unfold WY
 split
 · rename_i h
   obtain ⟨x, hx, _⟩ := XX h
   have := (List.getElem?_eq_some_iff.1 hx).1
   rw [List.length_eraseIdx, if_pos this]
 · rfl
theorem PZ {L : List Ent} (hr : XZ L) (k : Int) {y : Ent} (h : y ∈ WY k L) : y ∈ L ∧ y.1 ≠ k := by
 unfold WY at h
 split at h
 · rename_i hk
   obtain ⟨x, hx, e⟩ := XX hk
   have hl := (List.getElem?_eq_some_iff.1 hx).1
   have hm := List.mem_of_mem_eraseIdx h
   refine ⟨hm, fun e2 => ?_⟩
   have hnd : (L.map (·.1)).Nodup := List.pairwise_map.2 (hr.imp fun h => by omega)
   rw [List.mem_eraseIdx_iff_getElem?] at h
   obtain ⟨i, hi, hy⟩ := h
   have h1 := (List.getElem?_eq_some_iff.1 hy).1
   apply hi
   have ha : (L.map (·.1))[i]? = some k := by simp [hy, e2]
   have hb : (L.map (·.1))[pos k L]? = some k := by simp [hx, e]
   exact (List.getElem?_inj (by simpa using h1) hnd).1 (ha.trans hb.symm)
 · rename_i hk
   exact ⟨h, Gp hr hk y h⟩
theorem FI {L : List Ent} (hr : XZ L) {k : Int} {i : Nat} (hi : i ≤ L.length) (h1 : ∀ j x, j < i → L[j]? = some x → x.1 < k) (h2 : ∀ x, L[i]? = some x → ¬ x.1 < k) : pos k L = i := by
 rcases Nat.lt_trichotomy (pos k L) i with h | h | h
 · have hx : L[pos k L]? = some L[pos k L] := List.getElem?_eq_getElem (by omega)
   exact absurd (h1 _ _ h hx) (Ki k L hr _ _ (Nat.le_refl _) hx)
 · exact h
 · have hl : i < L.length := Nat.lt_of_lt_of_le h (Qg k L)
   have hx : L[i]? = some L[i] := List.getElem?_eq_getElem hl
   exact absurd (K2 k L i _ h hx) (h2 _ hx)
theorem Pt {L : List Ent} (hr : XZ L) {i j : Nat} {x y : Ent} (hij : i < j) (hx : L[i]? = some x) (hy : L[j]? = some y) : x.1 < y.1 := by
 obtain ⟨hi, rfl⟩ := List.getElem?_eq_some_iff.1 hx
 obtain ⟨hj, rfl⟩ := List.getElem?_eq_some_iff.1 hy
 exact List.pairwise_iff_getElem.1 hr i j hi hj hij
theorem PD {L : List Ent} (hr : XZ L) {k : Int} (h : ∀ x, x ∈ L → k ≤ x.1) : pos k L = 0 :=
 FI hr (Nat.zero_le _) (fun j x hj => absurd hj (Nat.not_lt_zero _)) fun x hx => by have := h x (List.mem_of_getElem? hx); omega
def I64 (n : Int) : Prop := -9223372036854775808 ≤ n ∧ n ≤ 9223372036854775807
end Go.Dx.St
set_option maxRecDepth 100000
namespace Go.Dx.St
open Go Go.Dx
def WN (f t : Int) (L : List Ent) : List Ent := L.filter fun x => decide (f ≤ x.1) && decide (x.1 < t)
theorem TD {f t : Int} {L : List Ent} {i : Nat} {x : Ent} (hx : L[i]? = some x) : WN f t (L.take (i + 1)) = if f ≤ x.1 ∧ x.1 < t then WN f t (L.take i) ++ [x] else WN f t (L.take i) := by
 unfold WN
 rw [List.take_add_one, hx, List.filter_append]
 by_cases c : f ≤ x.1 ∧ x.1 < t
 · rw [if_pos c]
   simp [c.1, c.2]
 · rw [if_neg c]
   have : (decide (f ≤ x.1) && decide (x.1 < t)) = false := by
    by_cases c1 : f ≤ x.1
    · simp [c1]; exact Int.not_lt.1 fun h => c ⟨c1, h⟩
    · simp [c1]
   simp [this]
theorem CW (f t : Int) (L : List Ent) : (WN f t L).length ≤ L.length := List.length_filter_le _ _
theorem Fy {f t : Int} : ∀ {L : List Ent}, XZ L → WN f t L = (L.take (pos t L)).drop (pos f L)
 | [], _ => by simp [WN]
 | x :: l, hr => by
  have hp := List.pairwise_cons.1 hr
  have ih := Fy (f := f) (t := t) hp.2
  unfold WN at ih ⊢
  unfold pos
  by_cases c1 : x.1 < t
  · rw [if_pos c1]
    by_cases c2 : x.1 < f
    · rw [if_pos c2, List.filter_cons_of_neg (by simp; intro h; omega), List.take_succ_cons, List.drop_succ_cons, ih]
    · rw [if_neg c2, List.filter_cons_of_pos (by simp; omega), List.take_succ_cons, List.drop_zero, ih, PD hp.2 fun y hy => by have := hp.1 y hy; omega, List.drop_zero]
  · rw [if_neg c1, List.take_zero, List.drop_nil]
    refine List.filter_eq_nil_iff.2 fun y hy => ?_
    have : x.1 ≤ y.1 := by
     rcases List.mem_cons.1 hy with rfl | h
     · exact Int.le_refl _
     · exact Int.le_of_lt (hp.1 y h)
    simp
    intro _
    omega
theorem Pg {f t : Int} {L : List Ent} (hr : XZ L) {n : Nat} {x : Ent} (hx : L[pos f L + n]? = some x) (hxt : x.1 < t) : (WN f t L)[n]? = some x := by
 have hlt : pos f L + n < pos t L := by
  rcases Nat.lt_or_ge (pos f L + n) (pos t L) with h | h
  · exact h
  · exact absurd hxt (Ki t L hr _ _ h hx)
 rw [Fy hr, List.getElem?_drop, List.getElem?_take, if_pos hlt, hx]
theorem Sl {f t : Int} {L : List Ent} (hr : XZ L) {n : Nat} (hn : pos f L + n ≤ L.length) (h1 : ∀ j x, j < n → L[pos f L + j]? = some x → x.1 < t) (h2 : ∀ x, L[pos f L + n]? = some x → ¬ x.1 < t) : (WN f t L).length = n := by
 rw [Fy hr, List.length_drop, List.length_take]
 have hpt := Qg t L
 by_cases c : pos f L ≤ pos t L
 · have : pos t L = pos f L + n := by
    refine FI hr hn (fun j x hj hx => ?_) h2
    by_cases c2 : j < pos f L
    · exact K2 t L j x (by omega) hx
    · exact h1 (j - pos f L) x (by omega) (by rw [show pos f L + (j - pos f L) = j by omega]; exact hx)
   omega
 · have : n = 0 := by
    rcases Nat.eq_zero_or_pos n with h | h
    · exact h
    · have hx : L[pos f L + 0]? = some L[pos f L] := by rw [Nat.add_zero]; exact List.getElem?_eq_getElem (by omega)
      have h3 := h1 0 _ h hx
      exact absurd h3 (Ki t L hr _ _ (by omega) hx)
   omega
end Go.Dx.St
