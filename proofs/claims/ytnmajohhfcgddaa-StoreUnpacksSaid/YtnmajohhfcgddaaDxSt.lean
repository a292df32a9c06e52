/- Lists of entries by rising keys: what is put, taken away, looked up. No program in sight. -/
import Derived.Test.YtnmajohhfcgddaaDxC
set_option linter.unusedVariables false
set_option linter.unusedSimpArgs false
set_option linter.unusedSectionVars false
namespace Go.Dx.St
open Go Go.Dx Go.Dx.Search

abbrev Ent := Int × Int
def pos (k : Int) : List Ent → Nat
  | [] => 0
  | x :: l => if x.1 < k then pos k l + 1 else 0
def isAt (k : Int) (L : List Ent) : Bool := match L[pos k L]? with
  | some x => decide (x.1 = k)
  | none => false
def putL (k v : Int) (L : List Ent) : List Ent := if isAt k L then L.set (pos k L) (k, v) else insAt L (pos k L) (k, v)
def delL (k : Int) (L : List Ent) : List Ent := if isAt k L then L.eraseIdx (pos k L) else L
def Rise (L : List Ent) : Prop := L.Pairwise fun a b => a.1 < b.1
theorem pos_le (k : Int) : ∀ L : List Ent, pos k L ≤ L.length
  | [] => Nat.le_refl _
  | x :: l => by
    have := pos_le k l
    unfold pos
    split
    · simp; omega
    · simp
theorem pos_lt (k : Int) : ∀ (L : List Ent) (i : Nat) (x : Ent), i < pos k L → L[i]? = some x → x.1 < k
  | [], i, x, h, _ => by simp [pos] at h
  | y :: l, i, x, h, hx => by
    unfold pos at h
    split at h
    · rename_i hy
      cases i with
      | zero => simp at hx; subst hx; exact hy
      | succ i => exact pos_lt k l i x (by omega) (by simpa using hx)
    · simp at h
theorem pos_ge (k : Int) : ∀ (L : List Ent), Rise L → ∀ (i : Nat) (x : Ent), pos k L ≤ i → L[i]? = some x → ¬ x.1 < k
  | [], _, i, x, _, hx => by simp at hx
  | y :: l, hr, i, x, h, hx => by
    have hp := List.pairwise_cons.1 hr
    unfold pos at h
    split at h
    · rename_i hy
      cases i with
      | zero => omega
      | succ i => exact pos_ge k l hp.2 i x (by omega) (by simpa using hx)
    · rename_i hy
      cases i with
      | zero => simp at hx; subst hx; exact hy
      | succ i =>
        have h1 := hp.1 x (List.mem_of_getElem? (show l[i]? = some x by simpa using hx))
        omega
def Kf (L : List Ent) (i : Nat) : Int := ((L.map (·.1))[i]?).getD 0
theorem Kf_at {L : List Ent} {i : Nat} {x : Ent} (h : L[i]? = some x) : Kf L i = x.1 := by unfold Kf; simp [h]
theorem lower_pos {L : List Ent} (hr : Rise L) (k : Int) : Lower (Kf L) L.length k (pos k L) := by
  refine ⟨pos_le k L, fun i hi => ?_, fun i hi hl => ?_⟩
  · have hil : i < L.length := Nat.lt_of_lt_of_le hi (pos_le k L)
    have hx : L[i]? = some L[i] := List.getElem?_eq_getElem hil
    rw [Kf_at hx]
    exact pos_lt k L i _ hi hx
  · have hx : L[i]? = some L[i] := List.getElem?_eq_getElem hl
    rw [Kf_at hx]
    exact pos_ge k L hr i _ hi hx
theorem Kf_mono {L : List Ent} (hr : Rise L) : ∀ i j, i ≤ j → j < L.length → Kf L i ≤ Kf L j := by
  intro i j hij hj
  have hx : L[i]? = some L[i] := List.getElem?_eq_getElem (by omega)
  have hy : L[j]? = some L[j] := List.getElem?_eq_getElem hj
  rw [Kf_at hx, Kf_at hy]
  by_cases e : i = j
  · subst e; exact Int.le_refl _
  · exact Int.le_of_lt (List.pairwise_iff_getElem.1 hr i j (by omega) hj (by omega))
theorem isAt_eq (k : Int) (L : List Ent) : decide (pos k L < L.length ∧ Kf L (pos k L) = k) = isAt k L := by
  unfold isAt
  by_cases h : pos k L < L.length
  · have hx : L[pos k L]? = some L[pos k L] := List.getElem?_eq_getElem h
    rw [hx, Kf_at hx]
    simp [h]
  · rw [List.getElem?_eq_none (by omega)]
    simp [h]
theorem isAt_true {k : Int} {L : List Ent} (h : isAt k L = true) : ∃ x, L[pos k L]? = some x ∧ x.1 = k := by
  unfold isAt at h
  split at h
  · rename_i x hx; exact ⟨x, hx, by simpa using h⟩
  · cases h
theorem isAt_false {k : Int} {L : List Ent} (hr : Rise L) (h : ¬ isAt k L = true) : ∀ x, x ∈ L → x.1 ≠ k := by
  intro x hx e
  obtain ⟨i, hi, hxi⟩ := List.getElem_of_mem hx
  have hx' : L[i]? = some x := by rw [List.getElem?_eq_getElem hi, hxi]
  by_cases c : i < pos k L
  · have := pos_lt k L i x c hx'; omega
  · by_cases c2 : i = pos k L
    · apply h
      unfold isAt
      rw [← c2, hx']
      simpa using e
    · have h1 : pos k L < L.length := by omega
      have hy : L[pos k L]? = some L[pos k L] := List.getElem?_eq_getElem h1
      have h2 := pos_ge k L hr _ _ (Nat.le_refl _) hy
      have h3 := List.pairwise_iff_getElem.1 hr (pos k L) i h1 hi (by omega)
      rw [hxi] at h3
      omega
theorem isAt_mem {k : Int} {L : List Ent} (hr : Rise L) : isAt k L = true ↔ ∃ x, x ∈ L ∧ x.1 = k := by
  constructor
  · intro h
    obtain ⟨x, hx, e⟩ := isAt_true h
    exact ⟨x, List.mem_of_getElem? hx, e⟩
  · rintro ⟨x, hx, e⟩
    by_cases c : isAt k L = true
    · exact c
    · exact absurd e (isAt_false hr c x hx)
theorem set_keys {L : List Ent} {k v : Int} (h : isAt k L = true) : (L.set (pos k L) (k, v)).map (·.1) = L.map (·.1) := by
  obtain ⟨x, hx, e⟩ := isAt_true h
  rw [List.map_set]
  apply List.ext_getElem?
  intro i
  rw [List.getElem?_set]
  split
  · rename_i hi
    subst hi
    have hl := (List.getElem?_eq_some_iff.1 hx).1
    rw [if_pos (by simpa using hl)]
    simp [hx, e]
  · rfl
theorem rise_keys {L M : List Ent} (h : L.map (·.1) = M.map (·.1)) (hr : Rise M) : Rise L := by
  have := List.pairwise_map.2 hr
  rw [← h] at this
  exact List.pairwise_map.1 this
theorem insAt_mem {α : Type} {l : List α} {i : Nat} {x y : α} : y ∈ insAt l i x ↔ y ∈ l ∨ y = x := by
  unfold insAt
  rw [List.mem_append, List.mem_cons]
  constructor
  · rintro (h | h | h)
    · exact .inl (List.mem_of_mem_take h)
    · exact .inr h
    · exact .inl (List.mem_of_mem_drop h)
  · rintro (h | h)
    · rw [← List.take_append_drop i l, List.mem_append] at h
      exact h.elim .inl fun h => .inr (.inr h)
    · exact .inr (.inl h)
theorem rise_put {L : List Ent} (hr : Rise L) (k v : Int) : Rise (putL k v L) := by
  unfold putL
  split
  · rename_i h; exact rise_keys (set_keys h) hr
  · rename_i h
    have hne := isAt_false hr h
    unfold insAt Rise
    have h1 : ∀ x, x ∈ L.take (pos k L) → x.1 < k := fun x hx => by
      obtain ⟨i, hi, hxi⟩ := List.getElem_of_mem hx
      rw [List.length_take] at hi
      have : L[i]? = some x := by rw [← hxi, List.getElem_take, List.getElem?_eq_getElem]
      exact pos_lt k L i x (by omega) this
    have h2 : ∀ x, x ∈ L.drop (pos k L) → k < x.1 := fun x hx => by
      obtain ⟨i, hi, hxi⟩ := List.getElem_of_mem hx
      rw [List.length_drop] at hi
      have : L[pos k L + i]? = some x := by rw [← hxi, List.getElem_drop, List.getElem?_eq_getElem]
      have h3 := pos_ge k L hr _ x (by omega) this
      have h4 := hne x (List.mem_of_getElem? this)
      omega
    rw [List.pairwise_append, List.pairwise_cons]
    refine ⟨hr.sublist (List.take_sublist _ _), ⟨fun x hx => h2 x hx, hr.sublist (List.drop_sublist _ _)⟩, fun x hx y hy => ?_⟩
    rcases List.mem_cons.1 hy with rfl | hy
    · exact h1 x hx
    · have := h1 x hx; have := h2 y hy; omega
theorem rise_del {L : List Ent} (hr : Rise L) (k : Int) : Rise (delL k L) := by
  unfold delL
  split
  · exact hr.sublist (List.eraseIdx_sublist _ _)
  · exact hr
theorem put_mem {L : List Ent} (hr : Rise L) (k v : Int) (x : Int) : (∃ y, y ∈ putL k v L ∧ y.1 = x) ↔ (∃ y, y ∈ L ∧ y.1 = x) ∨ x = k := by
  unfold putL
  split
  · rename_i h
    have hk := set_keys (v := v) h
    have : ∀ M : List Ent, (∃ y, y ∈ M ∧ y.1 = x) ↔ x ∈ M.map (·.1) := fun M => by rw [List.mem_map]
    rw [this, this, hk, ← this]
    constructor
    · exact .inl
    · rintro (h1 | rfl)
      · exact h1
      · exact (isAt_mem hr).1 h
  · constructor
    · rintro ⟨y, hy, rfl⟩
      rcases insAt_mem.1 hy with h | rfl
      · exact .inl ⟨y, h, rfl⟩
      · exact .inr rfl
    · rintro (⟨y, hy, rfl⟩ | rfl)
      · exact ⟨y, insAt_mem.2 (.inl hy), rfl⟩
      · exact ⟨_, insAt_mem.2 (.inr rfl), rfl⟩
theorem put_len {L : List Ent} (k v : Int) : (putL k v L).length = if isAt k L then L.length else L.length + 1 := by
  unfold putL
  split
  · simp
  · exact insAt_len (pos_le k L)
theorem del_len {L : List Ent} (k : Int) : (delL k L).length = if isAt k L then L.length - 1 else L.length := by
  unfold delL
  split
  · rename_i h
    obtain ⟨x, hx, _⟩ := isAt_true h
    have := (List.getElem?_eq_some_iff.1 hx).1
    rw [List.length_eraseIdx, if_pos this]
  · rfl
theorem del_mem {L : List Ent} (hr : Rise L) (k : Int) {y : Ent} (h : y ∈ delL k L) : y ∈ L ∧ y.1 ≠ k := by
  unfold delL at h
  split at h
  · rename_i hk
    obtain ⟨x, hx, e⟩ := isAt_true hk
    have hl := (List.getElem?_eq_some_iff.1 hx).1
    have hm := List.mem_of_mem_eraseIdx h
    refine ⟨hm, fun e2 => ?_⟩
    have hnd : (L.map (·.1)).Nodup := List.pairwise_map.2 (hr.imp fun h => by omega)
    rw [List.mem_eraseIdx_iff_getElem?] at h
    obtain ⟨i, hi, hy⟩ := h
    have h1 := (List.getElem?_eq_some_iff.1 hy).1
    apply hi
    have ha : (L.map (·.1))[i]? = some k := by simp [hy, e2]
    have hb : (L.map (·.1))[pos k L]? = some k := by simp [hx, e]
    exact (List.getElem?_inj (by simpa using h1) hnd).1 (ha.trans hb.symm)
  · rename_i hk
    exact ⟨h, isAt_false hr hk y h⟩
theorem pos_eq {L : List Ent} (hr : Rise L) {k : Int} {i : Nat} (hi : i ≤ L.length) (h1 : ∀ j x, j < i → L[j]? = some x → x.1 < k) (h2 : ∀ x, L[i]? = some x → ¬ x.1 < k) : pos k L = i := by
  rcases Nat.lt_trichotomy (pos k L) i with h | h | h
  · have hx : L[pos k L]? = some L[pos k L] := List.getElem?_eq_getElem (by omega)
    exact absurd (h1 _ _ h hx) (pos_ge k L hr _ _ (Nat.le_refl _) hx)
  · exact h
  · have hl : i < L.length := Nat.lt_of_lt_of_le h (pos_le k L)
    have hx : L[i]? = some L[i] := List.getElem?_eq_getElem hl
    exact absurd (pos_lt k L i _ h hx) (h2 _ hx)
theorem rise_lt {L : List Ent} (hr : Rise L) {i j : Nat} {x y : Ent} (hij : i < j) (hx : L[i]? = some x) (hy : L[j]? = some y) : x.1 < y.1 := by
  obtain ⟨hi, rfl⟩ := List.getElem?_eq_some_iff.1 hx
  obtain ⟨hj, rfl⟩ := List.getElem?_eq_some_iff.1 hy
  exact List.pairwise_iff_getElem.1 hr i j hi hj hij
/-- from the key behind one on stands the next one -/
theorem pos_next {L : List Ent} (hr : Rise L) {i : Nat} {x : Ent} (hx : L[i]? = some x) : pos (x.1 + 1) L = i + 1 := by
  have hi := (List.getElem?_eq_some_iff.1 hx).1
  refine pos_eq hr (by omega) (fun j y hj hy => ?_) (fun y hy => ?_)
  · by_cases e : j = i
    · subst e; rw [hx] at hy; cases hy; omega
    · have := rise_lt hr (show j < i by omega) hy hx; omega
  · have := rise_lt hr (Nat.lt_succ_self i) hx hy; omega
theorem pos_low {L : List Ent} (hr : Rise L) {k : Int} (h : ∀ x, x ∈ L → k ≤ x.1) : pos k L = 0 :=
  pos_eq hr (Nat.zero_le _) (fun j x hj => absurd hj (Nat.not_lt_zero _)) fun x hx => by have := h x (List.mem_of_getElem? hx); omega
/-- whole numbers of 64 bits -/
def I64 (n : Int) : Prop := -9223372036854775808 ≤ n ∧ n ≤ 9223372036854775807
theorem put_range {L : List Ent} (hr : Rise L) {k v : Int} {P : Int → Prop} (h : ∀ x, x ∈ L → P x.1) (hk : P k) : ∀ x, x ∈ putL k v L → P x.1 := fun x hx => by
  rcases (put_mem hr k v x.1).1 ⟨x, hx, rfl⟩ with ⟨y, hy, e⟩ | e
  · rw [← e]; exact h y hy
  · rw [e]; exact hk
end Go.Dx.St
