/- What was put last: the list of it, in plain Lean. -/
import Derived.Test.YtlcgbhpemkomkaaDxL
set_option linter.unusedVariables false
set_option linter.unusedSimpArgs false
set_option linter.unusedSectionVars false
namespace Go.Dx.Keep
open Go Go.Dx
variable {κ : Type} [DecidableEq κ]
/-- of the first i: each once, with where it stood last, the last one first -/
def dd (l : List κ) : Nat → List (κ × Int)
  | 0 => []
  | i + 1 => match l[i]? with
    | some k => (k, (i : Int)) :: without k (dd l i)
    | none => dd l i
theorem dd_succ {l : List κ} {i : Nat} {k : κ} (h : l[i]? = some k) : dd l (i + 1) = (k, (i : Int)) :: without k (dd l i) := by
  simp only [dd, h]
structure Last (l : List κ) (i : Nat) (D : List (κ × Int)) : Prop where
  keys : (D.map (·.1)).Nodup
  desc : D.Pairwise fun a b => b.2 < a.2
  rng : ∀ x, x ∈ D → 0 ≤ x.2 ∧ x.2 < i ∧ l[x.2.toNat]? = some x.1
  all : ∀ j k, j < i → l[j]? = some k → ∃ v, (k, v) ∈ D ∧ (j : Int) ≤ v
theorem dd_last {l : List κ} : ∀ {i : Nat}, i ≤ l.length → Last l i (dd l i)
  | 0, _ => ⟨.nil, .nil, fun _ h => (nomatch h), fun j k h => absurd h (Nat.not_lt_zero _)⟩
  | i + 1, hi => by
    have hk : l[i]? = some l[i] := List.getElem?_eq_getElem (by omega)
    generalize l[i] = k at hk
    have I := dd_last (l := l) (i := i) (by omega)
    rw [dd_succ hk]
    have hs := without_sub k (dd l i)
    refine ⟨List.nodup_cons.2 ⟨without_keys k _, (hs.map _).nodup I.keys⟩, List.pairwise_cons.2 ⟨fun x hx => (I.rng x (hs.subset hx)).2.1, I.desc.sublist hs⟩, fun x hx => ?_, fun j k' hj hk' => ?_⟩
    · rcases List.mem_cons.1 hx with rfl | hx
      · exact ⟨by simp, by simp; omega, by simpa using hk⟩
      · obtain ⟨h1, h2, h3⟩ := I.rng x (hs.subset hx)
        exact ⟨h1, by omega, h3⟩
    · by_cases hkk : k' = k
      · subst hkk
        exact ⟨i, List.mem_cons_self .., by omega⟩
      · have : j < i := by
          rcases Nat.lt_or_ge j i with h | h
          · exact h
          · have : j = i := by omega
            subst this
            rw [hk] at hk'
            cases hk'
            exact absurd rfl hkk
        obtain ⟨v, hv, hjv⟩ := I.all j k' this hk'
        exact ⟨v, List.mem_cons_of_mem _ (List.mem_filter.2 ⟨hv, by simp [hkk]⟩), hjv⟩
theorem without_map {α β : Type} (f : α → β) (k : κ) (M : List (κ × α)) : (without k M).map (fun x => (x.1, f x.2)) = without k (M.map fun x => (x.1, f x.2)) := by
  unfold without
  rw [List.filter_map]
  rfl
theorem take_in {α : Type} {k : κ} : ∀ {A : List (κ × α)} {R : Nat}, (A.map (·.1)).Nodup → k ∈ (A.take R).map (·.1) → without k (A.take R) = (without k A).take (R - 1)
  | [], R, _, h => by simp at h
  | a :: A, 0, _, h => by simp at h
  | a :: A, r + 1, hn, h => by
    rw [List.map_cons, List.nodup_cons] at hn
    simp only [List.take_succ_cons, List.map_cons, List.mem_cons, Nat.add_sub_cancel] at h ⊢
    by_cases ha : a.1 = k
    · have h1 : k ∉ A.map (·.1) := ha ▸ hn.1
      have h2 : k ∉ (A.take r).map (·.1) := fun hh => h1 (((List.take_sublist r A).map _).subset hh)
      have e1 : without k (a :: A.take r) = without k (A.take r) := by unfold without; simp [List.filter_cons, ha]
      have e2 : without k (a :: A) = without k A := by unfold without; simp [List.filter_cons, ha]
      rw [e1, e2, without_none h1, without_none h2]
    · have h' : k ∈ (A.take r).map (·.1) := by
        rcases h with h | h
        · exact absurd h.symm ha
        · exact h
      have ih := take_in hn.2 h'
      have e1 : without k (a :: A.take r) = a :: without k (A.take r) := by unfold without; simp [List.filter_cons, ha]
      have e2 : without k (a :: A) = a :: without k A := by unfold without; simp [List.filter_cons, ha]
      rw [e1, e2, ih]
      cases r with
      | zero => simp at h'
      | succ r => simp
theorem take_out {α : Type} {k : κ} : ∀ {A : List (κ × α)} {R : Nat}, k ∉ (A.take R).map (·.1) → (without k A).take (R - 1) = A.take (R - 1)
  | [], R, _ => by simp [without]
  | a :: A, 0, _ => by simp
  | a :: A, r + 1, h => by
    simp only [List.take_succ_cons, List.map_cons, List.mem_cons, not_or, Nat.add_sub_cancel] at h ⊢
    have e2 : without k (a :: A) = a :: without k A := by unfold without; simp [List.filter_cons, Ne.symm h.1]
    rw [e2]
    cases r with
    | zero => simp
    | succ r =>
      have := take_out (A := A) (R := r + 1) h.2
      simp only [Nat.add_sub_cancel] at this
      simp [this]
/-- the rows that a cache keeps -/
def keeps (M : List (κ × Int × Int)) (l : List κ) (i R : Nat) : Prop := M.map (fun x => (x.1, x.2.1)) = (dd l i).take R
theorem keeps_keys {M : List (κ × Int × Int)} {l : List κ} {i R : Nat} (h : keeps M l i R) : M.map (·.1) = ((dd l i).take R).map (·.1) := by
  have := congrArg (List.map (·.1)) h
  simpa [List.map_map, Function.comp_def] using this
theorem keeps_length {M : List (κ × Int × Int)} {l : List κ} {i R : Nat} (h : keeps M l i R) : M.length = min R (dd l i).length := by
  have := congrArg List.length h
  simpa using this
theorem keeps_in {M : List (κ × Int × Int)} {l : List κ} {i R : Nat} {k : κ} {u : Int} (h : keeps M l i R) (hi : i ≤ l.length) (hR : 1 ≤ R) (hk : l[i]? = some k) (hin : k ∈ M.map (·.1)) : keeps ((k, (i : Int), u) :: without k M) l (i + 1) R := by
  obtain ⟨r, rfl⟩ : ∃ r, R = r + 1 := ⟨R - 1, by omega⟩
  unfold keeps
  rw [dd_succ hk, List.take_succ_cons, List.map_cons, show List.map (fun x => (x.1, x.2.1)) (without k M) = without k (M.map fun x => (x.1, x.2.1)) from without_map (fun x : Int × Int => x.1) k M, h, take_in (dd_last hi).keys (keeps_keys h ▸ hin)]
  rfl
theorem keeps_new {M : List (κ × Int × Int)} {l : List κ} {i R : Nat} {k : κ} {u : Int} (h : keeps M l i R) (hk : l[i]? = some k) (hlt : M.length < R) (hin : k ∉ M.map (·.1)) : keeps ((k, (i : Int), u) :: M) l (i + 1) R := by
  obtain ⟨r, rfl⟩ : ∃ r, R = r + 1 := ⟨R - 1, by omega⟩
  unfold keeps
  have ho := take_out (keeps_keys h ▸ hin)
  have hl := keeps_length h
  simp only [Nat.add_sub_cancel] at ho
  rw [dd_succ hk, List.take_succ_cons, List.map_cons, h, ho, List.take_of_length_le (by omega), List.take_of_length_le (by omega)]
theorem keeps_full {M : List (κ × Int × Int)} {l : List κ} {i R : Nat} {k : κ} {u : Int} (h : keeps M l i R) (hk : l[i]? = some k) (hR : 1 ≤ R) (hge : R ≤ M.length) (hin : k ∉ M.map (·.1)) : keeps ((k, (i : Int), u) :: M.dropLast) l (i + 1) R := by
  obtain ⟨r, rfl⟩ : ∃ r, R = r + 1 := ⟨R - 1, by omega⟩
  unfold keeps
  have ho := take_out (keeps_keys h ▸ hin)
  have hl := keeps_length h
  simp only [Nat.add_sub_cancel] at ho
  rw [dd_succ hk, List.take_succ_cons, List.map_cons, List.map_dropLast, h, ho, List.dropLast_eq_take, List.take_take, List.length_take]
  congr 2
  omega
/-- those that stood behind j -/
def since (D : List (κ × Int)) (j : Int) : List (κ × Int) := D.filter fun x => decide (j ≤ x.2)
theorem since_split : ∀ {D : List (κ × Int)}, D.Pairwise (fun a b => b.2 < a.2) → ∀ {x : κ × Int}, x ∈ D → ∃ r, D = since D (x.2 + 1) ++ x :: r ∧ since D x.2 = since D (x.2 + 1) ++ [x]
  | [], _, x, h => by cases h
  | a :: D, hp, x, h => by
    rw [List.pairwise_cons] at hp
    have hall : ∀ (j : Int), a.2 < j → since D j = [] := fun j hj => List.filter_eq_nil_iff.2 fun y hy => by have := hp.1 y hy; simp; omega
    rcases List.mem_cons.1 h with rfl | h
    · refine ⟨D, ?_, ?_⟩
      · have : since (x :: D) (x.2 + 1) = [] := by unfold since; rw [List.filter_cons]; have := hall (x.2 + 1) (by omega); unfold since at this; simp [this]; omega
        rw [this]; rfl
      · have e1 : since (x :: D) (x.2 + 1) = [] := by unfold since; rw [List.filter_cons]; have := hall (x.2 + 1) (by omega); unfold since at this; simp [this]; omega
        have e2 : since (x :: D) x.2 = [x] := by
          unfold since
          rw [List.filter_cons]
          have : D.filter (fun y => decide (x.2 ≤ y.2)) = [] := List.filter_eq_nil_iff.2 fun y hy => by have := hp.1 y hy; simp; omega
          simp [this]
        rw [e1, e2]; rfl
    · have hlt := hp.1 x h
      obtain ⟨r, h1, h2⟩ := since_split hp.2 h
      have e1 : since (a :: D) (x.2 + 1) = a :: since D (x.2 + 1) := by unfold since; rw [List.filter_cons]; simp; omega
      have e2 : since (a :: D) x.2 = a :: since D x.2 := by unfold since; rw [List.filter_cons]; simp; omega
      refine ⟨r, ?_, ?_⟩
      · rw [e1]
        exact congrArg (a :: ·) h1
      · rw [e1, e2, h2]; rfl
theorem since_same {D : List (κ × Int)} {j : Int} (h : ∀ x, x ∈ D → x.2 ≠ j) : since D j = since D (j + 1) := List.filter_congr fun x hx => by
  have := h x hx
  exact decide_eq_decide.2 ⟨fun h => by omega, fun h => by omega⟩
/-- a key that was not seen since: it is there, with where it stood, and the cache keeps it -/
theorem unseen {l : List κ} {i R j : Nat} {k : κ} {M : List (κ × Int × Int)} (hk : keeps M l i R) (hi : i ≤ l.length) (hj : j < i) (hlj : l[j]? = some k) (hn : k ∉ (since (dd l i) ((j : Int) + 1)).map (·.1)) (hlt : (since (dd l i) ((j : Int) + 1)).length < R) :
    (∃ x, x ∈ M ∧ x.1 = k ∧ x.2.1 = (j : Int)) ∧ since (dd l i) (j : Int) = since (dd l i) ((j : Int) + 1) ++ [(k, (j : Int))] := by
  have L := dd_last (l := l) hi
  obtain ⟨v, hv, hjv⟩ := L.all j k hj hlj
  have hvj : v = (j : Int) := by
    by_cases e : v = (j : Int)
    · exact e
    · exact absurd (List.mem_map.2 ⟨(k, v), List.mem_filter.2 ⟨hv, by simp; omega⟩, rfl⟩) hn
  subst hvj
  obtain ⟨r, h1, h2⟩ := since_split L.desc hv
  refine ⟨?_, h2⟩
  have hmem : (k, (j : Int)) ∈ (dd l i).take R := by
    rw [h1]
    have : (since (dd l i) ((j : Int) + 1) ++ [(k, (j : Int))]).Sublist ((since (dd l i) ((j : Int) + 1) ++ (k, (j : Int)) :: r).take R) := by
      have e : since (dd l i) ((j : Int) + 1) ++ (k, (j : Int)) :: r = (since (dd l i) ((j : Int) + 1) ++ [(k, (j : Int))]) ++ r := by simp
      rw [e, List.take_append]
      rw [List.take_of_length_le (by simp; omega)]
      exact List.sublist_append_left _ _
    exact this.subset (by simp)
  rw [← hk] at hmem
  obtain ⟨x, hx, he⟩ := List.mem_map.1 hmem
  exact ⟨x, hx, congrArg Prod.fst he, congrArg Prod.snd he⟩
theorem seen {l : List κ} {i j : Nat} {k : κ} (hi : i ≤ l.length) (hlj : l[j]? = some k) (hn : k ∈ (since (dd l i) ((j : Int) + 1)).map (·.1)) : since (dd l i) (j : Int) = since (dd l i) ((j : Int) + 1) := by
  have L := dd_last (l := l) hi
  refine since_same fun x hx e => ?_
  obtain ⟨y, hy, hyk⟩ := List.mem_map.1 hn
  have hy' := List.mem_filter.1 hy
  have h3 := (L.rng x hx).2.2
  have : x.1 = k := by
    rw [e] at h3
    simp at h3
    rw [hlj] at h3
    exact (Option.some.inj h3).symm
  have := uniq_key L.keys hy'.1 hx (hyk.trans this.symm)
  subst this
  have := hy'.2
  simp at this
  omega
end Go.Dx.Keep
