/- Entries by rising keys: what they are after puts in two orders. No program in sight. -/
import Derived.Test.YtnmajohhfcgddaaDxSt
set_option linter.unusedVariables false
set_option linter.unusedSimpArgs false
set_option linter.unusedSectionVars false
namespace Go.Dx.St
open Go Go.Dx Go.Dx.Search
theorem put_iff {L : List Ent} (hr : Rise L) {k v : Int} {y : Ent} : y ∈ putL k v L ↔ y = (k, v) ∨ (y ∈ L ∧ y.1 ≠ k) := by
  unfold putL
  by_cases h : isAt k L = true
  · rw [if_pos h]
    obtain ⟨x, hx, hk⟩ := isAt_true h
    have hlt := (List.getElem?_eq_some_iff.1 hx).1
    constructor
    · intro hy
      obtain ⟨j, hj⟩ := List.mem_iff_getElem?.1 hy
      rw [List.getElem?_set] at hj
      by_cases e : pos k L = j
      · rw [if_pos e, if_pos hlt] at hj
        exact .inl (Option.some.inj hj).symm
      · rw [if_neg e] at hj
        refine .inr ⟨List.mem_of_getElem? hj, fun e2 => ?_⟩
        rcases Nat.lt_or_gt_of_ne e with h1 | h1
        · have := rise_lt hr h1 hx hj; omega
        · have := rise_lt hr h1 hj hx; omega
    · rintro (rfl | ⟨hy, hne⟩)
      · exact List.mem_iff_getElem?.2 ⟨pos k L, by rw [List.getElem?_set, if_pos rfl, if_pos hlt]⟩
      · obtain ⟨j, hj⟩ := List.mem_iff_getElem?.1 hy
        refine List.mem_iff_getElem?.2 ⟨j, ?_⟩
        rw [List.getElem?_set, if_neg]
        · exact hj
        · rintro rfl
          rw [hx] at hj
          cases hj
          exact hne hk
  · rw [if_neg h]
    have hno := isAt_false hr h
    rw [insAt_mem]
    constructor
    · rintro (hy | rfl)
      · exact .inr ⟨hy, hno y hy⟩
      · exact .inl rfl
    · rintro (rfl | ⟨hy, _⟩)
      · exact .inr rfl
      · exact .inl hy
theorem del_iff {L : List Ent} (hr : Rise L) {k : Int} {y : Ent} : y ∈ delL k L ↔ y ∈ L ∧ y.1 ≠ k := by
  refine ⟨fun h => del_mem hr k h, fun ⟨hy, hne⟩ => ?_⟩
  unfold delL
  split
  · rename_i h
    obtain ⟨x, hx, hk⟩ := isAt_true h
    obtain ⟨j, hj⟩ := List.mem_iff_getElem?.1 hy
    refine List.mem_eraseIdx_iff_getElem?.2 ⟨j, ?_, hj⟩
    rintro rfl
    rw [hx] at hj
    cases hj
    exact hne hk
  · exact hy
theorem rise_ext : ∀ {L M : List Ent}, Rise L → Rise M → (∀ y, y ∈ L ↔ y ∈ M) → L = M
  | [], [], _, _, _ => rfl
  | [], b :: M, _, _, h => absurd ((h b).2 (List.mem_cons_self ..)) (by simp)
  | a :: L, [], _, _, h => absurd ((h a).1 (List.mem_cons_self ..)) (by simp)
  | a :: L, b :: M, hL, hM, h => by
    unfold Rise at hL hM
    rw [List.pairwise_cons] at hL hM
    have hab : a = b := by
      rcases List.mem_cons.1 ((h a).1 (List.mem_cons_self ..)) with e | h1
      · exact e
      · rcases List.mem_cons.1 ((h b).2 (List.mem_cons_self ..)) with e | h2
        · exact e.symm
        · have := hM.1 a h1; have := hL.1 b h2; omega
    subst hab
    rw [rise_ext (L := L) (M := M) hL.2 hM.2 fun y => ?_]
    constructor
    · intro hy
      rcases List.mem_cons.1 ((h y).1 (List.mem_cons_of_mem _ hy)) with e | h1
      · have := hL.1 y hy; rw [e] at this; omega
      · exact h1
    · intro hy
      rcases List.mem_cons.1 ((h y).2 (List.mem_cons_of_mem _ hy)) with e | h1
      · have := hM.1 y hy; rw [e] at this; omega
      · exact h1
/-- the last value of a key -/
def lastV (k : Int) : List Ent → Option Int
  | [] => none
  | x :: l => match lastV k l with
    | some v => some v
    | none => if x.1 = k then some x.2 else none
theorem lastV_cons (k : Int) (x : Ent) (l : List Ent) : lastV k (x :: l) = match lastV k l with | some v => some v | none => if x.1 = k then some x.2 else none := rfl
def puts (rows : List Ent) (L : List Ent) : List Ent := rows.foldl (fun L x => putL x.1 x.2 L) L
theorem puts_rise : ∀ {rows L : List Ent}, Rise L → Rise (puts rows L)
  | [], _, h => h
  | x :: rows, L, h => puts_rise (rows := rows) (rise_put h x.1 x.2)
theorem puts_mem : ∀ {rows L : List Ent}, Rise L → ∀ y, y ∈ puts rows L ↔ lastV y.1 rows = some y.2 ∨ (lastV y.1 rows = none ∧ y ∈ L)
  | [], _, _, y => by simp [puts, lastV]
  | x :: rows, L, hr, y => by
    show y ∈ puts rows (putL x.1 x.2 L) ↔ _
    rw [puts_mem (rise_put hr x.1 x.2), put_iff hr, lastV_cons]
    cases lastV y.1 rows with
    | some v => simp
    | none =>
      obtain ⟨a, b⟩ := y
      obtain ⟨c, d⟩ := x
      by_cases e : c = a
      · subst e
        simp only [if_true, Option.some.injEq, Prod.mk.injEq, true_and, ne_eq, not_true, and_false, or_false, reduceCtorEq, false_or, false_and]
        exact eq_comm
      · have e2 : ¬ a = c := fun h => e h.symm
        simp [e, e2]
theorem puts_snoc (rows : List Ent) (x : Ent) (L : List Ent) : puts (rows ++ [x]) L = putL x.1 x.2 (puts rows L) := by unfold puts; rw [List.foldl_append]; rfl
theorem puts_len : ∀ (rows L : List Ent), (puts rows L).length ≤ L.length + rows.length
  | [], _ => Nat.le_refl _
  | x :: rows, L => by
    have h1 := puts_len rows (putL x.1 x.2 L)
    have h2 : (putL x.1 x.2 L).length ≤ L.length + 1 := by rw [put_len]; split <;> omega
    show (puts rows (putL x.1 x.2 L)).length ≤ _
    rw [List.length_cons]; omega
/-- what a suffix makes, from behind -/
structure Suf (rows L : List Ent) (S : List Int) : Prop where
  so : Rise L
  mem : ∀ y, y ∈ L ↔ lastV y.1 rows = some y.2
  key : ∀ k, k ∈ S ↔ ¬ lastV k rows = none
  len : L.length = S.length
theorem Suf.nil : Suf [] [] [] := ⟨.nil, fun y => by simp [lastV], fun k => by simp [lastV], rfl⟩
theorem Suf.seen {rows L : List Ent} {S : List Int} (h : Suf rows L S) {x : Ent} (hx : x.1 ∈ S) : Suf (x :: rows) L S := by
  have hl : ∀ k, lastV k (x :: rows) = lastV k rows := fun k => by
    show (match lastV k rows with | some v => some v | none => if x.1 = k then some x.2 else none) = _
    cases hk : lastV k rows with
    | some v => rfl
    | none =>
      show (if x.1 = k then some x.2 else none) = none
      rw [if_neg]
      rintro rfl
      exact (h.key _).1 hx hk
  exact ⟨h.so, fun y => by rw [hl]; exact h.mem y, fun k => by rw [hl]; exact h.key k, h.len⟩
theorem Suf.not {rows L : List Ent} {S : List Int} (h : Suf rows L S) {k : Int} (hk : k ∉ S) : isAt k L = false := by
  cases hi : isAt k L with
  | false => rfl
  | true =>
    obtain ⟨y, hy, rfl⟩ := (isAt_mem h.so).1 hi
    exact absurd ((h.key _).2 (by rw [(h.mem y).1 hy]; simp)) hk
theorem Suf.fresh {rows L : List Ent} {S : List Int} (h : Suf rows L S) {x : Ent} (hx : x.1 ∉ S) (w : Int) : Suf (x :: rows) (putL x.1 x.2 (delL x.1 (putL x.1 w L))) (S ++ [x.1]) ∧ (putL x.1 w L).length = L.length + 1 ∧ (delL x.1 (putL x.1 w L)).length = L.length ∧ isAt x.1 (delL x.1 (putL x.1 w L)) = false := by
  have hno := h.not hx
  have r1 := rise_put h.so x.1 w
  have r2 := rise_del r1 x.1
  have hin1 : isAt x.1 (putL x.1 w L) = true := (isAt_mem r1).2 ⟨(x.1, w), (put_iff h.so).2 (.inl rfl), rfl⟩
  have hno2 : isAt x.1 (delL x.1 (putL x.1 w L)) = false := by
    cases hi : isAt x.1 (delL x.1 (putL x.1 w L)) with
    | false => rfl
    | true =>
      obtain ⟨y, hy, e⟩ := (isAt_mem r2).1 hi
      exact absurd e ((del_iff r1).1 hy).2
  have l1 : (putL x.1 w L).length = L.length + 1 := by rw [put_len, hno]; rfl
  have l2 : (delL x.1 (putL x.1 w L)).length = L.length := by rw [del_len, if_pos hin1, l1]; omega
  have hxn : lastV x.1 rows = none := Classical.byContradiction fun hc => hx ((h.key _).2 hc)
  have hl : ∀ k, lastV k (x :: rows) = if x.1 = k then some x.2 else lastV k rows := fun k => by
    show (match lastV k rows with | some v => some v | none => if x.1 = k then some x.2 else none) = _
    by_cases e : x.1 = k
    · subst e; rw [hxn]
    · rw [if_neg e, if_neg e]
      cases lastV k rows <;> rfl
  refine ⟨⟨rise_put r2 _ _, fun y => ?_, fun k => ?_, ?_⟩, l1, l2, hno2⟩
  · rw [put_iff r2, del_iff r1, put_iff h.so, h.mem, hl]
    obtain ⟨a, b⟩ := y
    obtain ⟨c, d⟩ := x
    by_cases e : c = a
    · subst e; simp; exact eq_comm
    · have e2 : ¬ a = c := fun h => e h.symm
      simp [e, e2]
  · rw [hl, List.mem_append, List.mem_singleton, h.key]
    by_cases e : x.1 = k
    · subst e; simp
    · have e2 : ¬ k = x.1 := fun h => e h.symm
      simp [e, e2]
  · rw [put_len, hno2, List.length_append, l2, h.len]; rfl
theorem Suf.same {rows L : List Ent} {S : List Int} (h : Suf rows L S) : puts rows [] = L :=
  rise_ext (puts_rise .nil) h.so fun y => by
    rw [puts_mem .nil, h.mem]
    simp
/-! ### A map of what was seen -/
structure Seen (es : List DEntry) (S : List Int) : Prop where
  len : es.length = S.length
  at' : ∀ (i : Nat) (k : Int), S[i]? = some k → ∃ e : DEntry, es[i]? = some e ∧ e.key = .int .i64 k ∧ e.val = .bool true
theorem Seen.nil : Seen [] [] := ⟨rfl, fun i k h => by simp at h⟩
theorem Seen.snoc {es : List DEntry} {S : List Int} (h : Seen es S) (k : Int) (b : Nat) : Seen (es ++ [{ key := .int .i64 k, val := .bool true, born := b }]) (S ++ [k]) := by
  refine ⟨by simp [h.len], fun i k' hi => ?_⟩
  by_cases hl : i < S.length
  · rw [List.getElem?_append_left hl] at hi
    rw [List.getElem?_append_left (by rw [h.len]; exact hl)]
    exact h.at' i k' hi
  · rw [List.getElem?_append_right (by omega)] at hi
    rw [List.getElem?_append_right (by rw [h.len]; omega), h.len]
    obtain ⟨h1, h2⟩ := List.getElem?_eq_some_iff.1 hi
    have h0 : i - S.length = 0 := by simp at h1; omega
    rw [h0] at hi ⊢
    simp at hi
    subst hi
    exact ⟨_, rfl, rfl, rfl⟩
theorem key_eq (a b : Int) : keyEq .num (.int .i64 a) (.int .i64 b) = some (decide (a = b)) := by simp [keyEq]
theorem seen_find : ∀ {es : List DEntry} {S : List Int}, Seen es S → ∀ (k : Int) (n : Nat), (k ∉ S ∧ findE .num (.int .i64 k) es n = some none) ∨ (k ∈ S ∧ ∃ (j : Nat) (e : DEntry), findE .num (.int .i64 k) es n = some (some (j, e)) ∧ e.val = .bool true)
  | [], [], _, k, n => .inl ⟨by simp, rfl⟩
  | [], _ :: _, h, _, _ => absurd h.len (by simp)
  | _ :: _, [], h, _, _ => absurd h.len (by simp)
  | e :: es, a :: S, h, k, n => by
    obtain ⟨e', he, hk, hv⟩ := h.at' 0 a rfl
    simp at he
    subst he
    have h' : Seen es S := ⟨by have := h.len; simpa using this, fun i k hi => by have := h.at' (i + 1) k (by simpa using hi); simpa using this⟩
    have e1 : keyEq .num (.int .i64 k) e.key = some (decide (k = a)) := by rw [hk]; exact key_eq k a
    unfold findE
    rw [e1]
    by_cases hka : k = a
    · subst hka
      simp only [decide_true]
      exact .inr ⟨List.mem_cons_self .., n, e, rfl, hv⟩
    · simp only [hka, decide_false]
      rcases seen_find h' k (n + 1) with ⟨h1, h2⟩ | ⟨h1, h2⟩
      · exact .inl ⟨by simp [hka, h1], h2⟩
      · exact .inr ⟨List.mem_cons_of_mem _ h1, h2⟩
end Go.Dx.St
