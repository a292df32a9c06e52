/- The seat's functions, one after the other. -/
import Derived.Test.YtlpjlananbjgcaaDxSt
import Derived.Test.YtlpjlananbjgcaaDxOut
import Derived.Test.YtlpjlananbjgcaaDxSorted
import Derived.Test.YtlpjlananbjgcaaDxRow
import Derived.Test.YtlpjlananbjgcaaDxTopM
import Derived.Test.YtlpjlananbjgcaaO1It
import Derived.Test.YtlpjlananbjgcaaO1Fn
/- The number in a cell; entries as rows of cells. No program in sight. -/
namespace Go.Dx
open Go
def numV : Option Value → Int
  | some (.int _ n) => n
  | _ => 0
end Go.Dx
namespace Go.Dx.OvA
open Go Go.Dx Go.Dx.Search Go.Dx.St
def entV (L : List Ent) : List (List Value) := L.map fun x => [.int .i64 x.1, .int .i64 x.2]
theorem entV_ok (L : List Ent) : RowsOk 2 (entV L) := ⟨fun x hx => by obtain ⟨y, _, rfl⟩ := List.mem_map.1 hx; rfl, fun x hx => by obtain ⟨y, _, rfl⟩ := List.mem_map.1 hx; rfl⟩
theorem entV_len (L : List Ent) : (entV L).length = L.length := List.length_map ..
end Go.Dx.OvA
/- Entries by rising keys: what they are after puts in two orders. No program in sight. -/
set_option linter.unusedVariables false
set_option linter.unusedSimpArgs false
set_option linter.unusedSectionVars false
namespace Go.Dx.St
open Go Go.Dx Go.Dx.Search
theorem put_iff {L : List Ent} (hr : Rise L) {k v : Int} {y : Ent} : y ∈ putL k v L ↔ y = (k, v) ∨ (y ∈ L ∧ y.1 ≠ k) := by
  unfold putL
  by_cases h : isAt k L = true
  · rw [if_pos h]
    obtain ⟨x, hx, hk⟩ := isAt_true h
    have hlt := (List.getElem?_eq_some_iff.1 hx).1
    constructor
    · intro hy
      obtain ⟨j, hj⟩ := List.mem_iff_getElem?.1 hy
      rw [List.getElem?_set] at hj
      by_cases e : pos k L = j
      · rw [if_pos e, if_pos hlt] at hj
        exact .inl (Option.some.inj hj).symm
      · rw [if_neg e] at hj
        refine .inr ⟨List.mem_of_getElem? hj, fun e2 => ?_⟩
        rcases Nat.lt_or_gt_of_ne e with h1 | h1
        · have := rise_lt hr h1 hx hj; omega
        · have := rise_lt hr h1 hj hx; omega
    · rintro (rfl | ⟨hy, hne⟩)
      · exact List.mem_iff_getElem?.2 ⟨pos k L, by rw [List.getElem?_set, if_pos rfl, if_pos hlt]⟩
      · obtain ⟨j, hj⟩ := List.mem_iff_getElem?.1 hy
        refine List.mem_iff_getElem?.2 ⟨j, ?_⟩
        rw [List.getElem?_set, if_neg]
        · exact hj
        · rintro rfl
          rw [hx] at hj
          cases hj
          exact hne hk
  · rw [if_neg h]
    have hno := isAt_false hr h
    rw [insAt_mem]
    constructor
    · rintro (hy | rfl)
      · exact .inr ⟨hy, hno y hy⟩
      · exact .inl rfl
    · rintro (rfl | ⟨hy, _⟩)
      · exact .inr rfl
      · exact .inl hy
theorem del_iff {L : List Ent} (hr : Rise L) {k : Int} {y : Ent} : y ∈ delL k L ↔ y ∈ L ∧ y.1 ≠ k := by
  refine ⟨fun h => del_mem hr k h, fun ⟨hy, hne⟩ => ?_⟩
  unfold delL
  split
  · rename_i h
    obtain ⟨x, hx, hk⟩ := isAt_true h
    obtain ⟨j, hj⟩ := List.mem_iff_getElem?.1 hy
    refine List.mem_eraseIdx_iff_getElem?.2 ⟨j, ?_, hj⟩
    rintro rfl
    rw [hx] at hj
    cases hj
    exact hne hk
  · exact hy
theorem rise_ext : ∀ {L M : List Ent}, Rise L → Rise M → (∀ y, y ∈ L ↔ y ∈ M) → L = M
  | [], [], _, _, _ => rfl
  | [], b :: M, _, _, h => absurd ((h b).2 (List.mem_cons_self ..)) (by simp)
  | a :: L, [], _, _, h => absurd ((h a).1 (List.mem_cons_self ..)) (by simp)
  | a :: L, b :: M, hL, hM, h => by
    unfold Rise at hL hM
    rw [List.pairwise_cons] at hL hM
    have hab : a = b := by
      rcases List.mem_cons.1 ((h a).1 (List.mem_cons_self ..)) with e | h1
      · exact e
      · rcases List.mem_cons.1 ((h b).2 (List.mem_cons_self ..)) with e | h2
        · exact e.symm
        · have := hM.1 a h1; have := hL.1 b h2; omega
    subst hab
    rw [rise_ext (L := L) (M := M) hL.2 hM.2 fun y => ?_]
    constructor
    · intro hy
      rcases List.mem_cons.1 ((h y).1 (List.mem_cons_of_mem _ hy)) with e | h1
      · have := hL.1 y hy; rw [e] at this; omega
      · exact h1
    · intro hy
      rcases List.mem_cons.1 ((h y).2 (List.mem_cons_of_mem _ hy)) with e | h1
      · have := hM.1 y hy; rw [e] at this; omega
      · exact h1
/-- the last value of a key -/
def lastV (k : Int) : List Ent → Option Int
  | [] => none
  | x :: l => match lastV k l with
    | some v => some v
    | none => if x.1 = k then some x.2 else none
def puts (rows : List Ent) (L : List Ent) : List Ent := rows.foldl (fun L x => putL x.1 x.2 L) L
/-- what a suffix makes, from behind -/
structure Suf (rows L : List Ent) (S : List Int) : Prop where
  so : Rise L
  mem : ∀ y, y ∈ L ↔ lastV y.1 rows = some y.2
  key : ∀ k, k ∈ S ↔ ¬ lastV k rows = none
  len : L.length = S.length
structure Seen (es : List DEntry) (S : List Int) : Prop where
  len : es.length = S.length
  at' : ∀ (i : Nat) (k : Int), S[i]? = some k → ∃ e : DEntry, es[i]? = some e ∧ e.key = .int .i64 k ∧ e.val = .bool true
theorem key_eq (a b : Int) : keyEq .num (.int .i64 a) (.int .i64 b) = some (decide (a = b)) := by simp [keyEq]
end Go.Dx.St
/- Changes that are put off, and what is shown then: entries by rising keys. No program in sight. -/
set_option linter.unusedVariables false
set_option linter.unusedSimpArgs false
set_option linter.unusedSectionVars false
namespace Go.Dx.St
open Go Go.Dx Go.Dx.Search
/-- a change: key, value, gone -/
abbrev Chg := Int × Int × Bool
/-- the map's rows, each with the time of its birth -/
abbrev Chs := List (Chg × Nat)
def chV (c : Chg) : Value := .agg ⟨[.int .i64 c.1, .int .i64 c.2.1, .bool c.2.2]⟩
def chE (x : Chg × Nat) : DEntry := { key := .int .i64 x.1.1, val := chV x.1, born := x.2 }
structure ChsOk (M : Chs) (clock : Nat) : Prop where
  keys : (M.map fun x => x.1.1).Nodup
  rng : ∀ x, x ∈ M → I64 x.1.1
  lt : ∀ x, x ∈ M → x.2 < clock
  born : (M.map (·.2)).Nodup
theorem ChsOk.nil {clock : Nat} : ChsOk [] clock := ⟨.nil, fun _ h => (nomatch h), fun _ h => (nomatch h), .nil⟩
theorem chs_find : ∀ (M : Chs) (k : Int) (n : Nat), (findE .num (.int .i64 k) (M.map chE) n = some none ∧ ∀ x, x ∈ M → x.1.1 ≠ k) ∨ ∃ (j : Nat) (x : Chg × Nat), findE .num (.int .i64 k) (M.map chE) n = some (some (n + j, chE x)) ∧ M[j]? = some x ∧ x.1.1 = k
  | [], _, _ => .inl ⟨rfl, fun _ h => (nomatch h)⟩
  | x :: M, k, n => by
    have e1 : keyEq .num (.int .i64 k) (chE x).key = some (decide (k = x.1.1)) := key_eq k x.1.1
    simp only [List.map_cons]
    unfold findE
    rw [e1]
    by_cases c : k = x.1.1
    · simp only [c, decide_true]
      exact .inr ⟨0, x, rfl, rfl, rfl⟩
    · simp only [c, decide_false]
      rcases chs_find M k (n + 1) with ⟨h1, h2⟩ | ⟨j, y, h1, h2, h3⟩
      · refine .inl ⟨h1, fun y hy => ?_⟩
        rcases List.mem_cons.1 hy with rfl | hy
        · exact fun e => c e.symm
        · exact h2 y hy
      · refine .inr ⟨j + 1, y, ?_, by simpa using h2, h3⟩
        rw [h1]
        congr 3
        omega
theorem chs_set : ∀ (M : Chs) (j : Nat) (x : Chg × Nat) (c : Chg), M[j]? = some x → c.1 = x.1.1 → setVal (M.map chE) j (chV c) = (M.set j (c, x.2)).map chE
  | [], _, _, _, h, _ => by simp at h
  | y :: M, 0, x, c, h, hc => by
    simp at h; subst h
    simp only [List.map_cons, setVal, List.set_cons_zero, chE, hc]
  | y :: M, j + 1, x, c, h, hc => by
    simp only [List.map_cons, setVal, List.set_cons_succ]
    rw [chs_set M j x c (by simpa using h) hc]
theorem chs_drop : ∀ (M : Chs) (j : Nat), dropE (M.map chE) j = (M.eraseIdx j).map chE
  | [], _ => by simp [dropE]
  | y :: M, 0 => by simp [dropE]
  | y :: M, j + 1 => by simp only [List.map_cons, dropE, List.eraseIdx_cons_succ]; rw [chs_drop M j]
theorem chs_app (M : Chs) (c : Chg) (clock : Nat) : M.map chE ++ [{ key := .int .i64 c.1, val := chV c, born := clock }] = (M ++ [(c, clock)]).map chE := by simp [chE]
section
variable {M : Chs} {clock : Nat}
theorem ChsOk.app (h : ChsOk M clock) {c : Chg} (hn : ∀ x, x ∈ M → x.1.1 ≠ c.1) (hr : I64 c.1) : ChsOk (M ++ [(c, clock)]) (clock + 1) := by
  refine ⟨?_, ?_, ?_, ?_⟩
  · rw [List.map_append]
    refine List.nodup_append.2 ⟨h.keys, by simp, fun a ha b hb => ?_⟩
    simp at hb; subst hb
    obtain ⟨x, hx, rfl⟩ := List.mem_map.1 ha
    exact hn x hx
  · intro x hx
    rcases List.mem_append.1 hx with hx | hx
    · exact h.rng x hx
    · simp at hx; subst hx; exact hr
  · intro x hx
    rcases List.mem_append.1 hx with hx | hx
    · have := h.lt x hx; omega
    · simp at hx; subst hx; exact Nat.lt_succ_self _
  · rw [List.map_append]
    refine List.nodup_append.2 ⟨h.born, by simp, fun a ha b hb => ?_⟩
    simp at hb; subst hb
    obtain ⟨x, hx, rfl⟩ := List.mem_map.1 ha
    exact fun e => by have := h.lt x hx; omega
theorem map_set_same {α β : Type} (f : α → β) : ∀ (l : List α) (j : Nat) (x y : α), l[j]? = some x → f y = f x → (l.set j y).map f = l.map f
  | [], _, _, _, h, _ => by simp at h
  | a :: l, 0, x, y, h, e => by simp at h; subst h; simp [e]
  | a :: l, j + 1, x, y, h, e => by
    simp only [List.set_cons_succ, List.map_cons]
    rw [map_set_same f l j x y (by simpa using h) e]
theorem ChsOk.set (h : ChsOk M clock) {j : Nat} {x : Chg × Nat} (hj : M[j]? = some x) {c : Chg} (hc : c.1 = x.1.1) : ChsOk (M.set j (c, x.2)) clock := by
  have hk := map_set_same (fun x : Chg × Nat => x.1.1) M j x (c, x.2) hj hc
  have hb := map_set_same (fun x : Chg × Nat => x.2) M j x (c, x.2) hj rfl
  have hm : ∀ y, y ∈ M.set j (c, x.2) → y ∈ M ∨ y = (c, x.2) := fun y hy => List.mem_or_eq_of_mem_set hy
  have hxm := List.mem_of_getElem? hj
  refine ⟨by rw [hk]; exact h.keys, fun y hy => ?_, fun y hy => ?_, by rw [hb]; exact h.born⟩
  · rcases hm y hy with hy | rfl
    · exact h.rng y hy
    · show I64 c.1
      rw [hc]; exact h.rng x hxm
  · rcases hm y hy with hy | rfl
    · exact h.lt y hy
    · exact h.lt x hxm
theorem ChsOk.drop (h : ChsOk M clock) (j : Nat) : ChsOk (M.eraseIdx j) clock :=
  have hs := List.eraseIdx_sublist M j
  ⟨(hs.map _).nodup h.keys, fun x hx => h.rng x (hs.subset hx), fun x hx => h.lt x (hs.subset hx), (hs.map _).nodup h.born⟩
/-- one row for each key -/
theorem ChsOk.uniq (h : ChsOk M clock) {i j : Nat} {x y : Chg × Nat} (hx : M[i]? = some x) (hy : M[j]? = some y) (e : x.1.1 = y.1.1) : i = j := by
  have h1 : (M.map fun x => x.1.1)[i]? = some x.1.1 := by simp [hx]
  have h2 : (M.map fun x => x.1.1)[j]? = some x.1.1 := by simp [hy, e]
  exact (List.getElem?_inj (by simpa using (List.getElem?_eq_some_iff.1 hx).1) h.keys).1 (h1.trans h2.symm)
theorem ChsOk.uniq' (h : ChsOk M clock) {x y : Chg × Nat} (hx : x ∈ M) (hy : y ∈ M) (e : x.1.1 = y.1.1) : x = y := by
  obtain ⟨i, hi⟩ := List.mem_iff_getElem?.1 hx
  obtain ⟨j, hj⟩ := List.mem_iff_getElem?.1 hy
  have := h.uniq hi hj e
  subst this
  rw [hi] at hj
  exact Option.some.inj hj
/-- the changes alone -/
def Has (M : Chs) (c : Chg) : Prop := ∃ b, (c, b) ∈ M
theorem has_app {c c' : Chg} {b : Nat} : Has (M ++ [(c, b)]) c' ↔ Has M c' ∨ c' = c := by
  unfold Has
  constructor
  · rintro ⟨b', h⟩
    rcases List.mem_append.1 h with h | h
    · exact .inl ⟨b', h⟩
    · simp at h; exact .inr h.1
  · rintro (⟨b', h⟩ | rfl)
    · exact ⟨b', List.mem_append_left _ h⟩
    · exact ⟨b, by simp⟩
theorem has_set (h : ChsOk M clock) {j : Nat} {x : Chg × Nat} (hj : M[j]? = some x) {c c' : Chg} (hc : c.1 = x.1.1) : Has (M.set j (c, x.2)) c' ↔ c' = c ∨ (Has M c' ∧ c'.1 ≠ c.1) := by
  have hlt := (List.getElem?_eq_some_iff.1 hj).1
  unfold Has
  constructor
  · rintro ⟨b, hb⟩
    obtain ⟨i, hi⟩ := List.mem_iff_getElem?.1 hb
    rw [List.getElem?_set] at hi
    by_cases e : j = i
    · rw [if_pos e, if_pos hlt] at hi
      simp at hi
      exact .inl hi.1.symm
    · rw [if_neg e] at hi
      refine .inr ⟨⟨b, List.mem_of_getElem? hi⟩, fun e2 => e ?_⟩
      exact h.uniq hj hi (by rw [← hc]; exact e2.symm)
  · rintro (rfl | ⟨⟨b, hb⟩, hne⟩)
    · exact ⟨x.2, List.mem_iff_getElem?.2 ⟨j, by rw [List.getElem?_set, if_pos rfl, if_pos hlt]⟩⟩
    · obtain ⟨i, hi⟩ := List.mem_iff_getElem?.1 hb
      refine ⟨b, List.mem_iff_getElem?.2 ⟨i, ?_⟩⟩
      rw [List.getElem?_set, if_neg]
      · exact hi
      · rintro rfl
        rw [hj] at hi
        cases hi
        exact hne hc.symm
theorem has_drop (h : ChsOk M clock) {j : Nat} {x : Chg × Nat} (hj : M[j]? = some x) {c' : Chg} : Has (M.eraseIdx j) c' ↔ Has M c' ∧ c'.1 ≠ x.1.1 := by
  unfold Has
  constructor
  · rintro ⟨b, hb⟩
    refine ⟨⟨b, List.mem_of_mem_eraseIdx hb⟩, fun e => ?_⟩
    rw [List.mem_eraseIdx_iff_getElem?] at hb
    obtain ⟨i, hi, hy⟩ := hb
    exact hi (h.uniq hy hj e)
  · rintro ⟨⟨b, hb⟩, hne⟩
    obtain ⟨i, hi⟩ := List.mem_iff_getElem?.1 hb
    refine ⟨b, List.mem_eraseIdx_iff_getElem?.2 ⟨i, ?_, hi⟩⟩
    rintro rfl
    rw [hj] at hi
    cases hi
    exact hne rfl
theorem has_at {x : Chg × Nat} {j : Nat} (hj : M[j]? = some x) : Has M x.1 := ⟨x.2, List.mem_of_getElem? hj⟩
end
/-- these changes of B show T -/
structure Shows (B : List Ent) (M : Chs) (T : List Ent) : Prop where
  so : Rise T
  un : ∀ k, (∀ c, Has M c → c.1 ≠ k) → ∀ v, (k, v) ∈ T ↔ (k, v) ∈ B
  put : ∀ c, Has M c → c.2.2 = false → (c.1, c.2.1) ∈ T
  gone : ∀ c, Has M c → c.2.2 = true → c.2.1 = 0 ∧ (∀ v, (c.1, v) ∉ T) ∧ ∃ v, (c.1, v) ∈ B
theorem Shows.nil {B : List Ent} (h : Rise B) : Shows B [] B :=
  ⟨h, fun _ _ _ => .rfl, fun c ⟨_, h⟩ => (nomatch h), fun c ⟨_, h⟩ => (nomatch h)⟩
theorem isAt_iff {L : List Ent} (hr : Rise L) {k : Int} : isAt k L = true ↔ ∃ v, (k, v) ∈ L := by
  rw [isAt_mem hr]
  constructor
  · rintro ⟨⟨a, b⟩, hx, rfl⟩; exact ⟨b, hx⟩
  · rintro ⟨v, h⟩; exact ⟨_, h, rfl⟩
theorem rise_uniq {L : List Ent} (hr : Rise L) {k v w : Int} (h1 : (k, v) ∈ L) (h2 : (k, w) ∈ L) : v = w := by
  obtain ⟨i, hi⟩ := List.mem_iff_getElem?.1 h1
  obtain ⟨j, hj⟩ := List.mem_iff_getElem?.1 h2
  rcases Nat.lt_trichotomy i j with h | h | h
  · have := rise_lt hr h hi hj; simp at this
  · subst h; rw [hi] at hj; simpa using hj
  · have := rise_lt hr h hj hi; simp at this
theorem bool_iff {a b : Bool} (h : a = true ↔ b = true) : a = b := by cases a <;> cases b <;> simp_all
section
variable {B T : List Ent} {M M' : Chs} {clock : Nat}
theorem Shows.isAt_un (h : Shows B M T) (hB : Rise B) {k : Int} (hn : ∀ x, x ∈ M → x.1.1 ≠ k) : isAt k T = isAt k B := by
  refine bool_iff ?_
  rw [isAt_iff h.so, isAt_iff hB]
  have := h.un k fun c ⟨b, hb⟩ => hn _ hb
  exact ⟨fun ⟨v, hv⟩ => ⟨v, (this v).1 hv⟩, fun ⟨v, hv⟩ => ⟨v, (this v).2 hv⟩⟩
theorem Shows.isAt_ch (h : Shows B M T) {c : Chg} (hc : Has M c) : isAt c.1 T = !c.2.2 := by
  cases hg : c.2.2 with
  | false => exact (isAt_iff h.so).2 ⟨_, h.put c hc hg⟩
  | true =>
    cases hi : isAt c.1 T with
    | false => rfl
    | true =>
      obtain ⟨v, hv⟩ := (isAt_iff h.so).1 hi
      exact absurd hv ((h.gone c hc hg).2.1 v)
/-- a put -/
theorem Shows.putC (h : Shows B M T) {k v : Int} (hM : ∀ c', Has M' c' ↔ c' = (k, v, false) ∨ (Has M c' ∧ c'.1 ≠ k)) : Shows B M' (putL k v T) := by
  refine ⟨rise_put h.so k v, fun j hj w => ?_, fun c hc hg => ?_, fun c hc hg => ?_⟩
  · have hjk : k ≠ j := hj _ ((hM (k, v, false)).2 (.inl rfl))
    rw [put_iff h.so]
    have h2 : ∀ c, Has M c → c.1 ≠ j := fun c hc e => by
      by_cases e2 : c.1 = k
      · exact hjk (e2.symm.trans e)
      · exact hj c ((hM c).2 (.inr ⟨hc, e2⟩)) e
    rw [← h.un j h2 w]
    constructor
    · rintro (e | ⟨h1, _⟩)
      · simp at e; exact absurd e.1.symm hjk
      · exact h1
    · exact fun h1 => .inr ⟨h1, fun e => hjk e.symm⟩
  · rw [put_iff h.so]
    rcases (hM c).1 hc with rfl | ⟨h1, h2⟩
    · exact .inl rfl
    · exact .inr ⟨h.put c h1 hg, h2⟩
  · rcases (hM c).1 hc with rfl | ⟨h1, h2⟩
    · cases hg
    · obtain ⟨a1, a2, a3⟩ := h.gone c h1 hg
      refine ⟨a1, fun w hw => ?_, a3⟩
      rcases (put_iff h.so).1 hw with e | ⟨e, _⟩
      · simp at e; exact h2 e.1
      · exact a2 w e
/-- a key that the store has is taken away -/
theorem Shows.delC (h : Shows B M T) {k : Int} (hB : ∃ v, (k, v) ∈ B) (hM : ∀ c', Has M' c' ↔ c' = (k, 0, true) ∨ (Has M c' ∧ c'.1 ≠ k)) : Shows B M' (delL k T) := by
  refine ⟨rise_del h.so k, fun j hj w => ?_, fun c hc hg => ?_, fun c hc hg => ?_⟩
  · have hjk : k ≠ j := hj _ ((hM (k, 0, true)).2 (.inl rfl))
    have h2 : ∀ c, Has M c → c.1 ≠ j := fun c hc e => by
      by_cases e2 : c.1 = k
      · exact hjk (e2.symm.trans e)
      · exact hj c ((hM c).2 (.inr ⟨hc, e2⟩)) e
    rw [del_iff h.so, ← h.un j h2 w]
    exact ⟨fun x => x.1, fun x => ⟨x, fun e => hjk e.symm⟩⟩
  · rcases (hM c).1 hc with rfl | ⟨h1, h2⟩
    · cases hg
    · exact (del_iff h.so).2 ⟨h.put c h1 hg, h2⟩
  · rcases (hM c).1 hc with rfl | ⟨h1, h2⟩
    · exact ⟨rfl, fun w hw => ((del_iff h.so).1 hw).2 rfl, hB⟩
    · obtain ⟨a1, a2, a3⟩ := h.gone c h1 hg
      exact ⟨a1, fun w hw => a2 w ((del_iff h.so).1 hw).1, a3⟩
/-- a key that the store has not is taken away -/
theorem Shows.unC (h : Shows B M T) {k : Int} (hB : ∀ v, (k, v) ∉ B) (hM : ∀ c', Has M' c' ↔ Has M c' ∧ c'.1 ≠ k) : Shows B M' (delL k T) := by
  refine ⟨rise_del h.so k, fun j hj w => ?_, fun c hc hg => ?_, fun c hc hg => ?_⟩
  · rw [del_iff h.so]
    by_cases e : j = k
    · subst e
      constructor
      · exact fun x => absurd rfl x.2
      · exact fun x => absurd x (hB w)
    · have h2 : ∀ c, Has M c → c.1 ≠ j := fun c hc e1 => hj c ((hM c).2 ⟨hc, fun e2 => e (e1.symm.trans e2)⟩) e1
      rw [← h.un j h2 w]
      exact ⟨fun x => x.1, fun x => ⟨x, e⟩⟩
  · obtain ⟨h1, h2⟩ := (hM c).1 hc
    exact (del_iff h.so).2 ⟨h.put c h1 hg, h2⟩
  · obtain ⟨h1, h2⟩ := (hM c).1 hc
    obtain ⟨a1, a2, a3⟩ := h.gone c h1 hg
    exact ⟨a1, fun w hw => a2 w ((del_iff h.so).1 hw).1, a3⟩
end
/-! ### All changes are done -/
/-- a list with fewer keys is not longer -/
theorem keys_len : ∀ {L T : List Ent}, Rise L → Rise T → (∀ x, x ∈ L → ∃ v, (x.1, v) ∈ T) → L.length ≤ T.length
  | [], _, _, _, _ => Nat.zero_le _
  | x :: L, [], _, _, h => by obtain ⟨v, hv⟩ := h x (List.mem_cons_self ..); cases hv
  | x :: L, y :: T, hL, hT, h => by
    have hL' := List.pairwise_cons.1 hL
    have hT' := List.pairwise_cons.1 hT
    rw [List.length_cons, List.length_cons]
    refine Nat.succ_le_succ (keys_len hL'.2 hT'.2 fun z hz => ?_)
    obtain ⟨v, hv⟩ := h z (List.mem_cons_of_mem _ hz)
    rcases List.mem_cons.1 hv with e | hv
    · obtain ⟨w, hw⟩ := h x (List.mem_cons_self ..)
      have h1 := hL'.1 z hz
      have h2 : z.1 = y.1 := by rw [← e]
      rcases List.mem_cons.1 hw with e2 | hw
      · have : x.1 = y.1 := by rw [← e2]
        omega
      · have := hT'.1 _ hw
        simp only at this
        omega
    · exact ⟨v, hv⟩
/-- behind the deletions of these keys -/
structure Dels (B : List Ent) (M : Chs) (ks : List Int) (L : List Ent) : Prop where
  so : Rise L
  mem : ∀ y : Ent, y ∈ L ↔ y ∈ B ∧ ¬ (y.1 ∈ ks ∧ Has M (y.1, 0, true))
theorem Dels.nil {B : List Ent} {M : Chs} (h : Rise B) : Dels B M [] B := ⟨h, fun y => by simp⟩
theorem Dels.gone {B L : List Ent} {M : Chs} {ks : List Int} (h : Dels B M ks L) {k : Int} (hk : Has M (k, 0, true)) : Dels B M (ks ++ [k]) (delL k L) := by
  refine ⟨rise_del h.so k, fun y => ?_⟩
  rw [del_iff h.so, h.mem, List.mem_append, List.mem_singleton]
  constructor
  · rintro ⟨⟨h1, h2⟩, h3⟩
    exact ⟨h1, fun ⟨h4, h5⟩ => h4.elim (fun h4 => h2 ⟨h4, h5⟩) h3⟩
  · rintro ⟨h1, h2⟩
    exact ⟨⟨h1, fun ⟨h3, h4⟩ => h2 ⟨.inl h3, h4⟩⟩, fun e => h2 ⟨.inr e, by rw [e]; exact hk⟩⟩
theorem Dels.keep {B L : List Ent} {M : Chs} {ks : List Int} (h : Dels B M ks L) {k : Int} (hk : ¬ Has M (k, 0, true)) : Dels B M (ks ++ [k]) L := by
  refine ⟨h.so, fun y => ?_⟩
  rw [h.mem, List.mem_append, List.mem_singleton]
  constructor
  · rintro ⟨h1, h2⟩
    exact ⟨h1, fun ⟨h3, h4⟩ => h3.elim (fun h3 => h2 ⟨h3, h4⟩) fun e => hk (by rw [← e]; exact h4)⟩
  · rintro ⟨h1, h2⟩
    exact ⟨h1, fun ⟨h3, h4⟩ => h2 ⟨.inl h3, h4⟩⟩
/-- behind the puts of these keys -/
structure Puts (D : List Ent) (M : Chs) (ks : List Int) (L : List Ent) : Prop where
  so : Rise L
  mem : ∀ y : Ent, y ∈ L ↔ (y.1 ∈ ks ∧ Has M (y.1, y.2, false)) ∨ (y ∈ D ∧ ∀ v, ¬ (y.1 ∈ ks ∧ Has M (y.1, v, false)))
theorem Puts.nil {D : List Ent} {M : Chs} (h : Rise D) : Puts D M [] D := ⟨h, fun y => by simp⟩
theorem Puts.put {D L : List Ent} {M : Chs} {clock : Nat} (hM : ChsOk M clock) {ks : List Int} (h : Puts D M ks L) {k v : Int} (hk : Has M (k, v, false)) : Puts D M (ks ++ [k]) (putL k v L) := by
  refine ⟨rise_put h.so k v, fun y => ?_⟩
  obtain ⟨a, b⟩ := y
  rw [put_iff h.so, h.mem]
  simp only [List.mem_append, List.mem_singleton, Prod.mk.injEq, ne_eq]
  by_cases e : a = k
  · subst e
    have hu : ∀ w, Has M (a, w, false) → w = v := fun w ⟨b1, h1⟩ => by
      obtain ⟨b2, h2⟩ := hk
      have := hM.uniq' h1 h2 rfl
      simp at this; exact this.1
    constructor
    · rintro (⟨_, rfl⟩ | ⟨_, h1⟩)
      · exact .inl ⟨.inr rfl, hk⟩
      · exact absurd rfl h1
    · rintro (⟨_, h1⟩ | ⟨_, h1⟩)
      · exact .inl ⟨rfl, hu b h1⟩
      · exact absurd ⟨.inr rfl, hk⟩ (h1 v)
  · simp only [e, or_false, false_and, false_or, not_false_eq_true, and_true]
theorem Puts.keep {D L : List Ent} {M : Chs} {ks : List Int} (h : Puts D M ks L) {k : Int} (hk : ∀ v, ¬ Has M (k, v, false)) : Puts D M (ks ++ [k]) L := by
  refine ⟨h.so, fun y => ?_⟩
  obtain ⟨a, b⟩ := y
  rw [h.mem]
  simp only [List.mem_append, List.mem_singleton]
  by_cases e : a = k
  · subst e
    constructor
    · rintro (⟨_, h1⟩ | ⟨h1, h2⟩)
      · exact absurd h1 (hk _)
      · exact .inr ⟨h1, fun v ⟨_, h3⟩ => hk v h3⟩
    · rintro (⟨_, h1⟩ | ⟨h1, h2⟩)
      · exact absurd h1 (hk _)
      · exact .inr ⟨h1, fun v ⟨_, h3⟩ => hk v h3⟩
  · simp only [e, or_false]
section
variable {B T D L : List Ent} {M : Chs} {clock : Nat}
/-- what is there at any time is a part of what is shown -/
theorem Puts.sub (hM : ChsOk M clock) (hS : Shows B M T) {ks ks' : List Int} (hall : ∀ c, Has M c → c.1 ∈ ks) (hD : Dels B M ks D) (h : Puts D M ks' L) : ∀ x, x ∈ L → ∃ v, (x.1, v) ∈ T := by
  rintro ⟨a, b⟩ hx
  rcases (h.mem _).1 hx with ⟨_, h1⟩ | ⟨h1, _⟩
  · exact ⟨b, hS.put _ h1 rfl⟩
  · obtain ⟨h2, h3⟩ := (hD.mem _).1 h1
    by_cases c : ∃ c, Has M c ∧ c.1 = a
    · obtain ⟨⟨a', v, g⟩, h4, rfl⟩ := c
      cases g with
      | false => exact ⟨v, hS.put _ h4 rfl⟩
      | true =>
        have := (hS.gone _ h4 rfl).1
        simp only at this
        subst this
        exact absurd ⟨hall _ h4, h4⟩ h3
    · exact ⟨b, (hS.un a (fun c' hc' e => c ⟨c', hc', e⟩) b).2 h2⟩
/-- when all are done, what was shown is there -/
theorem Puts.done (hM : ChsOk M clock) (hS : Shows B M T) {ks : List Int} (hall : ∀ c, Has M c → c.1 ∈ ks) (hD : Dels B M ks D) (h : Puts D M ks L) : L = T := by
  refine rise_ext h.so hS.so fun y => ?_
  obtain ⟨a, b⟩ := y
  rw [h.mem, hD.mem]
  by_cases c : ∃ c, Has M c ∧ c.1 = a
  · obtain ⟨⟨a', v, g⟩, h4, rfl⟩ := c
    have hk := hall _ h4
    simp only at hk ⊢
    have hu : ∀ w g', Has M (a', w, g') → w = v ∧ g' = g := fun w g' ⟨b1, h1⟩ => by
      obtain ⟨b2, h2⟩ := h4
      have := hM.uniq' h1 h2 rfl
      simp at this; exact this.1
    cases g with
    | false =>
      have hp := hS.put _ h4 rfl
      constructor
      · rintro (⟨_, h1⟩ | ⟨_, h1⟩)
        · rw [(hu _ _ h1).1]; exact hp
        · exact absurd ⟨hk, h4⟩ (h1 v)
      · intro h1
        have := rise_uniq hS.so h1 hp
        subst this
        exact .inl ⟨hk, h4⟩
    | true =>
      obtain ⟨h5, h6, _⟩ := hS.gone _ h4 rfl
      simp only at h5 h6
      subst h5
      constructor
      · rintro (⟨_, h1⟩ | ⟨⟨_, h1⟩, _⟩)
        · have := (hu _ _ h1).2; cases this
        · exact absurd ⟨hk, h4⟩ h1
      · exact fun h1 => absurd h1 (h6 b)
  · have hno : ∀ v g, ¬ Has M (a, v, g) := fun v g h1 => c ⟨_, h1, rfl⟩
    rw [hS.un a (fun c' hc' e => c ⟨c', hc', e⟩) b]
    constructor
    · rintro (⟨_, h1⟩ | ⟨⟨h1, _⟩, _⟩)
      · exact absurd h1 (hno _ _)
      · exact h1
    · exact fun h1 => .inr ⟨⟨h1, fun h2 => hno _ _ h2.2⟩, fun v h2 => hno _ _ h2.2⟩
end
/-! ### The keys, sorted -/
theorem keys_of : ∀ {M : Chs} {clock : Nat}, ChsOk M clock → keysOf clock (M.map chE) = some (M.map fun x => x.1.1)
  | [], _, _ => rfl
  | x :: M, clock, h => by
    have h' : ChsOk M clock := ⟨(List.pairwise_cons.1 h.keys).2, fun y hy => h.rng y (List.mem_cons_of_mem _ hy), fun y hy => h.lt y (List.mem_cons_of_mem _ hy), (List.pairwise_cons.1 h.born).2⟩
    have ih := keys_of h'
    have r := h.rng x (List.mem_cons_self ..)
    have hw : (Lit.int .i64 x.1.1).wf = true := by
      obtain ⟨r1, r2⟩ := r
      simp [Lit.wf, IntKind.min, IntKind.max, IntKind.signed, IntKind.bits]
      omega
    have hk : ((M.map fun x => x.1.1).any fun y => decide (y = x.1.1)) = false := by
      rw [List.any_eq_false]
      intro y hy e
      have := (List.pairwise_cons.1 h.keys).1 y hy
      simp at e
      exact this e.symm
    have hlt : Nat.blt x.2 clock = true := blt_true (h.lt x (List.mem_cons_self ..))
    have hb : ((M.map chE).any fun y => Nat.beq y.born x.2) = false := by
      rw [List.any_eq_false]
      intro y hy e
      obtain ⟨z, hz, rfl⟩ := List.mem_map.1 hy
      have := (List.pairwise_cons.1 h.born).1 z.2 (List.mem_map_of_mem (f := fun x : Chg × Nat => x.2) hz)
      exact this (Nat.eq_of_beq_eq_true e).symm
    simp only [List.map_cons]
    unfold keysOf
    have e1 : (chE x).key = .int .i64 x.1.1 := rfl
    rw [e1, ih]
    simp only [hw, hk, Bool.not_false, Bool.and_true, Bool.true_and]
    have e2 : (chE x).born = x.2 := rfl
    rw [e2, hlt, hb]
    rfl
/-! ### The first entry from a key on -/
def entA : Option Ent → List Value
  | some x => [.int .i64 x.1, .int .i64 x.2, .bool true]
  | none => [.int .i64 0, .int .i64 0, .bool false]
theorem pos_first {L : List Ent} (hr : Rise L) {k : Int} {x : Ent} (hx : x ∈ L) (h1 : k ≤ x.1) (h2 : ∀ y, y ∈ L → k ≤ y.1 → ¬ y.1 < x.1) : L[pos k L]? = some x := by
  obtain ⟨i, hi⟩ := List.mem_iff_getElem?.1 hx
  have hil := (List.getElem?_eq_some_iff.1 hi).1
  have : pos k L = i := pos_eq hr (by omega) (fun j y hj hy => by
    have h3 := rise_lt hr hj hy hi
    have h4 := h2 y (List.mem_of_getElem? hy)
    exact Classical.byContradiction fun h5 => h4 (by omega) h3) fun y hy => by
      rw [hi] at hy
      cases hy
      omega
  rw [this]; exact hi
theorem pos_none {L : List Ent} (hr : Rise L) {k : Int} (h : ∀ y, y ∈ L → ¬ k ≤ y.1) : L[pos k L]? = none := by
  cases hx : L[pos k L]? with
  | none => rfl
  | some x =>
    have h1 := h x (List.mem_of_getElem? hx)
    have h2 := pos_ge k L hr _ _ (Nat.le_refl _) hx
    omega
theorem first_pos {L : List Ent} (hr : Rise L) {k : Int} {x : Ent} (h : L[pos k L]? = some x) : x ∈ L ∧ k ≤ x.1 ∧ ∀ y, y ∈ L → k ≤ y.1 → ¬ y.1 < x.1 := by
  have h2 := pos_ge k L hr _ _ (Nat.le_refl _) h
  refine ⟨List.mem_of_getElem? h, by omega, fun y hy hk hlt => ?_⟩
  obtain ⟨i, hi⟩ := List.mem_iff_getElem?.1 hy
  by_cases c : i < pos k L
  · have := pos_lt k L i y c hi; omega
  · by_cases c2 : i = pos k L
    · subst c2
      rw [h] at hi
      cases hi
      omega
    · have := rise_lt hr (show pos k L < i by omega) h hi
      omega
/-- the first entry from a key on that was not changed -/
def Bel (B : List Ent) (M : Chs) (k : Int) (u : Option Ent) : Prop :=
  match u with
  | some x => x ∈ B ∧ k ≤ x.1 ∧ (∀ c, Has M c → c.1 ≠ x.1) ∧ ∀ y, y ∈ B → k ≤ y.1 → y.1 < x.1 → ∃ c, Has M c ∧ c.1 = y.1
  | none => ∀ y, y ∈ B → k ≤ y.1 → ∃ c, Has M c ∧ c.1 = y.1
section
variable {B T : List Ent} {M : Chs} {clock : Nat} {k : Int}
/-- an entry that is shown: unchanged, or put -/
theorem Shows.either (h : Shows B M T) {x : Ent} (hx : x ∈ T) : ((∀ c, Has M c → c.1 ≠ x.1) ∧ x ∈ B) ∨ ∃ c, Has M c ∧ c.1 = x.1 ∧ c.2.2 = false ∧ c.2.1 = x.2 := by
  by_cases c : ∃ c, Has M c ∧ c.1 = x.1
  · obtain ⟨c, hc, e⟩ := c
    refine .inr ⟨c, hc, e, ?_⟩
    cases hg : c.2.2 with
    | true => exact absurd hx (by have := (h.gone c hc hg).2.1 x.2; rw [e] at this; exact this)
    | false =>
      have := h.put c hc hg
      rw [e] at this
      exact ⟨rfl, rise_uniq h.so this hx⟩
  · have hno : ∀ c, Has M c → c.1 ≠ x.1 := fun c' hc' e => c ⟨c', hc', e⟩
    exact .inl ⟨hno, (h.un x.1 hno x.2).1 hx⟩
/-- no put from there on -/
theorem Shows.first_un (h : Shows B M T) {u : Option Ent} (hu : Bel B M k u) (hno : ∀ c, Has M c → k ≤ c.1 → c.2.2 = true) : T[pos k T]? = u := by
  have hel : ∀ y, y ∈ T → k ≤ y.1 → (∀ c, Has M c → c.1 ≠ y.1) ∧ y ∈ B := fun y hy hk => by
    rcases h.either hy with h1 | ⟨c, hc, e, hg, _⟩
    · exact h1
    · rw [hno c hc (by omega)] at hg; cases hg
  cases u with
  | none =>
    refine pos_none h.so fun y hy hk => ?_
    obtain ⟨h1, h2⟩ := hel y hy hk
    obtain ⟨c, hc, e⟩ := hu y h2 hk
    exact h1 c hc e
  | some x =>
    obtain ⟨u1, u2, u3, u4⟩ := hu
    refine pos_first h.so ((h.un x.1 u3 x.2).2 u1) u2 fun y hy hk hlt => ?_
    obtain ⟨h1, h2⟩ := hel y hy hk
    obtain ⟨c, hc, e⟩ := u4 y h2 hk hlt
    exact h1 c hc e
/-- the first put from there on is behind -/
theorem Shows.first_le (h : Shows B M T) {x : Ent} (hu : Bel B M k (some x)) {c : Chg} (hfst : ∀ c', Has M c' → k ≤ c'.1 → c'.2.2 = false → c.1 ≤ c'.1) (hle : ¬ c.1 < x.1) : T[pos k T]? = some x := by
  obtain ⟨u1, u2, u3, u4⟩ := hu
  refine pos_first h.so ((h.un x.1 u3 x.2).2 u1) u2 fun y hy hk hlt => ?_
  rcases h.either hy with ⟨h1, h2⟩ | ⟨c', hc, e, hg, _⟩
  · obtain ⟨c', hc', e⟩ := u4 y h2 hk hlt
    exact h1 c' hc' e
  · have := hfst c' hc (by omega) hg; omega
/-- .. or ahead -/
theorem Shows.first_put (h : Shows B M T) {u : Option Ent} (hu : Bel B M k u) {c : Chg} (hc : Has M c) (hk : k ≤ c.1) (hg : c.2.2 = false) (hfst : ∀ c', Has M c' → k ≤ c'.1 → c'.2.2 = false → c.1 ≤ c'.1) (hlt : ∀ x, u = some x → c.1 < x.1) : T[pos k T]? = some (c.1, c.2.1) := by
  refine pos_first h.so (h.put c hc hg) hk fun y hy hky hy1 => ?_
  simp only at hy1
  rcases h.either hy with ⟨h1, h2⟩ | ⟨c', hc', e, hg', _⟩
  · cases u with
    | none =>
      obtain ⟨c', hc', e⟩ := hu y h2 hky
      exact h1 c' hc' e
    | some x =>
      obtain ⟨u1, u2, u3, u4⟩ := hu
      have := hlt x rfl
      obtain ⟨c', hc', e⟩ := u4 y h2 hky (by omega)
      exact h1 c' hc' e
  · have := hfst c' hc' (by omega) hg'; omega
end
end Go.Dx.St
/- The reference's list of changes: by rising keys. No program in sight. -/
set_option linter.unusedVariables false
set_option linter.unusedSimpArgs false
set_option linter.unusedSectionVars false
namespace Go.Dx.St
open Go Go.Dx Go.Dx.Search
def chRow (c : Chg) : List Value := [.int .i64 c.1, .int .i64 c.2.1, .bool c.2.2]
def chsV (C : List Chg) : List (List Value) := C.map chRow
theorem chsV_ok (C : List Chg) : RowsOk 3 (chsV C) := ⟨fun x hx => by obtain ⟨y, _, rfl⟩ := List.mem_map.1 hx; rfl, fun x hx => by obtain ⟨y, _, rfl⟩ := List.mem_map.1 hx; rfl⟩
theorem chsV_len (C : List Chg) : (chsV C).length = C.length := List.length_map ..
theorem chsV_at {C : List Chg} {i : Nat} {c : Chg} (h : C[i]? = some c) : (chsV C)[i]? = some (chRow c) := by simp [chsV, h]
def RiseC (C : List Chg) : Prop := C.Pairwise fun a b => a.1 < b.1
/-- the changes but a key's -/
def woC (k : Int) (C : List Chg) : List Chg := C.filter fun c => !decide (c.1 = k)
/-- how many stand ahead of a key -/
def ltN (k : Int) (C : List Chg) : Nat := (C.filter fun c => decide (c.1 < k)).length
def setC (c : Chg) (C : List Chg) : List Chg := (woC c.1 C).take (ltN c.1 C) ++ c :: (woC c.1 C).drop (ltN c.1 C)
theorem woC_mem {k : Int} {C : List Chg} {c : Chg} : c ∈ woC k C ↔ c ∈ C ∧ c.1 ≠ k := by
  unfold woC
  rw [List.mem_filter]
  simp
theorem woC_rise {k : Int} {C : List Chg} (h : RiseC C) : RiseC (woC k C) := h.sublist List.filter_sublist
theorem woC_split : ∀ {C : List Chg} (k : Int), RiseC C → woC k C = (C.filter fun c => decide (c.1 < k)) ++ C.filter fun c => decide (k < c.1)
  | [], _, _ => rfl
  | a :: C, k, h => by
    have h' := List.pairwise_cons.1 h
    have ih := woC_split k h'.2
    unfold woC at ih ⊢
    by_cases h1 : a.1 < k
    · have h2 : ¬ a.1 = k := by omega
      have h3 : ¬ k < a.1 := by omega
      simp only [List.filter_cons, h1, h2, h3, decide_true, decide_false, Bool.not_false, if_true, List.cons_append]
      rw [ih]
      simp
    · have hall : (C.filter fun c => decide (c.1 < k)) = [] := List.filter_eq_nil_iff.2 fun c hc => by
        have := h'.1 c hc
        simp; omega
      by_cases h2 : a.1 = k
      · have h3 : ¬ k < a.1 := by omega
        simp only [List.filter_cons, h1, h2, decide_true, decide_false, Bool.not_true]
        rw [ih]
        simp
      · have h3 : k < a.1 := by omega
        simp only [List.filter_cons, h1, h2, h3, decide_true, decide_false, Bool.not_false, if_true]
        rw [ih, hall]
        simp
theorem setC_eq {c : Chg} {C : List Chg} (h : RiseC C) : setC c C = (C.filter fun x => decide (x.1 < c.1)) ++ c :: C.filter fun x => decide (c.1 < x.1) := by
  unfold setC ltN
  rw [woC_split c.1 h, List.take_left, List.drop_left]
theorem setC_mem {c c' : Chg} {C : List Chg} (h : RiseC C) : c' ∈ setC c C ↔ c' = c ∨ (c' ∈ C ∧ c'.1 ≠ c.1) := by
  rw [setC_eq h, List.mem_append, List.mem_cons, List.mem_filter, List.mem_filter]
  simp only [decide_eq_true_eq]
  constructor
  · rintro (⟨h1, h2⟩ | h1 | ⟨h1, h2⟩)
    · exact .inr ⟨h1, by omega⟩
    · exact .inl h1
    · exact .inr ⟨h1, by omega⟩
  · rintro (h1 | ⟨h1, h2⟩)
    · exact .inr (.inl h1)
    · by_cases h3 : c'.1 < c.1
      · exact .inl ⟨h1, h3⟩
      · exact .inr (.inr ⟨h1, by omega⟩)
theorem setC_rise {c : Chg} {C : List Chg} (h : RiseC C) : RiseC (setC c C) := by
  rw [setC_eq h]
  unfold RiseC
  rw [List.pairwise_append, List.pairwise_cons]
  refine ⟨h.sublist List.filter_sublist, ⟨fun x hx => ?_, h.sublist List.filter_sublist⟩, fun x hx y hy => ?_⟩
  · have := (List.mem_filter.1 hx).2
    simpa using this
  · have h1 := (List.mem_filter.1 hx).2
    simp at h1
    rcases List.mem_cons.1 hy with rfl | hy
    · exact h1
    · have h2 := (List.mem_filter.1 hy).2
      simp at h2
      omega
/-- the list says what the map says -/
structure Ch4 (M : Chs) (C : List Chg) : Prop where
  so : RiseC C
  mem : ∀ c, c ∈ C ↔ Has M c
theorem Ch4.nil : Ch4 [] [] := ⟨.nil, fun c => ⟨fun h => (nomatch h), fun ⟨_, h⟩ => (nomatch h)⟩⟩
theorem Ch4.put {M M' : Chs} {C : List Chg} (h : Ch4 M C) {c : Chg} (hM : ∀ c', Has M' c' ↔ c' = c ∨ (Has M c' ∧ c'.1 ≠ c.1)) : Ch4 M' (setC c C) :=
  ⟨setC_rise h.so, fun c' => by rw [setC_mem h.so, hM, h.mem]⟩
theorem Ch4.un {M M' : Chs} {C : List Chg} (h : Ch4 M C) {k : Int} (hM : ∀ c', Has M' c' ↔ Has M c' ∧ c'.1 ≠ k) : Ch4 M' (woC k C) :=
  ⟨woC_rise h.so, fun c' => by rw [woC_mem, hM, h.mem]⟩
/-- the keys, sorted, are the list's -/
theorem Ch4.keys {M : Chs} {clock : Nat} {C : List Chg} (hM : ChsOk M clock) (h : Ch4 M C) : C.map (·.1) = sortK (M.map fun x => x.1.1) := by
  have hC : (C.map (·.1)).Pairwise (· ≤ ·) := List.pairwise_map.2 (h.so.imp fun h => Int.le_of_lt h)
  refine List.Perm.eq_of_pairwise (le := fun a b : Int => a ≤ b) (fun a b _ _ h1 h2 => Int.le_antisymm h1 h2) hC (sortK_sorted _) ?_
  refine List.Perm.trans ?_ (sortK_perm _).symm
  have hn : (C.map (·.1)).Nodup := List.pairwise_map.2 (h.so.imp fun h => by omega)
  refine (List.perm_ext_iff_of_nodup hn hM.keys).2 fun k => ?_
  rw [List.mem_map, List.mem_map]
  constructor
  · rintro ⟨c, hc, rfl⟩
    obtain ⟨b, hb⟩ := (h.mem c).1 hc
    exact ⟨_, hb, rfl⟩
  · rintro ⟨x, hx, rfl⟩
    exact ⟨x.1, (h.mem x.1).2 ⟨x.2, hx⟩, rfl⟩
theorem Ch4.len {M : Chs} {clock : Nat} {C : List Chg} (hM : ChsOk M clock) (h : Ch4 M C) : C.length = M.length := by
  have := congrArg List.length (h.keys hM)
  rwa [List.length_map, (sortK_perm _).length_eq, List.length_map] at this
/-- there are not more changes than entries of both -/
theorem Ch4.few {M : Chs} {C : List Chg} {B T : List Ent} (h : Ch4 M C) (hB : Rise B) (hS : Shows B M T) : C.length ≤ B.length + T.length := by
  have hsplit : ∀ l : List Chg, l.length = (l.filter fun c => c.2.2).length + (l.filter fun c => !c.2.2).length := fun l => by
    induction l with
    | nil => rfl
    | cons a l ih =>
      simp only [List.filter_cons, List.length_cons]
      cases a.2.2 <;> simp <;> omega
  have hrise : ∀ p : Chg → Bool, Rise ((C.filter p).map fun c => (c.1, (0 : Int))) := fun p => List.pairwise_map.2 ((h.so.sublist List.filter_sublist).imp fun h => h)
  have h1 := keys_len (T := B) (hrise fun c => c.2.2) hB fun x hx => by
    obtain ⟨c, hc, rfl⟩ := List.mem_map.1 hx
    obtain ⟨hc1, hc2⟩ := List.mem_filter.1 hc
    exact (hS.gone c ((h.mem c).1 hc1) hc2).2.2
  have h2 := keys_len (T := T) (hrise fun c => !c.2.2) hS.so fun x hx => by
    obtain ⟨c, hc, rfl⟩ := List.mem_map.1 hx
    obtain ⟨hc1, hc2⟩ := List.mem_filter.1 hc
    exact ⟨_, hS.put c ((h.mem c).1 hc1) (by simpa using hc2)⟩
  rw [List.length_map] at h1 h2
  have := hsplit C
  omega
end Go.Dx.St
/- The document's answer for a store: what its functions do (made by tools/gen.py out of ref03.t). -/
set_option linter.unusedVariables false
set_option linter.unusedSimpArgs false
set_option linter.unusedSectionVars false
set_option maxRecDepth 100000
set_option maxHeartbeats 4000000
namespace Go.Dx.OvA
open Go Go.Dx Go.Dx.Search Go.Dx.St Go.Proofs.Ytlpjlananbjgcaa
theorem entV_at {L : List Ent} {i : Nat} {x : Ent} (h : L[i]? = some x) : (entV L)[i]? = some [.int .i64 x.1, .int .i64 x.2] := by simp [entV, h]
theorem entV_get0 {L : List Ent} {i : Nat} {x : Ent} (h : L[i]? = some x) : getN (entV L).flatten (i * 2) = some (.int .i64 x.1) := by
  have := flatten_get (j := 0) (entV_ok L).len (entV_at h) rfl
  rwa [Nat.add_zero] at this
theorem entV_get1 {L : List Ent} {i : Nat} {x : Ent} (h : L[i]? = some x) : getN (entV L).flatten (i * 2 + 1) = some (.int .i64 x.2) := flatten_get (j := 1) (entV_ok L).len (entV_at h) rfl
theorem appM_ok {s : DS} {sz bytes : Nat} {vx vy : Value} {lx ly : List (List Value)} {nt : List Note} {haz : List Nat} (hx : SlX s sz vx lx) (hy : SlV s sz vy ly) (ox : RowsOk sz lx) (oy : RowsOk sz ly) (hG : s.Good) (hn : lx.length + ly.length ≤ 1099511627776) (hb : (lx.length + ly.length) * bytes ≤ 1099511627776)
    (h1 : ∀ k, k ∈ blk vx → hidden nt haz k = false ∧ shielded nt haz k = false) (h2 : ∀ k, k ∈ blk vy → hidden nt haz k = false) (h3 : ∀ k, s.next ≤ k → hidden nt haz k = false ∧ shielded nt haz k = false) :
    W (appV bytes sz vx vy (mask s nt haz)) fun r => SlX (unmask s r.2) sz r.1 (lx ++ ly) ∧ Ext (blk vx) s (unmask s r.2) ∧ (∀ k, k ∈ blk r.1 → k ∈ blk vx ∨ s.next ≤ k) ∧ r.2.next = (unmask s r.2).next := by
  obtain ⟨⟨v, s1⟩, e, x, X, b⟩ := appV_ok (bytes := bytes) (hx.of (s' := mask s nt haz) fun k hk => ⟨mask_get (h1 k hk).1, fun hw => mask_wr hw (h1 k hk).1 (h1 k hk).2⟩) (hy.of (s' := mask s nt haz) fun k hk => mask_get (h2 k hk)) ox oy (mask_good hG h3) hn hb
  simp only at x X b
  have df : DFrame (mask s nt haz) s1 := write_frame e
  refine ⟨(v, s1), e, x.of fun k hk => ?_, Ext.unmask' X df, b, rfl⟩
  have hh : hidden nt haz k = false := by
    rcases b k hk with h | h
    · exact (h1 k h).1
    · exact (h3 k h).1
  refine ⟨unmask_at hh X, fun hw => ?_⟩
  rw [X.wr] at hw
  simp [mask] at hw
  exact hw.1.1
theorem entV_set {L : List Ent} {i : Nat} {k v w : Int} (h : L[i]? = some (k, w)) : setN (entV L).flatten (i * 2 + 1) (.int .i64 v) = (entV (L.set i (k, v))).flatten := by
  induction L generalizing i with
  | nil => simp at h
  | cons a L ih =>
    cases i with
    | zero =>
      simp at h
      subst h
      rfl
    | succ i =>
      have := ih (i := i) (by simpa using h)
      show setN (.int .i64 a.1 :: .int .i64 a.2 :: (entV L).flatten) ((i + 1) * 2 + 1) _ = .int .i64 a.1 :: .int .i64 a.2 :: (entV (L.set i (k, v))).flatten
      rw [show (i + 1) * 2 + 1 = (i * 2 + 1) + 1 + 1 by omega, ← this]
      rfl
structure R3Fns (E : Env) : Prop where
  fFind : E.fn 45 = some d45
  iFind : E.intr 45 = none
  fNew : E.fn 39 = some d39
  iNew : E.intr 39 = none
  fPut : E.fn 40 = some d40
  iPut : E.intr 40 = none
/-- a reference store in memory -/
structure RefS (s : DS) (q : Nat) (v : Value) (L : List Ent) (room : Int) : Prop where
  gq : s.get q = some (.cells (.list [v, .int .i64 room]) false)
  wq : s.wr q = true
  sl : SlX s 2 v (entV L)
  ne : q ∉ blk v
  so : Rise L
section
variable {s s' : DS} {q : Nat} {v : Value} {L : List Ent} {room : Int} {F : List Nat}
theorem RefS.keep (c : RefS s q v L room) (e : Ext F s s') (hq : q ∉ F) (hb : ∀ k, k ∈ blk v → k ∉ F) : RefS s' q v L room :=
  ⟨e.keep c.gq hq, e.wrs c.wq, c.sl.keep e hb, c.ne, c.so⟩
structure RFindI (s : DS) (q : Nat) (L : List Ent) (k : Int) (n : Nat) (x : St) : Prop where
  ex : ∃ i : Nat, n = L.length - i ∧ i ≤ L.length ∧ x.s = s ∧ x.defers = [] ∧ (x.t.get 0 = some (.pointer (some ⟨q, 0, none⟩)) ∧ x.t.get 1 = some (.int .i64 k) ∧ x.t.get 6 = some (.int .i64 (i : Int))) ∧ ∀ j y, j < i → L[j]? = some y → y.1 < k
variable {E : Env} (hR : R3Fns E) {d : Nat}
include hR
theorem rfind_ok (hlf : L.length < E.lf) (hl : L.length < 1000000) (c : RefS s q v L room) (k : Int) : dcall E (d + 1) (.func (.func 45) #[] #[]) [.pointer (some ⟨q, 0, none⟩), .int .i64 k] s = some (.tuple ⟨[.int .i64 (pos k L : Int), .bool (isAt k L)]⟩, s) := by
  have gq := c.gq
  obtain ⟨a, hv⟩ := c.sl.shape
  rw [entV_len] at hv
  rw [← W_iff, W_enter0 hR.iFind hR.fFind rfl]
  simp (maxSteps := 4000000) only [WC_seq, WC_region, WC_block, contS_normal, contR_ap, WO_nil, WO_pp, contO_ap, W_mv, ev_const, putT_some, pp, pv, pw, pg, d45]
  refine WC_loop (RFindI s q L k) L.length hlf ⟨0, rfl, Nat.zero_le _, rfl, rfl, ?_, fun j y hj => absurd hj (Nat.not_lt_zero _)⟩ ?_
  · simp (maxSteps := 4000000) only [get_put_eq, get_put_ne, Nat.reduceEqDiff, not_false_eq_true, ofList_get, List.getElem?_cons_zero, List.getElem?_cons_succ, Bool.true_and, true_and, reduceCtorEq]
    rfl
  rintro n ⟨t, s2, ds⟩ hn ⟨i, rfl, hi, hs, hds, ⟨g0, g1, g6⟩, hno⟩
  simp only at hs hds g0 g1 g6
  subst hs hds
  by_cases c1 : i < L.length
  · have hx : L[i]? = some L[i] := List.getElem?_eq_getElem c1
    generalize L[i] = x at hx
    have e1 : (i : Int) < (L.length : Int) := by omega
    obtain ⟨b, sp, hv', _, hb, _⟩ := c.sl.at (fun e => by have := entV_len L; rw [e] at this; simp at this; omega)
    rw [entV_len] at hv'
    rw [hv'] at gq
    have w2 : dwrap .i64 ((i : Int) + 1) = ((i + 1 : Nat) : Int) := by rw [dwrap_in (by omega) (by omega)]; omega
    by_cases c2 : x.1 < k
    · simp (maxSteps := 4000000) only [WC_seq, WC_region, WC_cond, WC_block, WC_skip, contS_normal, contB_normal, contR_ap, contL_normal, WO_nil, WO_pp, WO_g, gateO_tt, condC_true, contO_ap, atS_ap, W_some, W_mv, W_pick, W_bin, W_nilck, W_fadr, W_ixL, W_blenL, W_ld, dpure, dbin, dint, ev_tmp, ev_const, putT_some, get_put_eq, get_put_ne, Nat.reduceEqDiff, not_false_eq_true, Option.getD_some, ldV_at, Cells.get, getN, Nat.zero_add, Nat.blt_eq, if_true, reduceCtorEq, Nat.add_zero, asIdx_cast, decide_true, g0, g1, g6, gq, hb, e1, c1, entV_get0 hx, c2, w2]
      refine ⟨L.length - (i + 1), by omega, ⟨i + 1, rfl, by omega, rfl, rfl, by simp (maxSteps := 4000000) only [get_put_eq, get_put_ne, Nat.reduceEqDiff, not_false_eq_true, Bool.and_self, and_self, reduceCtorEq, g0, g1], fun j y hj hy => ?_⟩⟩
      by_cases e : j = i
      · subst e; rw [hx] at hy; cases hy; exact c2
      · exact hno j y (by omega) hy
    · have hpos : pos k L = i := pos_eq c.so (by omega) hno fun y hy => by rw [hx] at hy; cases hy; exact c2
      have hat : isAt k L = decide (x.1 = k) := by unfold isAt; rw [hpos, hx]
      rw [hat, hpos]
      simp (maxSteps := 4000000) only [WC_seq, WC_region, WC_cond, WC_ret, WC_exit, contS_normal, contS_exit, contB_exit, contR_ap, contL_exit, WO_nil, WO_pp, WO_g, gateO_tt, condC_false, contO_ap, atS_ap, W_some, W_mv, W_pick, W_bin, W_nilck, W_fadr, W_ixL, W_blenL, W_ld, dpure, dbin, dint, Ends_ret, ev_tmp, ev_const, putT_some, get_put_eq, get_put_ne, Nat.reduceEqDiff, not_false_eq_true, Option.getD_some, dresults, tupled, ldV_at, Cells.get, getN, Nat.zero_add, Nat.blt_eq, if_true, reduceCtorEq, Nat.add_zero, asIdx_cast, decide_true, decide_false, g0, g1, g6, gq, hb, e1, c1, entV_get0 hx, c2]
  · have hi' : i = L.length := by omega
    have e1 : ¬ (i : Int) < (L.length : Int) := by omega
    have hnone : L[i]? = none := List.getElem?_eq_none (by omega)
    have hpos : pos k L = i := pos_eq c.so (by omega) hno fun y hy => by rw [hnone] at hy; cases hy
    have hat : isAt k L = false := by unfold isAt; rw [hpos, hnone]
    rw [hat, hpos]
    rw [hv] at gq
    simp (maxSteps := 4000000) only [WC_seq, WC_region, WC_cond, WC_ret, WC_exit, contS_normal, contS_exit, contB_exit, contR_ap, contL_exit, WO_nil, WO_pp, WO_g, gateO_ft, condC_false, contO_ap, atS_ap, W_some, W_mv, W_pick, W_bin, W_nilck, W_fadr, W_blenL, W_ld, dpure, dbin, dint, Ends_ret, ev_tmp, ev_const, putT_some, get_put_eq, get_put_ne, Nat.reduceEqDiff, not_false_eq_true, Option.getD_some, dresults, tupled, ldV_at, Cells.get, getN, if_true, if_false, reduceCtorEq, Bool.false_eq_true, List.nil_append, Nat.add_zero, decide_false, g0, g1, g6, gq, e1]
theorem rput_ok (hlf : L.length < E.lf) (hl : L.length < 1000000) (c : RefS s q v L room) (hG : s.Good) (k x : Int) :
    W (dcall E (d + 2) (.func (.func 40) #[] #[]) [.pointer (some ⟨q, 0, none⟩), .int .i64 k, .int .i64 x] s) fun r => r.1 = .int .i64 (putE k L room) ∧ ∃ w, RefS r.2 q w (putR k x L room) room ∧ Ext [q] s r.2 ∧ ∀ j, j ∈ blk w → j ∈ blk v ∨ s.next ≤ j := by
  have hfind := rfind_ok hR hlf hl c k (d := d)
  have gq := c.gq
  have wq := c.wq
  have hql := DS.get_lt' gq
  have hvl := c.sl.lt
  obtain ⟨av, hv⟩ := c.sl.shape
  have hel := entV_len L
  have hple := pos_le k L
  refine W_cps fun Q hQ => ?_
  rw [W_enter0 hR.iPut hR.fPut rfl]
  have hnq : ∀ o, (s.new o).get q = some (.cells (.list [v, .int .i64 room]) false) := fun o => (DS.new_get_lt hql).trans gq
  by_cases hin : isAt k L = true
  · rw [hin] at hfind
    obtain ⟨⟨k', w0⟩, hx, hk⟩ := isAt_true hin
    simp only at hk
    subst hk
    have hil := (List.getElem?_eq_some_iff.1 hx).1
    have hpe : putE k' L room = 0 := by unfold putE; rw [if_pos hin]
    have hpr : putR k' x L room = L.set (pos k' L) (k', x) := by unfold putR putL; rw [if_pos hin, if_pos hin]
    simp (maxSteps := 4000000) only [WC_seq, WC_region, WC_cond, contS_normal, contR_ap, WO_nil, WO_pp, condC_true, contO_ap, atS_ap, atL_ap, W_some, W_mv, W_nilck, W_fadr, W_ext, W_ld, W_call, dpure, ev_tmp, ev_const, ev_func, putT_some, get_put_eq, get_put_ne, Nat.reduceEqDiff, not_false_eq_true, ofList_get, List.getElem?_cons_zero, List.getElem?_cons_succ, Option.getD_some, List.map_cons, List.map_nil, ldV_at, Cells.get, getN, Nat.ble_eq, Nat.reduceLeDiff, reduceCtorEq, fillParts, pp, pv, W_app, W_bslice, repeatZ, atL_ap, Nat.add_zero, Nat.zero_mul, d40, hfind, hnq, gq]
    refine W.mono (appV_ok (lx := []) (ly := entV L) (.inr ⟨s.next, none, rfl, .inl rfl, DS.new_get_self hG, (hG _ (Nat.le_refl _)).2⟩) ((c.sl.view (entV_ok L)).of fun j hj => DS.new_get_lt (hvl j hj)) RowsOk.nil (entV_ok L) (DS.new_good hG) (by simp [entV]; omega) (by simp [entV]; omega)) ?_
    rintro ⟨w3, s3⟩ ⟨x3, X3, b3⟩
    simp only [blk, List.nil_append] at x3 X3 b3
    obtain ⟨b, sp, hw3, hsp, hb, hwb⟩ := x3.at (fun e => by rw [e] at hel; simp at hel; omega)
    rw [entV_len] at hw3
    subst hw3
    have hbn : s.next ≤ b := by
      rcases b3 b (by simp [blk]) with h | h
      · simp at h; omega
      · have : s.next + 1 ≤ b := h
        omega
    have X13 : Ext [] s s3 := (Ext.new (F := [])).trans X3 (by simp)
    have gq3 := X13.keep gq (by simp)
    have wq3 := X13.wrs wq
    have hfl : (entV L).flatten.length = L.length * 2 := by rw [(entV_ok L).flat, hel]
    have hb1 : pos k' L * 2 + 2 ≤ L.length * 2 := by omega
    have hqb : ¬ q = b := by omega
    have hbq : ¬ b = q := by omega
    have hgs : (pos k' L * 2 + 1) + 1 ≤ (entV L).flatten.length := by omega
    simp (maxSteps := 4000000) only [WC_seq, WC_region, WC_ret, contS_normal, contS_ret, contR_ap, WO_nil, WO_pp, contO_ap, atS_ap, atD_ap, W_some, W_mv, W_nilck, W_fadr, W_ixL, W_st, dpure, Ends_ret, ev_tmp, ev_const, putT_some, putT_none, get_put_eq, get_put_ne, Nat.reduceEqDiff, not_false_eq_true, ofList_get, List.getElem?_cons_zero, List.getElem?_cons_succ, Option.getD_some, dresults, tupled, Nat.zero_add, Nat.reduceAdd, st_wr, cells_int, cells_slice, List.length_cons, List.length_nil, allOne, oneCellD, Bool.and_self, Bool.and_true, Nat.beq_eq, Nat.ble_eq, Nat.blt_eq, Nat.reduceLeDiff, if_true, reduceCtorEq, DS.wrC, Cells.size, Cells.fillFrom, Cells.set, setN, DS.upd_get_ne, DS.upd_wr, Nat.add_zero, asIdx_cast, hb, hwb, hil, gq3, wq3, hqb, hbq, hgs, entV_set hx]
    have hsl : (L.set (pos k' L) (k', x)).length = L.length := List.length_set
    refine hQ _ ⟨by rw [hpe], .slice (some ⟨b, 0, sp⟩) L.length L.length, ⟨?_, ?_, ?_, ?_, ?_⟩, ?_, ?_⟩
    · simp (maxSteps := 4000000) only [not_false_eq_true, DS.upd_get_self, DS.upd_get_ne, Option.map_some, gq3, hqb]
    · simp (maxSteps := 4000000) only [DS.upd_wr, wq3]
    · rw [hpr]
      refine .inr ⟨b, sp, by rw [entV_len, hsl], hsp, ?_, ?_⟩
      · simp (maxSteps := 4000000) only [not_false_eq_true, DS.upd_get_self, DS.upd_get_ne, Option.map_some, hb, hbq]
      · simp (maxSteps := 4000000) only [DS.upd_wr, hwb]
    · simp [blk]; omega
    · rw [hpr]
      have := rise_put c.so k' x
      unfold putL at this
      rwa [if_pos hin] at this
    · exact (X13.trans (Ext.upd (F := [b]) (.inl (by simp))) (by simp; omega)).weaken (by simp) |>.trans' (Ext.upd (.inl (by simp)))
    · intro j hj
      simp [blk] at hj
      subst hj
      exact .inr hbn
  · have hin' : isAt k L = false := by simpa using hin
    rw [hin'] at hfind
    by_cases hfull : room ≤ (L.length : Int)
    · have hpe : putE k L room = 2 := by unfold putE; rw [if_neg hin, if_pos hfull]
      have hpr : putR k x L room = L := by unfold putR; rw [if_neg hin, if_pos hfull]
      have gq' := gq
      rw [hv, hel] at gq'
      simp (maxSteps := 4000000) only [WC_seq, WC_region, WC_cond, WC_skip, WC_ret, contS_normal, contS_ret, contR_ap, WO_nil, WO_pp, condC_true, condC_false, contO_ap, atS_ap, W_some, W_mv, W_bin, W_nilck, W_fadr, W_ext, W_blenL, W_ld, W_call, dpure, dbin, dint, Ends_ret, ev_tmp, ev_const, ev_func, putT_some, get_put_eq, get_put_ne, Nat.reduceEqDiff, not_false_eq_true, ofList_get, List.getElem?_cons_zero, List.getElem?_cons_succ, Option.getD_some, dresults, tupled, List.map_cons, List.map_nil, ldV_at, Cells.get, getN, Nat.zero_add, if_true, reduceCtorEq, pp, pv, Nat.add_zero, decide_true, d40, hfind, gq', hfull]
      exact hQ _ ⟨by rw [hpe], v, by rw [hpr]; exact c, .refl, fun j hj => .inl hj⟩
    · have hpe : putE k L room = 0 := by unfold putE; rw [if_neg hin, if_neg hfull]
      have hpr : putR k x L room = insAt L (pos k L) (k, x) := by unfold putR putL; rw [if_neg hin, if_neg hfull, if_neg hin]
      have gq' := gq
      rw [hv, hel] at gq'
      have hnq' : ∀ o, (s.new o).get q = some (.cells (.list [.slice av L.length L.length, .int .i64 room]) false) := fun o => (DS.new_get_lt hql).trans gq'
      have hnq2 : ∀ o o', ((s.new o).new o').get q = some (.cells (.list [.slice av L.length L.length, .int .i64 room]) false) := fun o o' => (DS.new_get_lt (show q < (s.new o).next from Nat.lt_succ_of_lt hql)).trans (hnq' o)
      have hq1 : Nat.ble s.next q = false := by rw [bleF]; omega
      have hq2 : Nat.ble (s.next + 1) q = false := by rw [bleF]; omega
      have hv' := hv
      rw [hel] at hv'
      obtain ⟨w1, e1, v1, _, b1⟩ := slV_ok c.sl (entV_ok L) (lo := none) (hi := some (.int .i64 (pos k L : Int))) (i := 0) (j := pos k L) rfl rfl (Nat.zero_le _) (by omega)
      obtain ⟨w2, e2, v2, _, b2⟩ := slV_ok c.sl (entV_ok L) (lo := some (.int .i64 (pos k L : Int))) (hi := none) (i := pos k L) (j := (entV L).length) rfl rfl (by omega) (Nat.le_refl _)
      have v1' : SlV s 2 w1 (entV (L.take (pos k L))) := by have := v1; rwa [List.drop_zero, show (entV L).take (pos k L) = entV (L.take (pos k L)) from List.map_take.symm] at this
      have v2' : SlV s 2 w2 (entV (L.drop (pos k L))) := by have := v2; rwa [List.take_length, show (entV L).drop (pos k L) = entV (L.drop (pos k L)) from List.map_drop.symm] at this
      rw [hv'] at e1 e2
      simp (maxSteps := 4000000) only [WC_seq, WC_region, WC_cond, WC_skip, contS_normal, contR_ap, WO_nil, WO_pp, WO_pn, WO_hn, condC_false, contO_ap, contN_ap, contHN_ap, atS_ap, atG_ap, atL_ap, W_some, W_mv, W_bin, W_nilck, W_build, W_fadr, W_ext, W_blenL, W_ld, W_call, dpure, dbin, dint, ev_tmp, ev_const, ev_func, putT_some, get_put_eq, get_put_ne, Nat.reduceEqDiff, not_false_eq_true, ofList_get, List.getElem?_cons_zero, List.getElem?_cons_succ, Option.getD_some, List.map_cons, List.map_nil, ldV_at, Cells.get, getN, Nat.zero_add, Nat.reduceAdd, cells_int, cells_agg, List.length_cons, List.length_nil, Bool.and_self, Bool.and_eq_true, Nat.beq_eq, Nat.ble_eq, Nat.reduceLeDiff, Nat.le_refl, and_self, if_true, reduceCtorEq, fillParts, List.take_zero, List.take_succ_cons, List.drop_succ_cons, List.drop_zero, List.nil_append, List.cons_append, List.drop_nil, List.append_nil, pp, pv, Option.map_some, nextN, nextM, W_slV, W_app, W_bslice, Option.map_none, repeatZ, Nat.reduceMul, atL_ap, unmask_mask, Nat.add_zero, Nat.zero_mul, decide_false, foot, mask_get, hidden, noteAt, Bool.or_false, Bool.false_and, d40, hfind, gq', hfull, hnq', hnq2, mask_get, hidden, noteAt, Bool.or_false, Bool.false_and, hq1, hq2, e1, e2]
      obtain ⟨S2, hS2⟩ : ∃ S2 : DS, S2 = (s.new (.cells (.list []) false)).new (.cells (.list [.int .i64 k, .int .i64 x]) false) := ⟨_, rfl⟩
      rw [← hS2]
      have X2 : Ext [] s S2 := by rw [hS2]; exact Ext.new.trans' Ext.new
      have hG2 := X2.good hG
      have n2 : S2.next = s.next + 2 := by rw [hS2]; rfl
      have ga : S2.get s.next = some (.cells (.list []) false) := by rw [hS2]; simp (maxSteps := 4000000) (maxDischargeDepth := 8) only [nextN, get_new_at, get_new_ne, good_new, Nat.lt_add_one, hG]
      have gb : S2.get (s.next + 1) = some (.cells (.list [.int .i64 k, .int .i64 x]) false) := by rw [hS2]; simp (maxSteps := 4000000) (maxDischargeDepth := 8) only [nextN, get_new_at, good_new, hG]
      have wa : S2.wr s.next = true := X2.wrs (hG _ (Nat.le_refl _)).2
      clear hS2
      have o1 : RowsOk 2 (entV (L.take (pos k L))) := entV_ok _
      have l1 : (entV (L.take (pos k L))).length ≤ 1000000 := by rw [entV_len, List.length_take]; omega
      have l2 : (entV (L.drop (pos k L))).length ≤ 1000000 := by rw [entV_len, List.length_drop]; omega
      refine W.mono (appM_ok (s := S2) (lx := []) (ly := entV (L.take (pos k L))) (.inr ⟨s.next, none, rfl, .inl rfl, ga, wa⟩) (v1'.of fun j hj => X2.get j (hvl j (b1 j hj)) (by simp)) RowsOk.nil o1 hG2 (by simp; omega) (by simp; omega) ?_ ?_ ?_) ?_
      · intro j hj
        simp [blk] at hj
        subst hj
        exact ⟨by (simp only [hidden, shielded, noteAt, memN, Bool.or_false, Bool.or_eq_false_iff, Bool.and_eq_false_iff, bleF, bltF, beqF, true_and, and_true, true_or, or_true] <;> omega), by (simp only [hidden, shielded, noteAt, memN, Bool.or_false, Bool.or_eq_false_iff, Bool.and_eq_false_iff, bleF, bltF, beqF, true_and, and_true, true_or, or_true] <;> omega)⟩
      · intro j hj
        have := hvl j (b1 j hj)
        (simp only [hidden, shielded, noteAt, memN, Bool.or_false, Bool.or_eq_false_iff, Bool.and_eq_false_iff, bleF, bltF, beqF, true_and, and_true, true_or, or_true] <;> omega)
      · intro j hj
        exact ⟨by (simp only [hidden, shielded, noteAt, memN, Bool.or_false, Bool.or_eq_false_iff, Bool.and_eq_false_iff, bleF, bltF, beqF, true_and, and_true, true_or, or_true] <;> omega), by (simp only [hidden, shielded, noteAt, memN, Bool.or_false, Bool.or_eq_false_iff, Bool.and_eq_false_iff, bleF, bltF, beqF, true_and, and_true, true_or, or_true] <;> omega)⟩
      rintro ⟨w3, s3⟩ ⟨x3, X3, b3, n3⟩
      simp only [List.nil_append] at x3 X3 b3 n3
      obtain ⟨S3, hS3⟩ : ∃ S3 : DS, S3 = unmask S2 s3 := ⟨_, rfl⟩
      rw [← hS3] at x3 X3 n3
      have hG3 := X3.good hG2
      have X3' : Ext [] s S3 := X2.trans X3 (by simp [blk])
      have hb3 : ∀ j, j ∈ blk w3 → s.next ≤ j := fun j hj => by
        rcases b3 j hj with h | h
        · simp [blk] at h; omega
        · omega
      have gb3 := X3.keep gb (by simp [blk])
      have gq3 := X3'.keep gq' (by simp)
      simp (maxSteps := 4000000) only [WO_hn, contHN_ap, ev_tmp, putT_some, get_put_eq, get_put_ne, Nat.reduceEqDiff, not_false_eq_true, Option.getD_some, List.nil_append, List.cons_append, W_app, foot, ← hS3, n3]
      refine W.mono (appM_ok (s := S3) (ly := entV [(k, x)]) x3 (.inr ⟨s.next + 1, 0, none, 1, rfl, by unfold DS.read; rw [gb3]; rfl⟩) o1 (entV_ok _) hG3 (by simp [entV]; omega) (by simp [entV]; omega) ?_ ?_ ?_) ?_
      · intro j hj
        have := hb3 j hj
        exact ⟨by (simp only [hidden, shielded, noteAt, memN, Bool.or_false, Bool.or_eq_false_iff, Bool.and_eq_false_iff, bleF, bltF, beqF, true_and, and_true, true_or, or_true] <;> omega), by (simp only [hidden, shielded, noteAt, memN, Bool.or_false, Bool.or_eq_false_iff, Bool.and_eq_false_iff, bleF, bltF, beqF, true_and, and_true, true_or, or_true] <;> omega)⟩
      · intro j hj
        (simp only [hidden, shielded, noteAt, memN, Bool.or_false, Bool.or_eq_false_iff, Bool.and_eq_false_iff, bleF, bltF, beqF, true_and, and_true, true_or, or_true] <;> omega)
      · intro j hj
        have := X3'.le
        exact ⟨by (simp only [hidden, shielded, noteAt, memN, Bool.or_false, Bool.or_eq_false_iff, Bool.and_eq_false_iff, bleF, bltF, beqF, true_and, and_true, true_or, or_true] <;> omega), by (simp only [hidden, shielded, noteAt, memN, Bool.or_false, Bool.or_eq_false_iff, Bool.and_eq_false_iff, bleF, bltF, beqF, true_and, and_true, true_or, or_true] <;> omega)⟩
      rintro ⟨w4, s4⟩ ⟨x4, X4, b4, n4⟩
      simp only at x4 X4 b4 n4
      obtain ⟨S4, hS4⟩ : ∃ S4 : DS, S4 = unmask S3 s4 := ⟨_, rfl⟩
      rw [← hS4] at x4 X4 n4
      have hG4 := X4.good hG3
      have X4' : Ext [] s S4 := X3'.trans X4 (fun j hj => .inr (hb3 j hj))
      have hb4 : ∀ j, j ∈ blk w4 → s.next ≤ j := fun j hj => by
        rcases b4 j hj with h | h
        · exact hb3 j h
        · have := X3'.le; omega
      simp (maxSteps := 4000000) only [WO_pn, contHN_ap, ev_tmp, putT_some, get_put_eq, get_put_ne, Nat.reduceEqDiff, not_false_eq_true, Option.getD_some, List.nil_append, List.cons_append, W_app, foot, ← hS4, n4]
      refine W.mono (appV_ok x4 (v2'.of fun j hj => X4'.get j (hvl j (b2 j hj)) (by simp)) (o1.append (entV_ok _)) (entV_ok _) hG4 (by simp [entV]; omega) (by simp [entV]; omega)) ?_
      rintro ⟨w5, s5⟩ ⟨x5, X5, b5⟩
      simp only at x5 X5 b5
      have X5' : Ext [] s s5 := X4'.trans X5 (fun j hj => .inr (hb4 j hj))
      have hb5 : ∀ j, j ∈ blk w5 → s.next ≤ j := fun j hj => by
        rcases b5 j hj with h | h
        · exact hb4 j h
        · have := X4'.le; omega
      have gq5 := X5'.keep gq' (by simp)
      have wq5 := X5'.wrs wq
      obtain ⟨a5, hw5⟩ := x5.shape
      subst hw5
      have hcat : entV (L.take (pos k L)) ++ entV [(k, x)] ++ entV (L.drop (pos k L)) = entV (insAt L (pos k L) (k, x)) := by
        unfold insAt entV
        rw [List.map_append, List.append_assoc]; rfl
      rw [hcat] at x5 hb5 ⊢
      simp (maxSteps := 4000000) only [WC_seq, WC_region, WC_ret, contS_normal, contR_ap, WO_nil, WO_pp, WO_pn, contO_ap, contN_ap, atS_ap, atD_ap, W_some, W_mv, W_nilck, W_fadr, W_st, dpure, Ends_ret, ev_tmp, ev_const, putT_some, putT_none, get_put_eq, get_put_ne, Nat.reduceEqDiff, not_false_eq_true, Option.getD_some, dresults, tupled, Nat.zero_add, Nat.reduceAdd, st_wr, cells_slice, List.length_cons, List.length_nil, allOne, oneCellD, Bool.and_self, Bool.and_true, Nat.beq_eq, Nat.ble_eq, Nat.reduceLeDiff, if_true, DS.wrC, Cells.size, Cells.fillFrom, Cells.set, setN, List.nil_append, List.cons_append, DS.upd_next, Nat.add_zero, foot, gq5, wq5]
      refine hQ _ ⟨by rw [hpe], .slice a5 (entV (insAt L (pos k L) (k, x))).length (entV (insAt L (pos k L) (k, x))).length, ⟨?_, ?_, ?_, ?_, ?_⟩, ?_, ?_⟩
      · simp (maxSteps := 4000000) only [DS.upd_get_self, Option.map_some, gq5]
      · simp (maxSteps := 4000000) only [DS.upd_wr, wq5]
      · rw [hpr]
        exact x5.keep (Ext.upd (F := [q]) (.inl (by simp))) fun j hj => by have := hb5 j hj; simp; omega
      · intro hq
        have := hb5 q hq
        omega
      · rw [hpr]
        have := rise_put c.so k x
        unfold putL at this
        rwa [if_neg hin] at this
      · exact (X5'.weaken (by simp)).trans' (Ext.upd (.inl (by simp)))
      · exact fun j hj => .inr (hb5 j hj)
theorem rnew_ok (hroom : 0 ≤ room ∧ room ≤ 4096) (hG : s.Good) : W (dcall E (d + 1) (.func (.func 39) #[] #[]) [.int .i64 room] s) fun r => r.1 = .tuple ⟨[.pointer (some ⟨s.next, 0, none⟩), .int .i64 0]⟩ ∧ RefS r.2 s.next (.slice none 0 0) [] room ∧ Ext [] s r.2 := by
  refine W_cps fun Q hQ => ?_
  rw [W_enter0 hR.iNew hR.fNew rfl]
  have e1 : ¬ room < 0 := by omega
  have e2 : ¬ 4096 < room := by omega
  simp (maxSteps := 4000000) (maxDischargeDepth := 8) only [WC_seq, WC_region, WC_cond, WC_skip, WC_ret, contS_normal, contR_ap, WO_nil, WO_pp, WO_g, gateO_ff, condC_false, contO_ap, atS_ap, atG_ap, W_some, W_mv, W_pick, W_bin, W_build, W_box, dpure, dbin, dint, Ends_ret, ev_tmp, ev_const, putT_some, get_put_eq, get_put_ne, not_false_eq_true, ofList_get, List.getElem?_cons_zero, Option.getD_some, dresults, tupled, Nat.zero_add, Nat.reduceAdd, cells_int, cells_agg, List.length_cons, List.length_nil, Bool.and_self, Bool.and_eq_true, Nat.beq_eq, Nat.ble_eq, Nat.le_refl, and_self, if_true, if_false, Bool.false_eq_true, fillParts, List.take_zero, List.take_succ_cons, List.drop_succ_cons, List.nil_append, List.cons_append, List.drop_nil, List.append_nil, pp, pv, pw, pg, decide_false, eq_lt, Nat.reduceLT, Nat.lt_add_one, Nat.succ_pos, d39, e1, e2, hG]
  exact hQ _ ⟨rfl, ⟨DS.new_get_self hG, (hG _ (Nat.le_refl _)).2, .nil, by simp [blk], .nil⟩, Ext.new⟩
end
end Go.Dx.OvA
/- A store and its reference, of some entries (made by tools/gen.py out of base.t). -/
set_option linter.unusedVariables false
set_option linter.unusedSimpArgs false
set_option linter.unusedSectionVars false
set_option maxRecDepth 100000
set_option maxHeartbeats 4000000
namespace Go.Dx.OvA
open Go Go.Dx Go.Dx.Search Go.Dx.St Go.Proofs.Ytlpjlananbjgcaa
theorem InRow.keep {s s' : DS} {F : List Nat} {v : Value} {l : List (List Value)} (h : InRow s v l) (e : Ext F s s') (hF : ∀ k, k ∈ F → ∀ c, s.get k ≠ some (.cells c true)) : InRow s' v l := by
  rcases h with h | ⟨b, c, h1, h2⟩
  · exact .inl h
  · exact .inr ⟨b, c, h1, e.keep h2 fun hb => hF b hb _ h2⟩
theorem StAt.notRo {s : DS} {p : Nat} {kv vv : Value} {L : List Ent} {room : Int} (c : StAt s p kv vv L room) : ∀ k, k ∈ own p kv vv → ∀ x, s.get k ≠ some (.cells x true) := by
  intro k hk x hx
  simp only [own, List.mem_cons, List.mem_append] at hk
  rcases hk with rfl | hk | hk
  · rw [c.gp] at hx; cases hx
  · rcases c.ks with ⟨rfl, _⟩ | ⟨b, sp, cc, ext, rfl, h⟩
    · simp [blk] at hk
    · simp [blk] at hk; subst hk; rw [h.get] at hx; cases hx
  · rcases c.vs with ⟨rfl, _⟩ | ⟨b, sp, cc, ext, rfl, h⟩
    · simp [blk] at hk
    · simp [blk] at hk; subst hk; rw [h.get] at hx; cases hx
def rowK (x : List Value) : Int := numV (getN x 1)
def rowV (x : List Value) : Int := numV (getN x 2)
def puR (room : Int) (rows : List (List Value)) : List Ent := rows.foldl (fun L x => putR (rowK x) (rowV x) L room) []
theorem puR_snoc (room : Int) (rows : List (List Value)) (x : List Value) : puR room (rows ++ [x]) = putR (rowK x) (rowV x) (puR room rows) room := by unfold puR; rw [List.foldl_append]; rfl
/-- what a row says -/
theorem row3 {s : DS} {v0 : Value} {l : List (List Value)} (hr : InRow s v0 l) (hl : ∀ x, x ∈ l → FitK [.int .i64, .int .i64, .int .i64] x) {i : Nat} (hi : i < l.length) :
    ∃ x vb vc, l[i]? = some x ∧ v0 = .slice (some ⟨vb, 0, none⟩) l.length vc ∧ s.get vb = some (.cells (.list l.flatten) true) ∧ getN l.flatten (i * 3) = some (.int .i64 (numV (getN x 0))) ∧ getN l.flatten (i * 3 + 1) = some (.int .i64 (rowK x)) ∧ getN l.flatten (i * 3 + 2) = some (.int .i64 (rowV x)) := by
  obtain ⟨x, hx⟩ : ∃ x, l[i]? = some x := ⟨l[i], List.getElem?_eq_getElem hi⟩
  have hfx := hl x (List.mem_of_getElem? hx)
  obtain ⟨x0, r0, rfl, ⟨kind, rfl, _⟩, hf0⟩ := FitK.cons hfx
  obtain ⟨x1, r1, rfl, ⟨K, rfl, hK⟩, hf1⟩ := FitK.cons hf0
  obtain ⟨x2, r2, rfl, ⟨V, rfl, hV⟩, hf2⟩ := FitK.cons hf1
  obtain rfl := FitK.nil hf2
  have hm3 : ∀ y, y ∈ l → y.length = 3 := fun y hy => FitK.length (hl y hy)
  rcases hr with ⟨_, rfl⟩ | ⟨vb, vc, rfl, hb⟩
  · simp at hx
  · have h0 := flatten_get (j := 0) hm3 hx rfl
    rw [Nat.add_zero] at h0
    exact ⟨_, vb, vc, hx, rfl, hb, h0, flatten_get (j := 1) hm3 hx rfl, flatten_get (j := 2) hm3 hx rfl⟩
structure BaseI (s0 : DS) (p q : Nat) (room : Int) (v0 : Value) (l : List (List Value)) (n : Nat) (x : St) : Prop where
  ex : ∃ (i : Nat) (kv vv w : Value), n = 101 - i ∧ i ≤ 100 ∧ i ≤ l.length ∧ x.defers = [] ∧
    (x.t.get 1 = some v0 ∧ x.t.get 6 = some (.pointer (some ⟨p, 0, none⟩)) ∧ x.t.get 8 = some (.pointer (some ⟨q, 0, none⟩)) ∧ x.t.get 10 = some (.int .i64 (i : Int))) ∧
    StAt x.s p kv vv (puR room (l.take i)) room ∧ RefS x.s q w (puR room (l.take i)) room ∧ (∀ k, k ∈ own p kv vv → k ≠ q ∧ k ∉ blk w ∧ s0.next ≤ k) ∧ (∀ k, k ∈ q :: blk w → s0.next ≤ k) ∧ Ext [] s0 x.s
structure BaseFns (E : Env) : Prop where
  fBase : E.fn 17 = some d17
  iBase : E.intr 17 = none
section
variable {E : Env} (hE : Fns E) (hR : R3Fns E) (hBa : BaseFns E) {s : DS} {d : Nat} {v0 : Value} {l : List (List Value)} {room : Int}
include hE hR hBa
theorem Base_ok (hG : s.Good) (hroom : 0 ≤ room ∧ room ≤ 4096) (hr : InRow s v0 l) (hl : ∀ x, x ∈ l → FitK [.int .i64, .int .i64, .int .i64] x) :
    W (dcall E (d + 7) (.func (.func 17) #[] #[]) [.int .i64 room, v0] s) fun r => ∃ p q kv vv w, r.1 = .tuple ⟨[.pointer (some ⟨p, 0, none⟩), .pointer (some ⟨q, 0, none⟩)]⟩ ∧ StAt r.2 p kv vv (puR room (l.take 100)) room ∧ RefS r.2 q w (puR room (l.take 100)) room ∧ (∀ k, k ∈ own p kv vv → k ≠ q ∧ k ∉ blk w ∧ s.next ≤ k) ∧ (∀ k, k ∈ q :: blk w → s.next ≤ k) ∧ Ext [] s r.2 := by
  have hlf := hE.lf
  refine W_cps fun Q hQ => ?_
  rw [W_enter0 hBa.iBase hBa.fBase rfl]
  simp (maxSteps := 4000000) only [WC_seq, WC_region, contS_normal, contR_ap, WO_nil, WO_pp, contO_ap, W_mv, W_call, ev_tmp, ev_const, ev_func, putT_some, get_put_eq, get_put_ne, not_false_eq_true, ofList_get, List.getElem?_cons_zero, Option.getD_some, List.map_cons, List.map_nil, reduceCtorEq, pp, pv, pw, pg, d17]
  refine W.mono (New_ok hE (d := d + 5) hG room) ?_
  rintro ⟨r, s1⟩ ⟨X1, ⟨_, _, hr1, c1⟩ | ⟨hno, _⟩⟩
  rotate_left
  · exfalso; omega
  simp only at X1 hr1 c1
  subst hr1
  have hG1 := X1.good hG
  have hpl := DS.get_lt' c1.gp
  simp (maxSteps := 4000000) only [WC_seq, WC_region, contS_normal, contR_ap, WO_nil, WO_pp, contO_ap, atS_ap, W_some, W_mv, W_ext, W_call, dpure, ev_tmp, ev_func, putT_some, get_put_eq, get_put_ne, Nat.reduceEqDiff, not_false_eq_true, ofList_get, List.getElem?_cons_zero, Option.getD_some, List.map_cons, List.map_nil, getN, reduceCtorEq]
  refine W.mono (rnew_ok hR (d := d + 5) hroom hG1) ?_
  rintro ⟨r, s2⟩ ⟨hr2, c2, X2⟩
  simp only at X2 hr2 c2
  subst hr2
  have hG2 := X2.good hG1
  simp (maxSteps := 4000000) only [WC_seq, WC_region, WC_cond, WC_block, WC_skip, contS_normal, contR_ap, WO_nil, WO_pp, WO_g, gateO_ff, condC_false, contO_ap, atS_ap, W_some, W_mv, W_pick, W_bin, W_ext, dpure, dbin, dint, ev_tmp, ev_const, putT_some, get_put_eq, get_put_ne, Nat.reduceEqDiff, not_false_eq_true, Option.getD_some, getN, if_true, if_false, Bool.not_true, Bool.false_eq_true, decide_true]
  have c1' := c1.keep X2 (by simp)
  refine WC_loop (BaseI s s.next s1.next room v0 l) 101 (by omega) ⟨0, _, _, _, rfl, by omega, by omega, rfl, ?_, c1', c2, ?_, ?_, X1.trans' X2⟩ ?_
  · simp (maxSteps := 4000000) only [get_put_eq, get_put_ne, Nat.reduceEqDiff, not_false_eq_true, ofList_get, List.getElem?_cons_zero, List.getElem?_cons_succ, Bool.true_and, true_and]
    rfl
  · intro k hk
    simp [own, blk] at hk
    subst hk
    exact ⟨by omega, by simp [blk], Nat.le_refl _⟩
  · intro k hk
    simp [blk] at hk
    subst hk
    exact X1.le
  obtain ⟨p, hp⟩ : ∃ p, p = s.next := ⟨_, rfl⟩
  obtain ⟨q, hq⟩ : ∃ q, q = s1.next := ⟨_, rfl⟩
  rw [← hp, ← hq]
  rintro n ⟨t, s3, ds⟩ hn ⟨i, kv, vv, w, rfl, hi, hil, hds, ⟨g1, g6, g8, g10⟩, cA, cR, hA, hRw, X3⟩
  simp only at hds g1 g6 g8 g10 cA cR X3
  subst hds
  have hG3 := X3.good hG
  have hpA : p ∈ own p kv vv := List.mem_cons_self ..
  have hlen := cA.len
  by_cases c1 : i < l.length ∧ i < 100
  · obtain ⟨hi1, hi2⟩ := c1
    have e1 : (i : Int) < (l.length : Int) := by omega
    have e2 : (i : Int) < 100 := by omega
    have w1 : dwrap .i64 ((i : Int) + 1) = ((i + 1 : Nat) : Int) := by rw [dwrap_in (by omega) (by omega)]; omega
    obtain ⟨x, vb, vc, hx, hv0, hb, _, q1, q2⟩ := row3 (InRow.keep hr X3 (by simp)) hl hi1
    rw [hv0] at g1
    have htk : l.take (i + 1) = l.take i ++ [x] := by rw [List.take_add_one, hx]; rfl
    simp (maxSteps := 4000000) only [WC_seq, WC_region, WC_cond, WC_block, WC_skip, contS_normal, contR_ap, WO_nil, WO_pp, WO_g, gateO_tt, condC_true, contO_ap, atS_ap, W_some, W_mv, W_pick, W_bin, W_fadr, W_ixL, W_blenL, W_ld, W_call, dpure, dbin, dint, ev_tmp, ev_const, ev_func, putT_some, get_put_eq, get_put_ne, Nat.reduceEqDiff, not_false_eq_true, Option.getD_some, List.map_cons, List.map_nil, ldV_at, Cells.get, Nat.zero_add, Nat.blt_eq, if_true, asIdx_cast, decide_true, g1, g6, g8, g10, e1, e2, hb, q1, q2, hi1]
    refine W.mono (Put_ok hE cA hG3 (rowK x) (rowV x) (by omega)) ?_
    rintro ⟨v4, s4⟩ ⟨_, kv4, vv4, cA4, X4, o4⟩
    simp only at cA4 X4 o4
    have hb4 := X4.keep hb (fun hk => cA.notRo _ hk _ hb)
    have hqA : q ∉ own p kv vv := fun hk => (hA q hk).1 rfl
    have hwA : ∀ k, k ∈ blk w → k ∉ own p kv vv := fun k hk hk2 => (hA k hk2).2.1 hk
    have cR4 := cR.keep X4 hqA hwA
    have hG4 := X4.good hG3
    have hwl := cR.sl.lt
    have hql := DS.get_lt' cR.gq
    have hA4 : ∀ k, k ∈ own p kv4 vv4 → k ≠ q ∧ k ∉ blk w ∧ s.next ≤ k := fun k hk => by
      rcases o4 k hk with h | h
      · exact hA k h
      · have := X3.le
        exact ⟨by omega, fun h2 => by have := hwl k h2; omega, by omega⟩
    simp (maxSteps := 4000000) only [WC_region, contS_normal, contR_ap, WO_nil, WO_pp, contO_ap, atS_ap, W_some, W_mv, W_fadr, W_ixL, W_ld, W_call, dpure, ev_tmp, ev_func, putT_some, get_put_eq, get_put_ne, Nat.reduceEqDiff, not_false_eq_true, Option.getD_some, List.map_cons, List.map_nil, ldV_at, Cells.get, Nat.zero_add, Nat.blt_eq, if_true, asIdx_cast, g1, g6, g8, g10, hb4, q1, q2, hi1]
    refine W.mono (rput_ok hR (d := d + 4) (by omega) (by omega) cR4 hG4 (rowK x) (rowV x)) ?_
    rintro ⟨v5, s5⟩ ⟨_, w5, cR5, X5, o5⟩
    simp only at cR5 X5 o5
    have cA5 := cA4.keep X5 (fun k hk => by simp; exact (hA4 k hk).1)
    have hAl := cA4.lt
    simp (maxSteps := 4000000) only [WC_region, contS_normal, contB_normal, contR_ap, contL_normal, WO_nil, WO_pp, contO_ap, atS_ap, W_some, W_mv, W_bin, dbin, dint, ev_tmp, ev_const, putT_some, get_put_eq, get_put_ne, Nat.reduceEqDiff, not_false_eq_true, Option.getD_some, if_true, g1, g6, g8, g10, w1]
    refine ⟨101 - (i + 1), by omega, ⟨i + 1, kv4, vv4, w5, rfl, by omega, by omega, rfl, by simp (maxSteps := 4000000) only [get_put_eq, get_put_ne, Nat.reduceEqDiff, not_false_eq_true, Bool.and_self, and_self, g1, g6, g8, hv0], ?_, ?_, fun k hk => ?_, fun k hk => ?_, ?_⟩⟩
    · rw [htk, puR_snoc]; exact cA5
    · rw [htk, puR_snoc]; exact cR5
    · refine ⟨(hA4 k hk).1, fun h => ?_, (hA4 k hk).2.2⟩
      rcases o5 k h with h | h
      · exact (hA4 k hk).2.1 h
      · have := hAl k hk; omega
    · rcases List.mem_cons.1 hk with rfl | hk
      · exact hRw _ (List.mem_cons_self ..)
      · rcases o5 k hk with h | h
        · exact hRw k (List.mem_cons_of_mem _ h)
        · have := X3.le; have := X4.le; omega
    · exact (X3.trans X4 fun k hk => .inr (hA k hk).2.2).trans X5 fun k hk => by
        simp at hk; subst hk; exact .inr (hRw _ (List.mem_cons_self ..))
  · have htk : l.take i = l.take 100 := by
      by_cases h : i < l.length
      · have : i = 100 := by omega
        rw [this]
      · rw [List.take_of_length_le (by omega), List.take_of_length_le (by omega)]
    rw [htk] at cA cR
    have hvl : ∃ a c, v0 = .slice a l.length c := by
      rcases hr with ⟨rfl, rfl⟩ | ⟨b, c, rfl, _⟩
      · exact ⟨_, _, rfl⟩
      · exact ⟨_, _, rfl⟩
    obtain ⟨a, cc, hv0⟩ := hvl
    rw [hv0] at g1
    have hfin := hQ (.tuple ⟨[.pointer (some ⟨p, 0, none⟩), .pointer (some ⟨q, 0, none⟩)]⟩, s3) ⟨p, q, kv, vv, w, rfl, cA, cR, hA, hRw, X3⟩
    by_cases c2 : (i : Int) < (l.length : Int)
    · have c3 : ¬ (i : Int) < 100 := by omega
      simp (maxSteps := 4000000) only [WC_seq, WC_region, WC_cond, WC_ret, WC_exit, contS_normal, contS_exit, contB_exit, contR_ap, contL_exit, WO_nil, WO_pp, WO_g, gateO_tt, condC_false, contO_ap, atS_ap, W_some, W_mv, W_pick, W_bin, W_blenL, dpure, dbin, dint, Ends_ret, ev_tmp, ev_const, putT_some, get_put_eq, get_put_ne, Nat.reduceEqDiff, not_false_eq_true, Option.getD_some, dresults, tupled, if_true, decide_true, decide_false, g1, g6, g8, g10, c2, c3]
      exact hfin
    · simp (maxSteps := 4000000) only [WC_seq, WC_region, WC_cond, WC_ret, WC_exit, contS_normal, contS_exit, contB_exit, contR_ap, contL_exit, WO_nil, WO_pp, WO_g, gateO_ft, condC_false, contO_ap, atS_ap, W_some, W_mv, W_pick, W_bin, W_blenL, dpure, dbin, dint, Ends_ret, ev_tmp, ev_const, putT_some, get_put_eq, get_put_ne, Nat.reduceEqDiff, not_false_eq_true, Option.getD_some, dresults, tupled, if_true, if_false, Bool.false_eq_true, List.nil_append, decide_false, g1, g6, g8, g10, c2]
      exact hfin
end
end Go.Dx.OvA
/- The reference store: Get, Next, Delete, Fork (made by tools/gen.py out of ref3b.t). -/
set_option linter.unusedVariables false
set_option linter.unusedSimpArgs false
set_option linter.unusedSectionVars false
set_option maxRecDepth 100000
set_option maxHeartbeats 4000000
namespace Go.Dx.OvA
open Go Go.Dx Go.Dx.Search Go.Dx.St Go.Proofs.Ytlpjlananbjgcaa
structure R3Fns2 (E : Env) : Prop where
  fGet : E.fn 24 = some d24
  iGet : E.intr 24 = none
  fNext : E.fn 25 = some d25
  iNext : E.intr 25 = none
  fDel : E.fn 43 = some d43
  iDel : E.intr 43 = none
  fFork : E.fn 41 = some d41
  iFork : E.intr 41 = none
section
variable {E : Env} (hR : R3Fns E) (hR2 : R3Fns2 E) {s s' : DS} {d : Nat} {q : Nat} {v : Value} {L : List Ent} {room : Int} {F : List Nat}
include hR hR2
theorem rget_ok (hlf : L.length < E.lf) (hl : L.length < 1000000) (c : RefS s q v L room) (k : Int) : dcall E (d + 2) (.func (.func 24) #[] #[]) [.pointer (some ⟨q, 0, none⟩), .int .i64 k] s = some (.tuple ⟨[.int .i64 (valOf k L), .bool (isAt k L)]⟩, s) := by
  have hfind := rfind_ok hR hlf hl c k (d := d)
  have gq := c.gq
  have hel := entV_len L
  rw [← W_iff, W_enter0 hR2.iGet hR2.fGet rfl]
  cases hin : isAt k L with
  | false =>
    rw [hin] at hfind
    have hv : valOf k L = 0 := by
      unfold isAt at hin
      unfold valOf
      cases hx : L[pos k L]? with
      | none => rfl
      | some x => rw [hx] at hin; simp at hin; simp [hin]
    rw [hv]
    simp (maxSteps := 4000000) only [WC_seq, WC_region, WC_cond, WC_ret, contS_normal, contS_ret, contR_ap, WO_nil, WO_pp, condC_true, contO_ap, atS_ap, W_some, W_mv, W_un, W_ext, W_call, dpure, Ends_ret, ev_tmp, ev_const, ev_func, putT_some, get_put_eq, get_put_ne, Nat.reduceEqDiff, not_false_eq_true, ofList_get, List.getElem?_cons_zero, List.getElem?_cons_succ, Option.getD_some, dresults, tupled, List.map_cons, List.map_nil, getN, reduceCtorEq, Bool.not_false, pp, pv, d24, hfind]
  | true =>
    rw [hin] at hfind
    obtain ⟨x, hx, hk⟩ := isAt_true hin
    have hil := (List.getElem?_eq_some_iff.1 hx).1
    have hv : valOf k L = x.2 := by unfold valOf; rw [hx]; simp [hk]
    rw [hv]
    obtain ⟨b, sp, hvv, hsp, hb, hwb⟩ := c.sl.at (fun e => by rw [e] at hel; simp at hel; omega)
    rw [hel] at hvv
    rw [hvv] at gq
    have hg1 := entV_get1 hx
    simp (maxSteps := 4000000) only [WC_seq, WC_region, WC_cond, WC_skip, WC_ret, contS_normal, contR_ap, WO_nil, WO_pp, condC_false, contO_ap, atS_ap, W_some, W_mv, W_un, W_nilck, W_fadr, W_ixL, W_ext, W_ld, W_call, dpure, Ends_ret, ev_tmp, ev_const, ev_func, putT_some, get_put_eq, get_put_ne, Nat.reduceEqDiff, not_false_eq_true, ofList_get, List.getElem?_cons_zero, List.getElem?_cons_succ, Option.getD_some, dresults, tupled, List.map_cons, List.map_nil, ldV_at, Cells.get, getN, Nat.zero_add, Nat.blt_eq, if_true, reduceCtorEq, Bool.not_true, pp, pv, Nat.add_zero, asIdx_cast, d24, hfind, gq, hb, hil, hg1]
theorem rnext_ok (hlf : L.length < E.lf) (hl : L.length < 1000000) (c : RefS s q v L room) (k : Int) : dcall E (d + 2) (.func (.func 25) #[] #[]) [.pointer (some ⟨q, 0, none⟩), .int .i64 k] s = some (.tuple ⟨nextA k L⟩, s) := by
  have hfind := rfind_ok hR hlf hl c k (d := d)
  have gq := c.gq
  have hel := entV_len L
  have hple := pos_le k L
  rw [← W_iff, W_enter0 hR2.iNext hR2.fNext rfl]
  by_cases hlt : pos k L < L.length
  · have hx : L[pos k L]? = some L[pos k L] := List.getElem?_eq_getElem hlt
    generalize L[pos k L] = x at hx
    have hna : nextA k L = [.int .i64 x.1, .int .i64 x.2, .bool true] := by unfold nextA; rw [hx]
    rw [hna]
    obtain ⟨b, sp, hvv, hsp, hb, hwb⟩ := c.sl.at (fun e => by rw [e] at hel; simp at hel; omega)
    rw [hel] at hvv
    rw [hvv] at gq
    have hg1 := entV_get1 hx
    have hg0 := entV_get0 hx
    have e1 : ¬ (L.length : Int) ≤ (pos k L : Int) := by omega
    simp (maxSteps := 4000000) only [WC_seq, WC_region, WC_cond, WC_skip, WC_ret, contS_normal, contR_ap, WO_nil, WO_pp, condC_false, contO_ap, atS_ap, W_some, W_mv, W_bin, W_nilck, W_fadr, W_ixL, W_ext, W_blenL, W_ld, W_call, dpure, dbin, dint, Ends_ret, ev_tmp, ev_const, ev_func, putT_some, get_put_eq, get_put_ne, Nat.reduceEqDiff, not_false_eq_true, ofList_get, List.getElem?_cons_zero, List.getElem?_cons_succ, Option.getD_some, dresults, tupled, List.map_cons, List.map_nil, ldV_at, Cells.get, getN, Nat.zero_add, Nat.blt_eq, if_true, reduceCtorEq, pp, pv, Nat.add_zero, asIdx_cast, decide_false, d25, hfind, gq, hb, hlt, hg1, hg0, e1]
  · have hx : L[pos k L]? = none := List.getElem?_eq_none (by omega)
    have hna : nextA k L = [.int .i64 0, .int .i64 0, .bool false] := by unfold nextA; rw [hx]
    rw [hna]
    obtain ⟨a, hvv⟩ := c.sl.shape
    rw [hel] at hvv
    rw [hvv] at gq
    have e1 : (L.length : Int) ≤ (pos k L : Int) := by omega
    simp (maxSteps := 4000000) only [WC_seq, WC_region, WC_cond, WC_ret, contS_normal, contS_ret, contR_ap, WO_nil, WO_pp, condC_true, contO_ap, atS_ap, W_some, W_mv, W_bin, W_nilck, W_fadr, W_ext, W_blenL, W_ld, W_call, dpure, dbin, dint, Ends_ret, ev_tmp, ev_const, ev_func, putT_some, get_put_eq, get_put_ne, Nat.reduceEqDiff, not_false_eq_true, ofList_get, List.getElem?_cons_zero, List.getElem?_cons_succ, Option.getD_some, dresults, tupled, List.map_cons, List.map_nil, ldV_at, Cells.get, getN, if_true, reduceCtorEq, pp, pv, Nat.add_zero, decide_true, d25, hfind, gq, e1]
theorem rdel_ok (hlf : L.length < E.lf) (hl : L.length < 1000000) (c : RefS s q v L room) (hG : s.Good) (k : Int) :
    W (dcall E (d + 2) (.func (.func 43) #[] #[]) [.pointer (some ⟨q, 0, none⟩), .int .i64 k] s) fun r => r.1 = .bool (isAt k L) ∧ ∃ w, RefS r.2 q w (delL k L) room ∧ Ext [q] s r.2 ∧ ∀ j, j ∈ blk w → j ∈ blk v ∨ s.next ≤ j := by
  have hfind := rfind_ok hR hlf hl c k (d := d)
  have gq := c.gq
  have wq := c.wq
  have hql := DS.get_lt' gq
  have hvl := c.sl.lt
  obtain ⟨av, hv⟩ := c.sl.shape
  have hel := entV_len L
  refine W_cps fun Q hQ => ?_
  rw [W_enter0 hR2.iDel hR2.fDel rfl]
  cases hin : isAt k L with
  | false =>
    rw [hin] at hfind hQ
    have hd : delL k L = L := by unfold delL; rw [hin]; simp
    rw [hd] at hQ
    simp (maxSteps := 4000000) only [WC_seq, WC_region, WC_cond, WC_skip, WC_ret, contS_normal, contR_ap, WO_nil, WO_pp, condC_false, contO_ap, atS_ap, W_some, W_mv, W_ext, W_call, dpure, Ends_ret, ev_tmp, ev_const, ev_func, putT_some, get_put_eq, get_put_ne, Nat.reduceEqDiff, not_false_eq_true, ofList_get, List.getElem?_cons_zero, List.getElem?_cons_succ, Option.getD_some, dresults, tupled, List.map_cons, List.map_nil, getN, reduceCtorEq, pp, pv, d43, hfind]
    exact hQ _ ⟨rfl, v, c, .refl, fun j hj => .inl hj⟩
  | true =>
    rw [hin] at hfind hQ
    have hd : delL k L = L.eraseIdx (pos k L) := by unfold delL; rw [hin]; simp
    obtain ⟨x, hx, hk⟩ := isAt_true hin
    have hil := (List.getElem?_eq_some_iff.1 hx).1
    have gq' := gq
    rw [hv, hel] at gq'
    have hnq' : ∀ o, (s.new o).get q = some (.cells (.list [.slice av L.length L.length, .int .i64 room]) false) := fun o => (DS.new_get_lt hql).trans gq'
    have hq1 : Nat.ble s.next q = false := by rw [bleF]; omega
    have hv' := hv
    rw [hel] at hv'
    have w1p : dwrap .i64 ((pos k L : Int) + 1) = ((pos k L + 1 : Nat) : Int) := by rw [dwrap_in (by omega) (by omega)]; omega
    obtain ⟨w1, e1, v1, _, b1⟩ := slV_ok c.sl (entV_ok L) (lo := none) (hi := some (.int .i64 (pos k L : Int))) (i := 0) (j := pos k L) rfl rfl (Nat.zero_le _) (by omega)
    obtain ⟨w2, e2, v2, _, b2⟩ := slV_ok c.sl (entV_ok L) (lo := some (.int .i64 ((pos k L + 1 : Nat) : Int))) (hi := none) (i := pos k L + 1) (j := (entV L).length) rfl rfl (by omega) (Nat.le_refl _)
    have v1' : SlV s 2 w1 (entV (L.take (pos k L))) := by have := v1; rwa [List.drop_zero, show (entV L).take (pos k L) = entV (L.take (pos k L)) from List.map_take.symm] at this
    have v2' : SlV s 2 w2 (entV (L.drop (pos k L + 1))) := by have := v2; rwa [List.take_length, show (entV L).drop (pos k L + 1) = entV (L.drop (pos k L + 1)) from List.map_drop.symm] at this
    rw [hv'] at e1 e2
    simp (maxSteps := 4000000) only [WC_seq, WC_region, WC_cond, contS_normal, contR_ap, WO_nil, WO_pp, WO_pn, WO_hn, condC_true, contO_ap, contN_ap, contHN_ap, atS_ap, atL_ap, W_some, W_mv, W_bin, W_nilck, W_fadr, W_ext, W_ld, W_call, dpure, dbin, dint, ev_tmp, ev_const, ev_func, putT_some, get_put_eq, get_put_ne, Nat.reduceEqDiff, not_false_eq_true, ofList_get, List.getElem?_cons_zero, List.getElem?_cons_succ, Option.getD_some, List.map_cons, List.map_nil, ldV_at, Cells.get, getN, Nat.ble_eq, Nat.reduceLeDiff, if_true, reduceCtorEq, fillParts, List.nil_append, List.cons_append, pp, pv, Option.map_some, nextN, nextM, W_slV, W_app, W_bslice, Option.map_none, repeatZ, atL_ap, unmask_mask, Nat.add_zero, Nat.zero_mul, foot, mask_get, hidden, noteAt, Bool.or_false, Bool.false_and, d43, hfind, gq', hnq', mask_get, hidden, noteAt, Bool.or_false, Bool.false_and, hq1, e1, e2, w1p]
    obtain ⟨S2, hS2⟩ : ∃ S2 : DS, S2 = s.new (.cells (.list []) false) := ⟨_, rfl⟩
    rw [← hS2]
    have X2 : Ext [] s S2 := by rw [hS2]; exact Ext.new
    have hG2 := X2.good hG
    have n2 : S2.next = s.next + 1 := by rw [hS2]; rfl
    have ga : S2.get s.next = some (.cells (.list []) false) := by rw [hS2]; simp (maxSteps := 4000000) (maxDischargeDepth := 8) only [get_new_at, hG]
    have wa : S2.wr s.next = true := X2.wrs (hG _ (Nat.le_refl _)).2
    clear hS2
    have o1 : RowsOk 2 (entV (L.take (pos k L))) := entV_ok _
    have l1 : (entV (L.take (pos k L))).length ≤ 1000000 := by rw [entV_len, List.length_take]; omega
    have l2 : (entV (L.drop (pos k L + 1))).length ≤ 1000000 := by rw [entV_len, List.length_drop]; omega
    refine W.mono (appM_ok (s := S2) (lx := []) (ly := entV (L.take (pos k L))) (.inr ⟨s.next, none, rfl, .inl rfl, ga, wa⟩) (v1'.of fun j hj => X2.get j (hvl j (b1 j hj)) (by simp)) RowsOk.nil o1 hG2 (by simp; omega) (by simp; omega) ?_ ?_ ?_) ?_
    · intro j hj
      simp [blk] at hj
      subst hj
      exact ⟨by (simp only [hidden, shielded, noteAt, memN, Bool.or_false, Bool.or_eq_false_iff, Bool.and_eq_false_iff, bleF, bltF, beqF, true_and, and_true, true_or, or_true] <;> omega), by (simp only [hidden, shielded, noteAt, memN, Bool.or_false, Bool.or_eq_false_iff, Bool.and_eq_false_iff, bleF, bltF, beqF, true_and, and_true, true_or, or_true] <;> omega)⟩
    · intro j hj
      have := hvl j (b1 j hj)
      (simp only [hidden, shielded, noteAt, memN, Bool.or_false, Bool.or_eq_false_iff, Bool.and_eq_false_iff, bleF, bltF, beqF, true_and, and_true, true_or, or_true] <;> omega)
    · intro j hj
      exact ⟨by (simp only [hidden, shielded, noteAt, memN, Bool.or_false, Bool.or_eq_false_iff, Bool.and_eq_false_iff, bleF, bltF, beqF, true_and, and_true, true_or, or_true] <;> omega), by (simp only [hidden, shielded, noteAt, memN, Bool.or_false, Bool.or_eq_false_iff, Bool.and_eq_false_iff, bleF, bltF, beqF, true_and, and_true, true_or, or_true] <;> omega)⟩
    rintro ⟨w3, s3⟩ ⟨x3, X3, b3, n3⟩
    simp only [List.nil_append] at x3 X3 b3 n3
    obtain ⟨S3, hS3⟩ : ∃ S3 : DS, S3 = unmask S2 s3 := ⟨_, rfl⟩
    rw [← hS3] at x3 X3 n3
    have hG3 := X3.good hG2
    have X3' : Ext [] s S3 := X2.trans X3 (by simp [blk])
    have hb3 : ∀ j, j ∈ blk w3 → s.next ≤ j := fun j hj => by
      rcases b3 j hj with h | h
      · simp [blk] at h; omega
      · omega
    simp (maxSteps := 4000000) only [WO_pn, contHN_ap, ev_tmp, putT_some, get_put_eq, get_put_ne, Nat.reduceEqDiff, not_false_eq_true, Option.getD_some, List.nil_append, List.cons_append, W_app, foot, ← hS3, n3]
    refine W.mono (appV_ok x3 (v2'.of fun j hj => X3'.get j (hvl j (b2 j hj)) (by simp)) o1 (entV_ok _) hG3 (by omega) (by omega)) ?_
    rintro ⟨w5, s5⟩ ⟨x5, X5, b5⟩
    simp only at x5 X5 b5
    have X5' : Ext [] s s5 := X3'.trans X5 (fun j hj => .inr (hb3 j hj))
    have hb5 : ∀ j, j ∈ blk w5 → s.next ≤ j := fun j hj => by
      rcases b5 j hj with h | h
      · exact hb3 j h
      · have := X3'.le; omega
    have gq5 := X5'.keep gq' (by simp)
    have wq5 := X5'.wrs wq
    obtain ⟨a5, hw5⟩ := x5.shape
    subst hw5
    have hcat : entV (L.take (pos k L)) ++ entV (L.drop (pos k L + 1)) = entV (delL k L) := by
      rw [hd, List.eraseIdx_eq_take_drop_succ]
      unfold entV
      rw [List.map_append]
    rw [hcat] at x5 hb5 ⊢
    simp (maxSteps := 4000000) only [WC_seq, WC_region, WC_ret, contS_normal, contR_ap, WO_nil, WO_pp, WO_pn, contO_ap, contN_ap, atS_ap, atD_ap, W_some, W_mv, W_nilck, W_fadr, W_st, dpure, Ends_ret, ev_tmp, putT_some, putT_none, get_put_eq, get_put_ne, Nat.reduceEqDiff, not_false_eq_true, Option.getD_some, dresults, tupled, Nat.zero_add, Nat.reduceAdd, st_wr, cells_slice, List.length_cons, List.length_nil, allOne, oneCellD, Bool.and_self, Bool.and_true, Nat.beq_eq, Nat.ble_eq, Nat.reduceLeDiff, if_true, DS.wrC, Cells.size, Cells.fillFrom, Cells.set, setN, List.nil_append, List.cons_append, DS.upd_next, Nat.add_zero, foot, gq5, wq5]
    refine hQ _ ⟨rfl, .slice a5 (entV (delL k L)).length (entV (delL k L)).length, ⟨?_, ?_, ?_, ?_, rise_del c.so k⟩, ?_, ?_⟩
    · simp (maxSteps := 4000000) only [DS.upd_get_self, Option.map_some, gq5]
    · simp (maxSteps := 4000000) only [DS.upd_wr, wq5]
    · exact x5.keep (Ext.upd (F := [q]) (.inl (by simp))) fun j hj => by have := hb5 j hj; simp; omega
    · intro hq
      have := hb5 q hq
      omega
    · exact (X5'.weaken (by simp)).trans' (Ext.upd (.inl (by simp)))
    · exact fun j hj => .inr (hb5 j hj)
theorem rfork_ok (c : RefS s q v L room) (hl : L.length < 1000000) (hG : s.Good) :
    W (dcall E (d + 1) (.func (.func 41) #[] #[]) [.pointer (some ⟨q, 0, none⟩)] s) fun r => ∃ q' w, r.1 = .pointer (some ⟨q', 0, none⟩) ∧ RefS r.2 q' w L room ∧ Ext [] s r.2 ∧ s.next ≤ q' ∧ ∀ j, j ∈ blk w → s.next ≤ j := by
  have gq := c.gq
  have hql := DS.get_lt' gq
  have hvl := c.sl.lt
  have hel := entV_len L
  refine W_cps fun Q hQ => ?_
  rw [W_enter0 hR2.iFork hR2.fFork rfl]
  have hnq : ∀ o, (s.new o).get q = some (.cells (.list [v, .int .i64 room]) false) := fun o => (DS.new_get_lt hql).trans gq
  have hq1 : Nat.ble s.next q = false := by rw [bleF]; omega
  simp (maxSteps := 4000000) only [WC_seq, WC_region, contS_normal, contR_ap, WO_nil, WO_pp, WO_pn, WO_hn, contO_ap, contN_ap, contHN_ap, atS_ap, atL_ap, W_some, W_mv, W_nilck, W_fadr, W_ld, dpure, ev_tmp, ev_const, putT_some, get_put_eq, get_put_ne, Nat.reduceEqDiff, not_false_eq_true, ofList_get, List.getElem?_cons_zero, Option.getD_some, ldV_at, Cells.get, getN, Nat.zero_add, Nat.ble_eq, Nat.reduceLeDiff, reduceCtorEq, fillParts, List.nil_append, List.cons_append, pp, nextN, nextM, W_app, W_bslice, repeatZ, atL_ap, unmask_mask, Nat.add_zero, Nat.zero_mul, foot, mask_get, hidden, noteAt, Bool.or_false, Bool.false_and, d41, hnq, mask_get, hidden, noteAt, Bool.or_false, Bool.false_and, hq1]
  obtain ⟨S2, hS2⟩ : ∃ S2 : DS, S2 = s.new (.cells (.list []) false) := ⟨_, rfl⟩
  rw [← hS2]
  have X2 : Ext [] s S2 := by rw [hS2]; exact Ext.new
  have hG2 := X2.good hG
  have n2 : S2.next = s.next + 1 := by rw [hS2]; rfl
  have ga : S2.get s.next = some (.cells (.list []) false) := by rw [hS2]; simp (maxSteps := 4000000) (maxDischargeDepth := 8) only [get_new_at, hG]
  have wa : S2.wr s.next = true := X2.wrs (hG _ (Nat.le_refl _)).2
  clear hS2
  refine W.mono (appM_ok (s := S2) (lx := []) (ly := entV L) (.inr ⟨s.next, none, rfl, .inl rfl, ga, wa⟩) ((c.sl.view (entV_ok L)).of fun j hj => X2.get j (hvl j hj) (by simp)) RowsOk.nil (entV_ok L) hG2 (by simp; omega) (by simp; omega) ?_ ?_ ?_) ?_
  · intro j hj
    simp [blk] at hj
    subst hj
    exact ⟨by (simp only [hidden, shielded, noteAt, memN, Bool.or_false, Bool.or_eq_false_iff, Bool.and_eq_false_iff, bleF, bltF, beqF, true_and, and_true, true_or, or_true] <;> omega), by (simp only [hidden, shielded, noteAt, memN, Bool.or_false, Bool.or_eq_false_iff, Bool.and_eq_false_iff, bleF, bltF, beqF, true_and, and_true, true_or, or_true] <;> omega)⟩
  · intro j hj
    have := hvl j hj
    (simp only [hidden, shielded, noteAt, memN, Bool.or_false, Bool.or_eq_false_iff, Bool.and_eq_false_iff, bleF, bltF, beqF, true_and, and_true, true_or, or_true] <;> omega)
  · intro j hj
    exact ⟨by (simp only [hidden, shielded, noteAt, memN, Bool.or_false, Bool.or_eq_false_iff, Bool.and_eq_false_iff, bleF, bltF, beqF, true_and, and_true, true_or, or_true] <;> omega), by (simp only [hidden, shielded, noteAt, memN, Bool.or_false, Bool.or_eq_false_iff, Bool.and_eq_false_iff, bleF, bltF, beqF, true_and, and_true, true_or, or_true] <;> omega)⟩
  rintro ⟨w3, s3⟩ ⟨x3, X3, b3, n3⟩
  simp only [List.nil_append] at x3 X3 b3 n3
  obtain ⟨S3, hS3⟩ : ∃ S3 : DS, S3 = unmask S2 s3 := ⟨_, rfl⟩
  rw [← hS3] at x3 X3 n3
  have hG3 := X3.good hG2
  have X3' : Ext [] s S3 := X2.trans X3 (by simp [blk])
  have hb3 : ∀ j, j ∈ blk w3 → s.next ≤ j := fun j hj => by
    rcases b3 j hj with h | h
    · simp [blk] at h; omega
    · omega
  have hw3l := x3.lt
  obtain ⟨a3, hw3⟩ := x3.shape
  subst hw3
  simp (maxSteps := 4000000) only [WC_ret, contS_normal, contR_ap, WO_nil, WO_pn, contN_ap, contHN_ap, atG_ap, W_some, W_mv, W_build, W_box, Ends_ret, ev_tmp, putT_some, get_put_eq, get_put_ne, Nat.reduceEqDiff, not_false_eq_true, Option.getD_some, dresults, tupled, Nat.zero_add, Nat.reduceAdd, cells_int, cells_slice, cells_agg, List.length_cons, List.length_nil, Bool.and_self, Bool.and_eq_true, Nat.beq_eq, Nat.ble_eq, Nat.reduceLeDiff, Nat.le_refl, and_self, if_true, fillParts, List.take_zero, List.take_succ_cons, List.drop_succ_cons, List.drop_zero, List.nil_append, List.cons_append, List.drop_nil, List.append_nil, nextN, foot, ← hS3, n3]
  have XN : ∀ ob, Ext [] S3 (S3.new ob) := fun ob => Ext.new
  refine hQ _ ⟨S3.next, _, rfl, ⟨DS.new_get_self hG3, (hG3 _ (Nat.le_refl _)).2, x3.keep (XN _) (by simp), fun h => by have := hw3l _ h; omega, c.so⟩, X3'.trans' (XN _), X3'.le, hb3⟩
end
end Go.Dx.OvA
/- The reference overlay: without, set (made by tools/gen.py out of ow.t). -/
set_option linter.unusedVariables false
set_option linter.unusedSimpArgs false
set_option linter.unusedSectionVars false
set_option maxRecDepth 100000
set_option maxHeartbeats 4000000
namespace Go.Dx.OvA
open Go Go.Dx Go.Dx.Search Go.Dx.St Go.Proofs.Ytlpjlananbjgcaa
structure R4Fns (E : Env) : Prop where
  fNew : E.fn 19 = some d19
  iNew : E.intr 19 = none
  fPut : E.fn 20 = some d20
  iPut : E.intr 20 = none
  fDel : E.fn 21 = some d21
  iDel : E.intr 21 = none
  fCom : E.fn 22 = some d22
  iCom : E.intr 22 = none
  fDrop : E.fn 23 = some d23
  iDrop : E.intr 23 = none
  fset : E.fn 42 = some d42
  iset : E.intr 42 = none
  fwo : E.fn 44 = some d44
  iwo : E.intr 44 = none
  fr : ∀ d, CallFrame (dcall E d)
  lf : 10000 ≤ E.lf
/-- the reference overlay in memory -/
structure YAt (s : DS) (y q qn : Nat) (v : Value) (C : List Chg) : Prop where
  gy : s.get y = some (.cells (.list [.pointer (some ⟨q, 0, none⟩), .pointer (some ⟨qn, 0, none⟩), v]) false)
  wy : s.wr y = true
  sl : SlX s 3 v (chsV C)
  ne : y ∉ blk v
theorem YAt.keep {s s' : DS} {y q qn : Nat} {v : Value} {C : List Chg} {F : List Nat} (c : YAt s y q qn v C) (e : Ext F s s') (h1 : y ∉ F) (h2 : ∀ k, k ∈ blk v → k ∉ F) : YAt s' y q qn v C :=
  ⟨e.keep c.gy h1, e.wrs c.wy, c.sl.keep e h2, c.ne⟩
theorem ltN_snoc {k : Int} {C : List Chg} {i : Nat} {c : Chg} (h : C[i]? = some c) : ltN k (C.take (i + 1)) = ltN k (C.take i) + if c.1 < k then 1 else 0 := by
  unfold ltN
  rw [List.take_add_one, h, List.filter_append, List.length_append]
  by_cases h1 : c.1 < k <;> simp [h1]
theorem woC_snoc {k : Int} {C : List Chg} {i : Nat} {c : Chg} (h : C[i]? = some c) : woC k (C.take (i + 1)) = woC k (C.take i) ++ if c.1 = k then [] else [c] := by
  unfold woC
  rw [List.take_add_one, h, List.filter_append]
  by_cases h1 : c.1 = k <;> simp [h1]
theorem ltN_le {k : Int} {C : List Chg} : ltN k C ≤ C.length := List.length_filter_le ..
theorem woC_le {k : Int} {C : List Chg} : (woC k C).length ≤ C.length := List.length_filter_le ..
structure WoI (s : DS) (y : Nat) (k : Int) (C : List Chg) (n : Nat) (x : St) : Prop where
  ex : ∃ (i : Nat) (w : Value), n = C.length - i ∧ i ≤ C.length ∧ x.defers = [] ∧ (x.t.get 0 = some (.pointer (some ⟨y, 0, none⟩)) ∧ x.t.get 1 = some (.int .i64 k) ∧ x.t.get 6 = some w ∧ x.t.get 7 = some (.int .i64 (ltN k (C.take i) : Int)) ∧ x.t.get 8 = some (.int .i64 (i : Int))) ∧
    SlX x.s 3 w (chsV (woC k (C.take i))) ∧ Ext [] s x.s ∧ ∀ j, j ∈ blk w → s.next ≤ j
section
variable {E : Env} (h4 : R4Fns E) {s s' : DS} {d : Nat} {y q qn : Nat} {v : Value} {C : List Chg}
include h4
theorem without_ok (c : YAt s y q qn v C) (hl : C.length ≤ 9000) (hG : s.Good) (k : Int) :
    W (dcall E (d + 1) (.func (.func 44) #[] #[]) [.pointer (some ⟨y, 0, none⟩), .int .i64 k] s) fun r => ∃ w, r.1 = .tuple ⟨[w, .int .i64 (ltN k C : Int)]⟩ ∧ SlX r.2 3 w (chsV (woC k C)) ∧ Ext [] s r.2 ∧ ∀ j, j ∈ blk w → s.next ≤ j := by
  have hlf := h4.lf
  have hcl := chsV_len C
  have gy := c.gy
  have hyl := DS.get_lt' gy
  refine W_cps fun Q hQ => ?_
  rw [W_enter0 h4.iwo h4.fwo rfl]
  simp (maxSteps := 4000000) only [WC_seq, WC_region, WC_block, contS_normal, contR_ap, WO_nil, WO_pp, contO_ap, W_mv, ev_const, putT_some, pp, pv, d44]
  refine WC_loop (WoI s y k C) C.length (by omega) ⟨0, .slice none 0 0, rfl, Nat.zero_le _, rfl, ?_, .nil, .refl, by simp [blk]⟩ ?_
  · simp (maxSteps := 4000000) only [get_put_eq, get_put_ne, Nat.reduceEqDiff, not_false_eq_true, ofList_get, List.getElem?_cons_zero, List.getElem?_cons_succ, Bool.true_and, true_and, reduceCtorEq, List.take_zero]
    exact ⟨rfl, rfl⟩
  rintro n ⟨t, S, ds⟩ hn ⟨i, w, rfl, hi, hds, ⟨g0, g1, g6, g7, g8⟩, hw, X, hb⟩
  simp only at hds g0 g1 g6 g7 g8 hw X
  subst hds
  have hGS := X.good hG
  have cS := c.keep X (by simp) (by simp)
  have gyS := cS.gy
  by_cases c1 : i < C.length
  · have hx : C[i]? = some C[i] := List.getElem?_eq_getElem c1
    generalize C[i] = ch at hx
    obtain ⟨b, sp, hvv, hsp, hgb, hwb⟩ := cS.sl.at (fun e => by rw [e] at hcl; simp at hcl; omega)
    rw [hcl] at hvv
    rw [hvv] at gyS
    have hg0 : getN (chsV C).flatten (i * 3) = some (.int .i64 ch.1) := by
      have := flatten_get (j := 0) (chsV_ok C).len (chsV_at hx) rfl
      rwa [Nat.add_zero] at this
    have hrd : S.read b 0 ((chsV C).length * 3) = some (chsV C).flatten := by
      unfold DS.read
      rw [hgb]
      simp only
      have := (chsV_ok C).flat
      rw [take_list _ _ _ (by omega)]
      simp only [List.drop_zero]
      rw [List.take_of_length_le (by omega)]
    have hld : ldA 3 (.pointer (some ⟨b, i * 3, none⟩)) S = some (.agg ⟨[.int .i64 ch.1, .int .i64 ch.2.1, .bool ch.2.2]⟩) := by
      have h := row_read hrd (chsV_ok C).len (chsV_at hx)
      rw [Nat.zero_add] at h
      unfold ldA
      simp only [h]
      rfl
    have e1 : (i : Int) < (C.length : Int) := by omega
    have w1 : dwrap .i64 ((i : Int) + 1) = ((i + 1 : Nat) : Int) := by rw [dwrap_in (by omega) (by omega)]; omega
    have hat : ltN k (C.take i) ≤ i := by have := @ltN_le k (C.take i); rw [List.length_take] at this; omega
    have w2 : dwrap .i64 ((ltN k (C.take i) : Int) + 1) = ((ltN k (C.take i) + 1 : Nat) : Int) := by rw [dwrap_in (by omega) (by omega)]; omega
    have hls := ltN_snoc (k := k) hx
    have hws := woC_snoc (k := k) hx
    have hwl : (woC k (C.take i)).length ≤ i := by have := @woC_le k (C.take i); rw [List.length_take] at this; omega
    have happ : ∀ {t' : PT Value}, t'.get 0 = some (.pointer (some ⟨y, 0, none⟩)) → t'.get 1 = some (.int .i64 k) → True := fun _ _ => trivial
    by_cases c2 : ch.1 < k
    · have c3 : ¬ ch.1 = k := by omega
      rw [if_pos c2] at hls
      rw [if_neg c3] at hws
      simp (maxSteps := 4000000) (maxDischargeDepth := 8) only [WC_seq, WC_region, WC_cond, WC_block, WC_skip, contS_normal, contR_ap, WO_nil, WO_pp, condC_true, contO_ap, atS_ap, atL_ap, W_some, W_mv, W_bin, W_nilck, W_fadr, W_ixL, W_blenL, W_ld, dpure, dbin, dint, ev_tmp, ev_const, putT_some, get_put_eq, get_put_ne, not_false_eq_true, Option.getD_some, ldV_at, Cells.get, getN, Nat.zero_add, Nat.reduceAdd, cells_agg, List.length_cons, List.length_nil, Bool.and_self, Bool.and_eq_true, Nat.beq_eq, Nat.ble_eq, Nat.blt_eq, Nat.reduceLeDiff, Nat.le_refl, and_self, if_true, Bool.not_false, fillParts, List.take_zero, List.drop_succ_cons, List.nil_append, List.drop_nil, List.append_nil, W_app, W_bslice, repeatZ, Nat.reduceMul, atL_ap, W_ldA, Nat.add_zero, asIdx_cast, decide_true, decide_false, eq_lt, eq_gt, Nat.reduceLT, Nat.lt_add_one, Nat.succ_pos, g0, g1, g6, g7, g8, e1, gyS, c1, hgb, hg0, c2, c3, hld, w2, W_app]
      have XN : Ext [] S (S.new (.cells (.list [.int .i64 ch.1, .int .i64 ch.2.1, .bool ch.2.2]) false)) := Ext.new
      have hvn : SlV (S.new (.cells (.list [.int .i64 ch.1, .int .i64 ch.2.1, .bool ch.2.2]) false)) 3 (.slice (some ⟨S.next, 0, none⟩) 1 1) (chsV [ch]) := .inr ⟨S.next, 0, none, 1, rfl, by unfold DS.read; rw [DS.new_get_self hGS]; rfl⟩
      have hwln := chsV_len (woC k (C.take i))
      refine W.mono (appV_ok (hw.keep XN (by simp)) hvn (chsV_ok _) (chsV_ok _) (XN.good hGS) (by rw [hwln]; simp [chsV]; omega) (by rw [hwln]; simp [chsV]; omega)) ?_
      rintro ⟨w3, s3⟩ ⟨x3, X3, b3⟩
      simp only at x3 X3 b3
      have X03 : Ext [] s s3 := (X.trans' XN).trans X3 (fun j hj => .inr (hb j hj))
      simp (maxSteps := 4000000) only [WC_region, contS_normal, contB_normal, contR_ap, contL_normal, WO_nil, WO_pp, contO_ap, atS_ap, W_some, W_mv, W_bin, dbin, dint, ev_tmp, ev_const, putT_some, get_put_eq, get_put_ne, Nat.reduceEqDiff, not_false_eq_true, Option.getD_some, if_true, g0, g1, g7, g8, w1]
      refine ⟨C.length - (i + 1), by omega, ⟨i + 1, w3, rfl, by omega, rfl, by simp (maxSteps := 4000000) only [get_put_eq, get_put_ne, Nat.reduceEqDiff, not_false_eq_true, Bool.and_self, and_self, reduceCtorEq, g0, g1, g7, hls], ?_, X03, fun j hj => ?_⟩⟩
      · rw [hws]
        unfold chsV at x3 ⊢
        rw [List.map_append]
        exact x3
      · rcases b3 j hj with h | h
        · exact hb j h
        · have := X.le
          have h2 : S.next + 1 ≤ j := h
          omega
    · rw [if_neg c2] at hls
      by_cases c3 : ch.1 = k
      · rw [if_pos c3, List.append_nil] at hws
        have c2' : ¬ k < k := by omega
        simp (maxSteps := 4000000) (maxDischargeDepth := 8) only [WC_seq, WC_region, WC_cond, WC_block, WC_skip, contS_normal, contB_normal, contR_ap, contL_normal, WO_nil, WO_pp, condC_true, condC_false, contO_ap, atS_ap, W_some, W_mv, W_bin, W_nilck, W_fadr, W_ixL, W_blenL, W_ld, dpure, dbin, dint, ev_tmp, ev_const, putT_some, get_put_eq, get_put_ne, not_false_eq_true, Option.getD_some, ldV_at, Cells.get, getN, Nat.zero_add, Nat.blt_eq, if_true, Bool.not_true, Nat.add_zero, asIdx_cast, decide_true, decide_false, eq_lt, Nat.reduceLT, Nat.lt_add_one, Nat.succ_pos, g0, g1, g6, g7, g8, e1, gyS, c1, hgb, hg0, c2', c3, hld, w1]
        refine ⟨C.length - (i + 1), by omega, ⟨i + 1, w, rfl, by omega, rfl, by simp (maxSteps := 4000000) only [get_put_eq, get_put_ne, Nat.reduceEqDiff, not_false_eq_true, Bool.and_self, and_self, reduceCtorEq, Nat.add_zero, g0, g1, g6, g7, hls], by rw [hws]; exact hw, X, hb⟩⟩
      · rw [if_neg c3] at hws
        simp (maxSteps := 4000000) (maxDischargeDepth := 8) only [WC_seq, WC_region, WC_cond, WC_block, WC_skip, contS_normal, contR_ap, WO_nil, WO_pp, condC_true, condC_false, contO_ap, atS_ap, atL_ap, W_some, W_mv, W_bin, W_nilck, W_fadr, W_ixL, W_blenL, W_ld, dpure, dbin, dint, ev_tmp, putT_some, get_put_eq, get_put_ne, not_false_eq_true, Option.getD_some, ldV_at, Cells.get, getN, Nat.zero_add, Nat.reduceAdd, cells_agg, List.length_cons, List.length_nil, Bool.and_self, Bool.and_eq_true, Nat.beq_eq, Nat.ble_eq, Nat.blt_eq, Nat.reduceLeDiff, Nat.le_refl, and_self, if_true, Bool.not_false, fillParts, List.take_zero, List.drop_succ_cons, List.nil_append, List.drop_nil, List.append_nil, W_app, W_bslice, repeatZ, Nat.reduceMul, atL_ap, W_ldA, Nat.add_zero, asIdx_cast, decide_true, decide_false, eq_lt, Nat.reduceLT, Nat.lt_add_one, Nat.succ_pos, g0, g1, g6, g7, g8, e1, gyS, c1, hgb, hg0, c2, c3, hld, W_app]
        have XN : Ext [] S (S.new (.cells (.list [.int .i64 ch.1, .int .i64 ch.2.1, .bool ch.2.2]) false)) := Ext.new
        have hvn : SlV (S.new (.cells (.list [.int .i64 ch.1, .int .i64 ch.2.1, .bool ch.2.2]) false)) 3 (.slice (some ⟨S.next, 0, none⟩) 1 1) (chsV [ch]) := .inr ⟨S.next, 0, none, 1, rfl, by unfold DS.read; rw [DS.new_get_self hGS]; rfl⟩
        have hwln := chsV_len (woC k (C.take i))
        refine W.mono (appV_ok (hw.keep XN (by simp)) hvn (chsV_ok _) (chsV_ok _) (XN.good hGS) (by rw [hwln]; simp [chsV]; omega) (by rw [hwln]; simp [chsV]; omega)) ?_
        rintro ⟨w3, s3⟩ ⟨x3, X3, b3⟩
        simp only at x3 X3 b3
        have X03 : Ext [] s s3 := (X.trans' XN).trans X3 (fun j hj => .inr (hb j hj))
        simp (maxSteps := 4000000) only [WC_region, contS_normal, contB_normal, contR_ap, contL_normal, WO_nil, WO_pp, contO_ap, atS_ap, W_some, W_mv, W_bin, dbin, dint, ev_tmp, ev_const, putT_some, get_put_eq, get_put_ne, Nat.reduceEqDiff, not_false_eq_true, Option.getD_some, if_true, g0, g1, g7, g8, w1]
        refine ⟨C.length - (i + 1), by omega, ⟨i + 1, w3, rfl, by omega, rfl, by simp (maxSteps := 4000000) only [get_put_eq, get_put_ne, Nat.reduceEqDiff, not_false_eq_true, Bool.and_self, and_self, reduceCtorEq, Nat.add_zero, g0, g1, g7, hls], ?_, X03, fun j hj => ?_⟩⟩
        · rw [hws]
          unfold chsV at x3 ⊢
          rw [List.map_append]
          exact x3
        · rcases b3 j hj with h | h
          · exact hb j h
          · have := X.le
            have h2 : S.next + 1 ≤ j := h
            omega
  · obtain rfl : i = C.length := by omega
    have e1 : ¬ (C.length : Int) < (C.length : Int) := by omega
    obtain ⟨a, hvv⟩ := cS.sl.shape
    rw [hcl] at hvv
    rw [hvv] at gyS
    simp (maxSteps := 4000000) only [WC_seq, WC_region, WC_cond, WC_ret, WC_exit, contS_normal, contS_exit, contB_exit, contR_ap, contL_exit, WO_nil, WO_pp, condC_false, contO_ap, atS_ap, W_some, W_mv, W_bin, W_nilck, W_fadr, W_blenL, W_ld, dpure, dbin, dint, Ends_ret, ev_tmp, putT_some, get_put_eq, get_put_ne, Nat.reduceEqDiff, not_false_eq_true, Option.getD_some, dresults, tupled, ldV_at, Cells.get, getN, Nat.zero_add, if_true, reduceCtorEq, decide_false, g0, g1, g6, g7, g8, e1, gyS]
    rw [List.take_length] at hw ⊢
    exact hQ _ ⟨w, rfl, hw, X, hb⟩
theorem set_ok (c : YAt s y q qn v C) (hr : RiseC C) (hl : C.length ≤ 9000) (hG : s.Good) (ch : Chg) :
    W (dcall E (d + 2) (.func (.func 42) #[] #[]) [.pointer (some ⟨y, 0, none⟩), .agg ⟨[.int .i64 ch.1, .int .i64 ch.2.1, .bool ch.2.2]⟩] s) fun r => ∃ w, YAt r.2 y q qn w (setC ch C) ∧ Ext [y] s r.2 ∧ ∀ j, j ∈ blk w → s.next ≤ j := by
  have hyl := DS.get_lt' c.gy
  refine W_cps fun Q hQ => ?_
  rw [W_enter0 h4.iset h4.fset rfl]
  simp (maxSteps := 4000000) (maxDischargeDepth := 8) only [WC_seq, WC_region, contS_normal, contR_ap, WO_nil, WO_pp, contO_ap, atS_ap, W_some, W_mv, W_fadr, W_ld, W_box, W_call, dpure, ev_tmp, ev_func, putT_some, get_put_eq, get_put_ne, not_false_eq_true, ofList_get, List.getElem?_cons_zero, List.getElem?_cons_succ, Option.getD_some, List.map_cons, List.map_nil, ldV_at, Cells.get, getN, cells_agg, pp, pv, Nat.add_zero, get_new_at, eq_lt, Nat.reduceLT, Nat.lt_add_one, Nat.succ_pos, d42, hG]
  obtain ⟨S0, hS0⟩ : ∃ S0 : DS, S0 = s.new (.cells (.list [.int .i64 ch.1, .int .i64 ch.2.1, .bool ch.2.2]) false) := ⟨_, rfl⟩
  rw [← hS0]
  have X0 : Ext [] s S0 := by rw [hS0]; exact Ext.new
  have hG0 := X0.good hG
  have gc : S0.get s.next = some (.cells (.list [.int .i64 ch.1, .int .i64 ch.2.1, .bool ch.2.2]) false) := by rw [hS0]; simp (maxSteps := 4000000) (maxDischargeDepth := 8) only [get_new_at, hG]
  have n0 : S0.next = s.next + 1 := by rw [hS0]; rfl
  clear hS0
  refine W.mono (without_ok h4 (d := d) (c.keep X0 (by simp) (by simp)) hl hG0 ch.1) ?_
  rintro ⟨v1, s1⟩ ⟨w, hv1, hw, X1, hb⟩
  simp only at hv1 hw X1
  subst hv1
  have X01 := X0.trans' X1
  have hG1 := X01.good hG
  have gc1 := X1.keep gc (by simp)
  have gy1 := X01.keep c.gy (by simp)
  have wy1 := X01.wrs c.wy
  have hsl : s.next < s1.next := DS.get_lt' gc1
  have hwl := hw.lt
  have hwlen := chsV_len (woC ch.1 C)
  have hwo : (woC ch.1 C).length ≤ C.length := woC_le
  have hat : ltN ch.1 C ≤ (woC ch.1 C).length := by
    rw [woC_split ch.1 hr, List.length_append]
    exact Nat.le_add_right _ _
  obtain ⟨D, hD⟩ : ∃ D, D = woC ch.1 C := ⟨_, rfl⟩
  obtain ⟨a, ha⟩ : ∃ a, a = ltN ch.1 C := ⟨_, rfl⟩
  have hset : setC ch C = D.take a ++ ch :: D.drop a := by rw [hD, ha]; rfl
  rw [← hD] at hw hwlen hwo hat
  rw [← ha] at hat ⊢
  obtain ⟨w1, e1, v1, _, b1⟩ := slV_ok hw (chsV_ok D) (lo := none) (hi := some (.int .i64 (a : Int))) (i := 0) (j := a) rfl rfl (Nat.zero_le _) (by omega)
  obtain ⟨w2, e2, v2, _, b2⟩ := slV_ok hw (chsV_ok D) (lo := some (.int .i64 (a : Int))) (hi := none) (i := a) (j := (chsV D).length) rfl rfl (by omega) (Nat.le_refl _)
  have v1' : SlV s1 3 w1 (chsV (D.take a)) := by have := v1; rwa [List.drop_zero, show (chsV D).take a = chsV (D.take a) from List.map_take.symm] at this
  have v2' : SlV s1 3 w2 (chsV (D.drop a)) := by have := v2; rwa [List.take_length, show (chsV D).drop a = chsV (D.drop a) from List.map_drop.symm] at this
  have hq1 : Nat.ble s1.next s.next = false := by rw [bleF]; omega
  have hnq : ∀ o, (s1.new o).get s.next = some (.cells (.list [.int .i64 ch.1, .int .i64 ch.2.1, .bool ch.2.2]) false) := fun o => (DS.new_get_lt hsl).trans gc1
  simp (maxSteps := 4000000) only [WC_region, contS_normal, contR_ap, WO_nil, WO_pp, WO_pn, WO_hn, contO_ap, contN_ap, contHN_ap, atS_ap, atL_ap, W_some, W_mv, W_ext, dpure, ev_tmp, putT_some, get_put_eq, get_put_ne, Nat.reduceEqDiff, not_false_eq_true, ofList_get, List.getElem?_cons_zero, Option.getD_some, Cells.get, getN, Nat.zero_add, Nat.reduceAdd, cells_agg, List.length_cons, List.length_nil, Bool.and_self, Bool.and_eq_true, Nat.beq_eq, Nat.ble_eq, Nat.reduceLeDiff, Nat.le_refl, and_self, if_true, reduceCtorEq, fillParts, List.take_zero, List.drop_succ_cons, List.nil_append, List.cons_append, List.drop_nil, List.append_nil, Option.map_some, nextN, nextM, W_slV, W_app, W_bslice, Option.map_none, repeatZ, Nat.reduceMul, atL_ap, W_ldA, ldA, unmask_mask, Nat.zero_mul, foot, mask_get, hidden, noteAt, Bool.or_false, Bool.false_and, DS.read, Cells.take, gc1, hnq, mask_get, hidden, noteAt, Bool.or_false, Bool.false_and, hq1, e1, e2]
  obtain ⟨S2, hS2⟩ : ∃ S2 : DS, S2 = (s1.new (.cells (.list []) false)).new (.cells (.list [.int .i64 ch.1, .int .i64 ch.2.1, .bool ch.2.2]) false) := ⟨_, rfl⟩
  rw [← hS2]
  have X2 : Ext [] s1 S2 := by rw [hS2]; exact Ext.new.trans' Ext.new
  have hG2 := X2.good hG1
  have n2 : S2.next = s1.next + 2 := by rw [hS2]; rfl
  have ga : S2.get s1.next = some (.cells (.list []) false) := by rw [hS2]; simp (maxSteps := 4000000) (maxDischargeDepth := 8) only [nextN, get_new_at, get_new_ne, good_new, Nat.lt_add_one, hG1]
  have gb : S2.get (s1.next + 1) = some (.cells (.list [.int .i64 ch.1, .int .i64 ch.2.1, .bool ch.2.2]) false) := by rw [hS2]; simp (maxSteps := 4000000) (maxDischargeDepth := 8) only [nextN, get_new_at, good_new, hG1]
  have wa : S2.wr s1.next = true := X2.wrs (hG1 _ (Nat.le_refl _)).2
  clear hS2
  have o1 : RowsOk 3 (chsV (D.take a)) := chsV_ok _
  have l1 : (chsV (D.take a)).length ≤ 1000000 := by rw [chsV_len, List.length_take]; omega
  have l2 : (chsV (D.drop a)).length ≤ 1000000 := by rw [chsV_len, List.length_drop]; omega
  have lc : (chsV [ch]).length = 1 := rfl
  refine W.mono (appM_ok (s := S2) (lx := []) (ly := chsV (D.take a)) (.inr ⟨s1.next, none, rfl, .inl rfl, ga, wa⟩) (v1'.of fun j hj => X2.get j (hwl j (b1 j hj)) (by simp)) RowsOk.nil o1 hG2 (by simp; omega) (by simp; omega) ?_ ?_ ?_) ?_
  · intro j hj
    simp [blk] at hj
    subst hj
    exact ⟨by (simp only [hidden, shielded, noteAt, memN, Bool.or_false, Bool.or_eq_false_iff, Bool.and_eq_false_iff, bleF, bltF, beqF, true_and, and_true, true_or, or_true] <;> omega), by (simp only [hidden, shielded, noteAt, memN, Bool.or_false, Bool.or_eq_false_iff, Bool.and_eq_false_iff, bleF, bltF, beqF, true_and, and_true, true_or, or_true] <;> omega)⟩
  · intro j hj
    have := hwl j (b1 j hj)
    (simp only [hidden, shielded, noteAt, memN, Bool.or_false, Bool.or_eq_false_iff, Bool.and_eq_false_iff, bleF, bltF, beqF, true_and, and_true, true_or, or_true] <;> omega)
  · intro j hj
    exact ⟨by (simp only [hidden, shielded, noteAt, memN, Bool.or_false, Bool.or_eq_false_iff, Bool.and_eq_false_iff, bleF, bltF, beqF, true_and, and_true, true_or, or_true] <;> omega), by (simp only [hidden, shielded, noteAt, memN, Bool.or_false, Bool.or_eq_false_iff, Bool.and_eq_false_iff, bleF, bltF, beqF, true_and, and_true, true_or, or_true] <;> omega)⟩
  rintro ⟨w3, s3⟩ ⟨x3, X3, b3, n3⟩
  simp only [List.nil_append] at x3 X3 b3 n3
  obtain ⟨S3, hS3⟩ : ∃ S3 : DS, S3 = unmask S2 s3 := ⟨_, rfl⟩
  rw [← hS3] at x3 X3 n3
  have hG3 := X3.good hG2
  have X3' : Ext [] s1 S3 := X2.trans X3 (by simp [blk])
  have hb3 : ∀ j, j ∈ blk w3 → s1.next ≤ j := fun j hj => by
    rcases b3 j hj with h | h
    · simp [blk] at h; omega
    · omega
  have gb3 := X3.keep gb (by simp [blk])
  simp (maxSteps := 4000000) only [WO_pn, contHN_ap, ev_tmp, putT_some, get_put_eq, get_put_ne, Nat.reduceEqDiff, not_false_eq_true, Option.getD_some, List.nil_append, List.cons_append, W_app, foot, ← hS3, n3, W_app]
  refine W.mono (appV_ok (ly := chsV [ch]) x3 (.inr ⟨s1.next + 1, 0, none, 1, rfl, by unfold DS.read; rw [gb3]; rfl⟩) o1 (chsV_ok _) hG3 (by omega) (by omega)) ?_
  rintro ⟨w4, s4⟩ ⟨x4, X4, b4⟩
  simp only at x4 X4 b4
  have hG4 := X4.good hG3
  have X4' : Ext [] s1 s4 := X3'.trans X4 (fun j hj => .inr (hb3 j hj))
  have hb4 : ∀ j, j ∈ blk w4 → s1.next ≤ j := fun j hj => by
    rcases b4 j hj with h | h
    · exact hb3 j h
    · have := X3'.le; omega
  have l4 : (chsV (D.take a) ++ chsV [ch]).length ≤ 1000001 := by rw [List.length_append, lc]; omega
  simp (maxSteps := 4000000) only [WO_pn, contN_ap, ev_tmp, putT_some, get_put_eq, get_put_ne, Nat.reduceEqDiff, not_false_eq_true, Option.getD_some, List.nil_append, List.cons_append, W_app, foot, W_app]
  refine W.mono (appV_ok x4 (v2'.of fun j hj => X4'.get j (hwl j (b2 j hj)) (by simp)) (o1.append (chsV_ok _)) (chsV_ok _) hG4 (by omega) (by omega)) ?_
  rintro ⟨w5, s5⟩ ⟨x5, X5, b5⟩
  simp only at x5 X5 b5
  have X5' : Ext [] s1 s5 := X4'.trans X5 (fun j hj => .inr (hb4 j hj))
  have hb5 : ∀ j, j ∈ blk w5 → s1.next ≤ j := fun j hj => by
    rcases b5 j hj with h | h
    · exact hb4 j h
    · have := X4'.le; omega
  have gy5 := X5'.keep gy1 (by simp)
  have wy5 := X5'.wrs wy1
  have hcat : chsV (D.take a) ++ chsV [ch] ++ chsV (D.drop a) = chsV (setC ch C) := by
    rw [hset]
    unfold chsV
    rw [List.map_append, List.append_assoc]; rfl
  rw [hcat] at x5
  obtain ⟨a5, hw5⟩ := x5.shape
  subst hw5
  have hl1 := X01.le
  simp (maxSteps := 4000000) only [contR_ap, WO_nil, WO_pn, contN_ap, atS_ap, atD_ap, W_some, W_nilck, W_fadr, W_st, dpure, Ends_normal, ev_tmp, putT_some, putT_none, get_put_eq, get_put_ne, Nat.reduceEqDiff, not_false_eq_true, Option.getD_some, dresults, tupled, Nat.zero_add, Nat.reduceAdd, st_wr, cells_slice, List.length_cons, List.length_nil, allOne, oneCellD, Bool.and_self, Bool.and_true, Nat.beq_eq, Nat.ble_eq, Nat.le_refl, if_true, DS.wrC, Cells.size, Cells.fillFrom, Cells.set, setN, List.nil_append, List.cons_append, DS.upd_next, foot, gy5, wy5]
  refine hQ _ ⟨.slice a5 (chsV (setC ch C)).length (chsV (setC ch C)).length, ⟨?_, ?_, ?_, ?_⟩, ?_, fun j hj => Nat.le_trans hl1 (hb5 j hj)⟩
  · simp (maxSteps := 4000000) only [DS.upd_get_self, Option.map_some, gy5]
  · simp (maxSteps := 4000000) only [DS.upd_wr, wy5]
  · exact x5.keep (Ext.upd (F := [y]) (.inl (by simp))) fun j hj => by have := hb5 j hj; simp; omega
  · intro hq
    have := hb5 y hq
    omega
  · exact ((X01.trans' X5').weaken (by simp)).trans' (Ext.upd (.inl (by simp)))
end
end Go.Dx.OvA
/- The reference overlay: New, Put, Delete, Commit, Drop (made by tools/gen.py out of oy.t). -/
set_option linter.unusedVariables false
set_option linter.unusedSimpArgs false
set_option linter.unusedSectionVars false
set_option maxRecDepth 100000
set_option maxHeartbeats 4000000
namespace Go.Dx.OvA
open Go Go.Dx Go.Dx.Search Go.Dx.St Go.Proofs.Ytlpjlananbjgcaa
/-- what the reference overlay owns -/
def ry (y q qn : Nat) (v w wn : Value) : List Nat := y :: q :: qn :: (blk w ++ (blk wn ++ blk v))
structure RY (S : DS) (y q qn : Nat) (v w wn : Value) (B T : List Ent) (C : List Chg) (room : Int) : Prop where
  ya : YAt S y q qn v C
  rb : RefS S q w B room
  rn : RefS S qn wn T room
  d1 : y ≠ q
  d2 : y ≠ qn
  d3 : q ≠ qn
  e : ∀ k, k ∈ blk w ++ (blk wn ++ blk v) → k ≠ y ∧ k ≠ q ∧ k ≠ qn
theorem RY.keep {S S' : DS} {y q qn : Nat} {v w wn : Value} {B T : List Ent} {C : List Chg} {room : Int} {F : List Nat} (c : RY S y q qn v w wn B T C room) (X : Ext F S S') (h : ∀ k, k ∈ ry y q qn v w wn → k ∉ F) : RY S' y q qn v w wn B T C room :=
  ⟨c.ya.keep X (h y (by simp [ry])) (fun k hk => h k (by simp [ry, hk])), c.rb.keep X (h q (by simp [ry])) (fun k hk => h k (by simp [ry, hk])), c.rn.keep X (h qn (by simp [ry])) (fun k hk => h k (by simp [ry, hk])), c.d1, c.d2, c.d3, c.e⟩
theorem RY.lt {S : DS} {y q qn : Nat} {v w wn : Value} {B T : List Ent} {C : List Chg} {room : Int} (c : RY S y q qn v w wn B T C room) : ∀ k, k ∈ ry y q qn v w wn → k < S.next := by
  intro k hk
  simp only [ry, List.mem_cons, List.mem_append] at hk
  rcases hk with rfl | rfl | rfl | hk | hk | hk
  · exact DS.get_lt' c.ya.gy
  · exact DS.get_lt' c.rb.gq
  · exact DS.get_lt' c.rn.gq
  · exact c.rb.sl.lt k hk
  · exact c.rn.sl.lt k hk
  · exact c.ya.sl.lt k hk
def putC (k v : Int) (T : List Ent) (room : Int) (C : List Chg) : List Chg := if putE k T room = 0 then setC (k, v, false) C else C
def delC' (k : Int) (B T : List Ent) (C : List Chg) : List Chg := if isAt k T then (if isAt k B then setC (k, 0, true) C else woC k C) else C
section
variable {E : Env} (hR : R3Fns E) (hR2 : R3Fns2 E) (h4 : R4Fns E) {s s' : DS} {d : Nat} {y q qn : Nat} {v w wn : Value} {B T : List Ent} {C : List Chg} {room : Int}
include hR hR2 h4
theorem ynew_ok (c : RefS s q w B room) (hl : B.length ≤ 5000) (hG : s.Good) :
    W (dcall E (d + 2) (.func (.func 19) #[] #[]) [.pointer (some ⟨q, 0, none⟩)] s) fun r => ∃ y qn wn, r.1 = .pointer (some ⟨y, 0, none⟩) ∧ RY r.2 y q qn (.slice none 0 0) w wn B B [] room ∧ Ext [] s r.2 ∧ ∀ j, j ∈ ry y q qn (.slice none 0 0) w wn → j ∈ q :: blk w ∨ s.next ≤ j := by
  have hql := DS.get_lt' c.gq
  have hwl := c.sl.lt
  refine W_cps fun Q hQ => ?_
  rw [W_enter0 h4.iNew h4.fNew rfl]
  simp (maxSteps := 4000000) only [WC_seq, WC_region, contS_normal, contR_ap, WO_nil, WO_pp, contO_ap, W_mv, W_call, ev_tmp, ev_const, ev_func, putT_some, get_put_eq, get_put_ne, not_false_eq_true, ofList_get, List.getElem?_cons_zero, Option.getD_some, List.map_cons, List.map_nil, reduceCtorEq, pp, pv, d19]
  refine W.mono (rfork_ok hR hR2 (d := d) c (by omega) hG) ?_
  rintro ⟨v1, s1⟩ ⟨qn, wn, h1, c1, X1, b1, b2⟩
  simp only at h1 c1 X1
  subst h1
  have hG1 := X1.good hG
  have hn1 := X1.le
  have hqn := DS.get_lt' c1.gq
  have hwn := c1.sl.lt
  simp (maxSteps := 4000000) only [WC_ret, contS_normal, contR_ap, WO_nil, WO_pp, contO_ap, atG_ap, W_some, W_mv, W_build, W_box, Ends_ret, ev_tmp, putT_some, get_put_eq, get_put_ne, Nat.reduceEqDiff, not_false_eq_true, Option.getD_some, dresults, tupled, Nat.zero_add, Nat.reduceAdd, cells_ptr, cells_agg, List.length_cons, List.length_nil, Bool.and_self, Bool.and_eq_true, Nat.beq_eq, Nat.ble_eq, Nat.reduceLeDiff, and_self, if_true, fillParts, List.take_zero, List.take_succ_cons, List.drop_succ_cons, List.drop_zero, List.nil_append, List.cons_append]
  have XN : ∀ ob, Ext [] s1 (s1.new ob) := fun ob => Ext.new
  refine hQ _ ⟨s1.next, qn, wn, rfl, ⟨⟨DS.new_get_self hG1, (hG1 _ (Nat.le_refl _)).2, .nil, by simp [blk]⟩, (c.keep X1 (by simp) (by simp)).keep (XN _) (by simp) (by simp), c1.keep (XN _) (by simp) (by simp), by omega, by omega, by omega, fun k hk => ?_⟩, X1.trans' (XN _), fun j hj => ?_⟩
  · simp only [List.mem_append] at hk
    rcases hk with hk | hk | hk
    · have := hwl k hk
      exact ⟨by omega, fun e => c.ne (e ▸ hk), by omega⟩
    · have h1 := hwn k hk
      have h2 := b2 k hk
      exact ⟨by omega, by omega, fun e => c1.ne (e ▸ hk)⟩
    · simp [blk] at hk
  · simp only [ry, List.mem_cons, List.mem_append] at hj
    rcases hj with rfl | rfl | rfl | hj | hj | hj
    · exact .inr hn1
    · exact .inl (List.mem_cons_self ..)
    · exact .inr b1
    · exact .inl (List.mem_cons_of_mem _ hj)
    · exact .inr (b2 j hj)
    · simp [blk] at hj
theorem yput_ok (c : RY s y q qn v w wn B T C room) (hr : RiseC C) (hl : C.length ≤ 9000) (hlT : T.length ≤ 5000) (hG : s.Good) (k x : Int) :
    W (dcall E (d + 3) (.func (.func 20) #[] #[]) [.pointer (some ⟨y, 0, none⟩), .int .i64 k, .int .i64 x] s) fun r => r.1 = .int .i64 (putE k T room) ∧ ∃ v' wn', RY r.2 y q qn v' w wn' B (putR k x T room) (putC k x T room C) room ∧ Ext [y, qn] s r.2 ∧ ∀ j, j ∈ ry y q qn v' w wn' → j ∈ ry y q qn v w wn ∨ s.next ≤ j := by
  have hlf := h4.lf
  have gy := c.ya.gy
  have hlt := c.lt
  refine W_cps fun Q hQ => ?_
  rw [W_enter0 h4.iPut h4.fPut rfl]
  simp (maxSteps := 4000000) only [WC_seq, WC_region, contS_normal, contR_ap, WO_nil, WO_pp, contO_ap, atS_ap, W_some, W_mv, W_nilck, W_fadr, W_ld, W_call, dpure, ev_tmp, ev_const, ev_func, putT_some, get_put_eq, get_put_ne, Nat.reduceEqDiff, not_false_eq_true, ofList_get, List.getElem?_cons_zero, List.getElem?_cons_succ, Option.getD_some, List.map_cons, List.map_nil, ldV_at, Cells.get, getN, Nat.zero_add, reduceCtorEq, pp, pv, d20, gy]
  refine W.mono (rput_ok hR (d := d) (by omega) (by omega) c.rn hG k x) ?_
  rintro ⟨v1, s1⟩ ⟨h1, wn', c1, X1, b1⟩
  simp only at h1 c1 X1
  subst h1
  have hG1 := X1.good hG
  have hyqn : y ∉ [qn] := by simp; exact c.d2
  have hya1 := c.ya.keep X1 hyqn (fun k hk => by simp; exact (c.e k (by simp [hk])).2.2)
  have hrb1 := c.rb.keep X1 (by simp; exact c.d3) (fun k hk => by simp; exact (c.e k (by simp [hk])).2.2)
  have hwn' : ∀ j, j ∈ blk wn' → j ≠ y ∧ j ≠ q ∧ j ≠ qn := fun j hj => by
    rcases b1 j hj with h | h
    · exact c.e j (by simp [h])
    · have h1 := hlt y (by simp [ry]); have h2 := hlt q (by simp [ry]); have h3 := hlt qn (by simp [ry])
      omega
  by_cases hz : putE k T room = 0
  · have hC : putC k x T room C = setC (k, x, false) C := by unfold putC; rw [if_pos hz]
    rw [hC, hz] at hQ
    simp (maxSteps := 4000000) only [WC_seq, WC_region, WC_cond, contS_normal, contR_ap, WO_nil, WO_pp, condC_true, contO_ap, atS_ap, atG_ap, W_some, W_mv, W_bin, W_build, W_call, dbin, dint, ev_tmp, ev_const, ev_func, putT_some, get_put_eq, get_put_ne, Nat.reduceEqDiff, not_false_eq_true, ofList_get, List.getElem?_cons_zero, List.getElem?_cons_succ, Option.getD_some, List.map_cons, List.map_nil, Nat.zero_add, Nat.reduceAdd, cells_int, List.length_cons, List.length_nil, Bool.and_self, Bool.and_eq_true, Nat.beq_eq, Nat.ble_eq, Nat.reduceLeDiff, and_self, if_true, reduceCtorEq, fillParts, List.take_zero, List.take_succ_cons, List.drop_succ_cons, List.drop_zero, List.nil_append, List.cons_append, decide_true, hz]
    refine W.mono (set_ok h4 (d := d) hya1 hr hl hG1 (k, x, false)) ?_
    rintro ⟨v2, s2⟩ ⟨v', hya2, X2, b2⟩
    simp only at hya2 X2
    simp (maxSteps := 4000000) only [WC_seq, WC_region, WC_ret, contS_normal, contR_ap, WO_nil, WO_pp, contO_ap, W_some, W_mv, Ends_ret, ev_tmp, putT_some, get_put_eq, get_put_ne, Nat.reduceEqDiff, not_false_eq_true, Option.getD_some, dresults, tupled]
    have hy1 : ∀ k, k ∈ blk w ++ blk wn' → k ∉ [y] := fun k hk => by
      simp only [List.mem_append] at hk
      simp only [List.mem_singleton]
      rcases hk with hk | hk
      · exact (c.e k (by simp [hk])).1
      · exact (hwn' k hk).1
    refine hQ _ ⟨rfl, v', wn', ⟨hya2, hrb1.keep X2 (by simp; exact c.d1.symm) (fun k hk => hy1 k (by simp [hk])), c1.keep X2 (by simp; exact c.d2.symm) (fun k hk => hy1 k (by simp [hk])), c.d1, c.d2, c.d3, fun j hj => ?_⟩, (X1.weaken (by simp)).trans' (X2.weaken (by simp)), fun j hj => ?_⟩
    · simp only [List.mem_append] at hj
      rcases hj with hj | hj | hj
      · exact c.e j (by simp [hj])
      · exact hwn' j hj
      · have h0 := b2 j hj
        have h5 := X1.le
        have h1 := hlt y (by simp [ry]); have h2 := hlt q (by simp [ry]); have h3 := hlt qn (by simp [ry])
        omega
    · simp only [ry, List.mem_cons, List.mem_append] at hj ⊢
      rcases hj with rfl | rfl | rfl | hj | hj | hj
      · simp
      · simp
      · simp
      · simp [hj]
      · rcases b1 j hj with h | h
        · simp [h]
        · exact .inr h
      · exact .inr (Nat.le_trans X1.le (b2 j hj))
  · have hC : putC k x T room C = C := by unfold putC; rw [if_neg hz]
    rw [hC] at hQ
    simp (maxSteps := 4000000) only [WC_seq, WC_region, WC_cond, WC_skip, WC_ret, contS_normal, contR_ap, WO_nil, WO_pp, condC_false, contO_ap, atS_ap, W_some, W_mv, W_bin, dbin, dint, Ends_ret, ev_tmp, ev_const, putT_some, get_put_eq, get_put_ne, Nat.reduceEqDiff, not_false_eq_true, Option.getD_some, dresults, tupled, if_true, decide_false, hz]
    refine hQ _ ⟨rfl, v, wn', ⟨hya1, hrb1, c1, c.d1, c.d2, c.d3, fun j hj => ?_⟩, X1.weaken (by simp), fun j hj => ?_⟩
    · simp only [List.mem_append] at hj
      rcases hj with hj | hj | hj
      · exact c.e j (by simp [hj])
      · exact hwn' j hj
      · exact c.e j (by simp [hj])
    · simp only [ry, List.mem_cons, List.mem_append] at hj ⊢
      rcases hj with rfl | rfl | rfl | hj | hj | hj
      · simp
      · simp
      · simp
      · simp [hj]
      · rcases b1 j hj with h | h
        · simp [h]
        · exact .inr h
      · simp [hj]
theorem ydel_ok (c : RY s y q qn v w wn B T C room) (hr : RiseC C) (hl : C.length ≤ 9000) (hlT : T.length ≤ 5000) (hlB : B.length ≤ 5000) (hG : s.Good) (k : Int) :
    W (dcall E (d + 3) (.func (.func 21) #[] #[]) [.pointer (some ⟨y, 0, none⟩), .int .i64 k] s) fun r => r.1 = .bool (isAt k T) ∧ ∃ v' wn', RY r.2 y q qn v' w wn' B (delL k T) (delC' k B T C) room ∧ Ext [y, qn] s r.2 ∧ ∀ j, j ∈ ry y q qn v' w wn' → j ∈ ry y q qn v w wn ∨ s.next ≤ j := by
  have hlf := h4.lf
  have gy := c.ya.gy
  have hlt := c.lt
  refine W_cps fun Q hQ => ?_
  rw [W_enter0 h4.iDel h4.fDel rfl]
  simp (maxSteps := 4000000) only [WC_seq, WC_region, contS_normal, contR_ap, WO_nil, WO_pp, contO_ap, atS_ap, W_some, W_mv, W_nilck, W_fadr, W_ld, W_call, dpure, ev_tmp, ev_const, ev_func, putT_some, get_put_eq, get_put_ne, Nat.reduceEqDiff, not_false_eq_true, ofList_get, List.getElem?_cons_zero, List.getElem?_cons_succ, Option.getD_some, List.map_cons, List.map_nil, ldV_at, Cells.get, getN, Nat.zero_add, reduceCtorEq, pp, pv, d21, gy]
  refine W.mono (rdel_ok hR hR2 (d := d) (by omega) (by omega) c.rn hG k) ?_
  rintro ⟨v1, s1⟩ ⟨h1, wn', c1, X1, b1⟩
  simp only at h1 c1 X1
  subst h1
  have hG1 := X1.good hG
  have hyqn : y ∉ [qn] := by simp; exact c.d2
  have hya1 := c.ya.keep X1 hyqn (fun k hk => by simp; exact (c.e k (by simp [hk])).2.2)
  have hrb1 := c.rb.keep X1 (by simp; exact c.d3) (fun k hk => by simp; exact (c.e k (by simp [hk])).2.2)
  have hwn' : ∀ j, j ∈ blk wn' → j ≠ y ∧ j ≠ q ∧ j ≠ qn := fun j hj => by
    rcases b1 j hj with h | h
    · exact c.e j (by simp [h])
    · have h1 := hlt y (by simp [ry]); have h2 := hlt q (by simp [ry]); have h3 := hlt qn (by simp [ry])
      omega
  have gy1 := hya1.gy
  cases hat : isAt k T with
  | false =>
    have hC : delC' k B T C = C := by unfold delC'; rw [hat]; simp
    rw [hC, hat] at hQ
    simp (maxSteps := 4000000) only [WC_seq, WC_region, WC_cond, WC_ret, contS_normal, contS_ret, contR_ap, WO_nil, WO_pp, condC_true, contO_ap, atS_ap, W_some, W_mv, W_un, dpure, Ends_ret, ev_tmp, ev_const, putT_some, get_put_eq, Option.getD_some, dresults, tupled, Bool.not_false]
    refine hQ _ ⟨rfl, v, wn', ⟨hya1, hrb1, c1, c.d1, c.d2, c.d3, fun j hj => ?_⟩, X1.weaken (by simp), fun j hj => ?_⟩
    · simp only [List.mem_append] at hj
      rcases hj with hj | hj | hj
      · exact c.e j (by simp [hj])
      · exact hwn' j hj
      · exact c.e j (by simp [hj])
    · simp only [ry, List.mem_cons, List.mem_append] at hj ⊢
      rcases hj with rfl | rfl | rfl | hj | hj | hj
      · simp
      · simp
      · simp
      · simp [hj]
      · rcases b1 j hj with h | h
        · simp [h]
        · exact .inr h
      · simp [hj]
  | true =>
    rw [hat] at hQ
    have hget := rget_ok hR hR2 (d := d) (by omega) (by omega) hrb1 k
    have hy1 : ∀ k, k ∈ blk w ++ blk wn' → k ∉ [y] := fun k hk => by
      simp only [List.mem_append] at hk
      simp only [List.mem_singleton]
      rcases hk with hk | hk
      · exact (c.e k (by simp [hk])).1
      · exact (hwn' k hk).1
    have hfin : ∀ (S2 : DS) (v' : Value) (C' : List Chg), YAt S2 y q qn v' C' → Ext [y] s1 S2 → (∀ j, j ∈ blk v' → s1.next ≤ j) → delC' k B T C = C' → Q (.bool true, S2) := fun S2 v' C' hya2 X2 b2 hC => by
      subst hC
      refine hQ _ ⟨rfl, v', wn', ⟨hya2, hrb1.keep X2 (by simp; exact c.d1.symm) (fun k hk => hy1 k (by simp [hk])), c1.keep X2 (by simp; exact c.d2.symm) (fun k hk => hy1 k (by simp [hk])), c.d1, c.d2, c.d3, fun j hj => ?_⟩, (X1.weaken (by simp)).trans' (X2.weaken (by simp)), fun j hj => ?_⟩
      · simp only [List.mem_append] at hj
        rcases hj with hj | hj | hj
        · exact c.e j (by simp [hj])
        · exact hwn' j hj
        · have h0 := b2 j hj
          have h5 := X1.le
          have h1 := hlt y (by simp [ry]); have h2 := hlt q (by simp [ry]); have h3 := hlt qn (by simp [ry])
          omega
      · simp only [ry, List.mem_cons, List.mem_append] at hj ⊢
        rcases hj with rfl | rfl | rfl | hj | hj | hj
        · simp
        · simp
        · simp
        · simp [hj]
        · rcases b1 j hj with h | h
          · simp [h]
          · exact .inr h
        · exact .inr (Nat.le_trans X1.le (b2 j hj))
    cases hab : isAt k B with
    | true =>
      rw [hab] at hget
      simp (maxSteps := 4000000) only [WC_seq, WC_region, WC_cond, WC_skip, contS_normal, contR_ap, WO_nil, WO_pp, condC_true, condC_false, contO_ap, atS_ap, atG_ap, W_some, W_mv, W_un, W_nilck, W_build, W_fadr, W_ext, W_ld, W_call, dpure, ev_tmp, ev_const, ev_func, putT_some, get_put_eq, get_put_ne, Nat.reduceEqDiff, not_false_eq_true, ofList_get, List.getElem?_cons_zero, List.getElem?_cons_succ, Option.getD_some, List.map_cons, List.map_nil, ldV_at, Cells.get, getN, Nat.zero_add, Nat.reduceAdd, cells_int, cells_bool, List.length_cons, List.length_nil, Bool.and_self, Bool.and_eq_true, Nat.beq_eq, Nat.ble_eq, Nat.reduceLeDiff, Nat.le_refl, and_self, if_true, reduceCtorEq, Bool.not_true, fillParts, List.take_zero, List.take_succ_cons, List.drop_succ_cons, List.drop_zero, List.nil_append, List.cons_append, List.drop_nil, List.append_nil, Nat.add_zero, gy1, hget]
      refine W.mono (set_ok h4 (d := d) hya1 hr hl hG1 (k, 0, true)) ?_
      rintro ⟨v2, s2⟩ ⟨v', hya2, X2, b2⟩
      simp only at hya2 X2
      simp (maxSteps := 4000000) only [WC_seq, WC_region, WC_ret, contS_normal, contR_ap, WO_nil, WO_pp, contO_ap, W_some, W_mv, Ends_ret, ev_const, putT_some, get_put_eq, Option.getD_some, dresults, tupled]
      exact hfin _ v' _ hya2 X2 b2 (by unfold delC'; rw [hat, hab]; simp)
    | false =>
      rw [hab] at hget
      simp (maxSteps := 4000000) only [WC_seq, WC_region, WC_cond, WC_skip, contS_normal, contR_ap, WO_nil, WO_pp, condC_false, contO_ap, atS_ap, W_some, W_mv, W_un, W_nilck, W_fadr, W_ext, W_ld, W_call, dpure, ev_tmp, ev_func, putT_some, get_put_eq, get_put_ne, Nat.reduceEqDiff, not_false_eq_true, ofList_get, List.getElem?_cons_zero, List.getElem?_cons_succ, Option.getD_some, List.map_cons, List.map_nil, ldV_at, Cells.get, getN, reduceCtorEq, Bool.not_true, Nat.add_zero, gy1, hget]
      refine W.mono (without_ok h4 (d := d + 1) hya1 hl hG1 k) ?_
      rintro ⟨v2, s2⟩ ⟨v', h2, hw2, X2, b2⟩
      simp only at h2 hw2 X2
      subst h2
      have gy2 := X2.keep gy1 (by simp)
      have wy2 := X2.wrs hya1.wy
      have hyl2 := hlt y (by simp [ry])
      have hn12 := X1.le
      obtain ⟨a, hv'⟩ := hw2.shape
      subst hv'
      simp (maxSteps := 4000000) only [WC_seq, WC_region, WC_ret, contS_normal, contR_ap, WO_nil, WO_pp, contO_ap, atS_ap, atD_ap, W_some, W_mv, W_nilck, W_fadr, W_ext, W_st, dpure, Ends_ret, ev_tmp, ev_const, putT_some, putT_none, get_put_eq, get_put_ne, Nat.reduceEqDiff, not_false_eq_true, Option.getD_some, dresults, tupled, getN, Nat.zero_add, Nat.reduceAdd, st_wr, cells_slice, List.length_cons, List.length_nil, allOne, oneCellD, Bool.and_self, Bool.and_true, Nat.beq_eq, Nat.ble_eq, Nat.le_refl, if_true, DS.wrC, Cells.size, Cells.fillFrom, Cells.set, setN, gy2, wy2]
      refine hfin _ _ (woC k C) ⟨?_, ?_, hw2.keep (Ext.upd (F := [y]) (.inl (by simp))) (fun j hj => by have := b2 j hj; simp; omega), fun hj => by have := b2 y hj; omega⟩ ((X2.weaken (by simp)).trans' (Ext.upd (.inl (by simp)))) b2 (by unfold delC'; rw [hat, hab]; simp)
      · simp (maxSteps := 4000000) only [DS.upd_get_self, Option.map_some, gy2]
      · simp (maxSteps := 4000000) only [DS.upd_wr, wy2]
omit hR hR2 h4 in
theorem RefS.of {s s' : DS} {q : Nat} {v : Value} {L : List Ent} {room : Int} (c : RefS s q v L room) (h : ∀ k, k ∈ q :: blk v → s'.get k = s.get k ∧ (s.wr k = true → s'.wr k = true)) : RefS s' q v L room :=
  ⟨(h q (List.mem_cons_self ..)).1.trans c.gq, (h q (List.mem_cons_self ..)).2 c.wq, c.sl.of fun k hk => h k (List.mem_cons_of_mem _ hk), c.ne, c.so⟩
theorem ydrop_ok (c : RY s y q qn v w wn B T C room) (hlB : B.length ≤ 5000) (hG : s.Good) :
    W (dcall E (d + 2) (.func (.func 23) #[] #[]) [.pointer (some ⟨y, 0, none⟩)] s) fun r => r.1 = .tuple #[] ∧ ∃ qn' wn', RY r.2 y q qn' (.slice none 0 0) w wn' B B [] room ∧ Ext [y] s r.2 ∧ ∀ j, j ∈ ry y q qn' (.slice none 0 0) w wn' → j ∈ ry y q qn v w wn ∨ s.next ≤ j := by
  have gy := c.ya.gy
  have wy := c.ya.wy
  have hlt := c.lt
  have hyl := hlt y (by simp [ry])
  have hql := hlt q (by simp [ry])
  refine W_cps fun Q hQ => ?_
  rw [W_enter0 h4.iDrop h4.fDrop rfl]
  simp (maxSteps := 4000000) only [WC_seq, WC_region, WO_pp, contO_ap, atS_ap, W_some, W_mv, W_nilck, W_fadr, W_ld, W_call, dpure, ev_tmp, ev_func, putT_some, get_put_eq, get_put_ne, not_false_eq_true, ofList_get, List.getElem?_cons_zero, Option.getD_some, List.map_cons, List.map_nil, ldV_at, Cells.get, getN, reduceCtorEq, pp, pv, Nat.add_zero, d23, gy]
  refine W.mono (rfork_ok hR hR2 (d := d) c.rb (by omega) hG) ?_
  rintro ⟨v1, s1⟩ ⟨qn', wn', h1, c1, X1, b1, b2⟩
  simp only at h1 c1 X1
  subst h1
  have hG1 := X1.good hG
  have gy1 := X1.keep gy (by simp)
  have wy1 := X1.wrs wy
  have hqn := DS.get_lt' c1.gq
  have hwn := c1.sl.lt
  have hrb1 := c.rb.keep X1 (by simp) (by simp)
  simp (maxSteps := 4000000) only [WC_region, contS_normal, contR_ap, WO_nil, WO_pp, contO_ap, atS_ap, atD_ap, W_some, W_mv, W_nilck, W_fadr, W_st, dpure, Ends_normal, ev_tmp, ev_const, putT_some, putT_none, get_put_eq, get_put_ne, Nat.reduceEqDiff, not_false_eq_true, ofList_get, List.getElem?_cons_zero, Option.getD_some, dresults, tupled, Nat.zero_add, Nat.reduceAdd, st_wr, cells_ptr, cells_slice, List.length_cons, List.length_nil, allOne, oneCellD, Bool.and_self, Bool.and_true, Nat.beq_eq, Nat.ble_eq, Nat.reduceLeDiff, Nat.le_refl, if_true, reduceCtorEq, DS.wrC, Cells.size, Cells.fillFrom, Cells.set, setN, DS.upd_get_self, DS.upd_wr, Option.map_some, gy1, wy1]
  have y1 : ∀ o1 o2, Ext [y] s1 ((s1.upd y o1).upd y o2) := fun o1 o2 => by
    have x1 : Ext [y] s1 (s1.upd y o1) := Ext.upd (.inl (by simp))
    exact x1.trans' (Ext.upd (.inl (by simp)))
  have hyb : ∀ k, k ∈ blk w → k ≠ y := fun k hk => (c.e k (by simp [hk])).1
  refine hQ _ ⟨rfl, qn', wn', ⟨⟨?_, ?_, .nil, by simp [blk]⟩, hrb1.keep (y1 _ _) (by simp; exact c.d1.symm) (fun k hk => by simp; exact hyb k hk), c1.keep (y1 _ _) (by simp; omega) (fun k hk => by have := b2 k hk; simp; omega), c.d1, by omega, by omega, fun k hk => ?_⟩, (X1.weaken (by simp)).trans' (y1 _ _), fun j hj => ?_⟩
  · simp (maxSteps := 4000000) only [DS.upd_get_self, Option.map_some, gy1]
  · simp (maxSteps := 4000000) only [DS.upd_wr, wy1]
  · simp only [List.mem_append] at hk
    rcases hk with hk | hk | hk
    · have h1 := c.e k (by simp [hk])
      have h2 := hlt k (by simp [ry, hk])
      exact ⟨h1.1, h1.2.1, by omega⟩
    · have h2 := b2 k hk
      exact ⟨by omega, by omega, fun e => c1.ne (e ▸ hk)⟩
    · simp [blk] at hk
  · simp only [ry, List.mem_cons, List.mem_append] at hj ⊢
    rcases hj with rfl | rfl | rfl | hj | hj | hj
    · simp
    · simp
    · exact .inr b1
    · simp [hj]
    · exact .inr (b2 j hj)
    · simp [blk] at hj
theorem ycommit_ok (c : RY s y q qn v w wn B T C room) (hlT : T.length ≤ 5000) (hG : s.Good) :
    W (dcall E (d + 2) (.func (.func 22) #[] #[]) [.pointer (some ⟨y, 0, none⟩)] s) fun r => r.1 = .tuple #[] ∧ ∃ w', RY r.2 y q qn (.slice none 0 0) w' wn T T [] room ∧ Ext [y, q] s r.2 ∧ ∀ j, j ∈ ry y q qn (.slice none 0 0) w' wn → j ∈ ry y q qn v w wn ∨ s.next ≤ j := by
  have gy := c.ya.gy
  have wy := c.ya.wy
  have hlt := c.lt
  have hyl := hlt y (by simp [ry])
  have hql := hlt q (by simp [ry])
  have hqnl := hlt qn (by simp [ry])
  refine W_cps fun Q hQ => ?_
  rw [W_enter0 h4.iCom h4.fCom rfl]
  simp (maxSteps := 4000000) only [WC_seq, WC_region, WO_pn, WO_hn, contN_ap, atS_ap, W_some, W_mv, W_nilck, W_fadr, W_ld, W_call, dpure, ev_tmp, ev_func, putT_some, get_put_eq, get_put_ne, not_false_eq_true, ofList_get, List.getElem?_cons_zero, Option.getD_some, List.map_cons, List.map_nil, ldV_at, Cells.get, getN, Nat.zero_add, reduceCtorEq, List.nil_append, List.cons_append, pp, pv, Nat.add_zero, foot, d22, gy]
  have hyn : ∀ k, k ∈ qn :: blk wn → ¬ k = y := fun k hk => by
    rcases List.mem_cons.1 hk with rfl | hk
    · exact c.d2.symm
    · exact (c.e k (by simp [hk])).1
  refine W.masked (h4.fr _) (rfork_ok hR hR2 (d := d) (c.rn.of (s' := mask _ _ _) fun k hk => ?_) (by omega) (mask_good hG fun k hk => ?_)) ?_
  · have := hyn k hk
    exact ⟨mask_get (by (simp only [hidden, shielded, noteAt, memN, Bool.or_false, Bool.or_eq_false_iff, Bool.and_eq_false_iff, bleF, bltF, beqF, true_and, and_true, true_or, or_true] <;> omega)), fun hw => mask_wr hw (by (simp only [hidden, shielded, noteAt, memN, Bool.or_false, Bool.or_eq_false_iff, Bool.and_eq_false_iff, bleF, bltF, beqF, true_and, and_true, true_or, or_true] <;> omega)) (by (simp only [hidden, shielded, noteAt, memN, Bool.or_false, Bool.or_eq_false_iff, Bool.and_eq_false_iff, bleF, bltF, beqF, true_and, and_true, true_or, or_true] <;> omega))⟩
  · have : ¬ k = y := by omega
    exact ⟨by (simp only [hidden, shielded, noteAt, memN, Bool.or_false, Bool.or_eq_false_iff, Bool.and_eq_false_iff, bleF, bltF, beqF, true_and, and_true, true_or, or_true] <;> omega), by (simp only [hidden, shielded, noteAt, memN, Bool.or_false, Bool.or_eq_false_iff, Bool.and_eq_false_iff, bleF, bltF, beqF, true_and, and_true, true_or, or_true] <;> omega)⟩
  rintro v1 s1 ⟨qf, wf, h1, c1, X1, b1, b2⟩ df
  simp only at h1 c1 X1
  subst h1
  have X1' := Ext.unmask' X1 df
  have hwf := c1.sl.lt
  have hqf := DS.get_lt' c1.gq
  have c1' := c1.of (s' := unmask s s1) fun k hk => ⟨unmask_at (by (simp only [hidden, shielded, noteAt, memN, Bool.or_false, Bool.or_eq_false_iff, Bool.and_eq_false_iff, bleF, bltF, beqF, true_and, and_true, true_or, or_true] <;> omega)) X1, fun _ => by
    rw [unmask_wr]
    exact (hG k (by rcases List.mem_cons.1 hk with rfl | hk; exact b1; exact b2 k hk)).2⟩
  obtain ⟨S1, hS1⟩ : ∃ S1 : DS, S1 = unmask s s1 := ⟨_, rfl⟩
  have n1 : s1.next = S1.next := by rw [hS1]; rfl
  rw [← hS1] at X1' c1'
  have hG1 := X1'.good hG
  obtain ⟨a, hwfs⟩ := c1'.sl.shape
  have gqf := c1'.gq
  have gq1 := X1'.keep c.rb.gq (by simp)
  have wq1 := X1'.wrs c.rb.wq
  have gy1 := X1'.keep gy (by simp)
  have wy1 := X1'.wrs wy
  have b1' : s.next ≤ qf := b1
  have hqfq : ¬ qf = q := by omega
  have hqy : ¬ q = y := fun h => c.d1 h.symm
  have hyq : ¬ y = q := c.d1
  subst hwfs
  simp (maxSteps := 4000000) only [WC_region, contS_normal, contR_ap, WO_nil, WO_pp, WO_pn, contO_ap, contN_ap, contHN_ap, atS_ap, atD_ap, W_some, W_mv, W_nilck, W_fadr, W_ld, W_st, dpure, Ends_normal, ev_tmp, ev_const, putT_some, putT_none, get_put_eq, get_put_ne, Nat.reduceEqDiff, not_false_eq_true, ofList_get, List.getElem?_cons_zero, Option.getD_some, dresults, tupled, ldV_at, Cells.get, getN, Nat.zero_add, Nat.reduceAdd, st_wr, cells_slice, List.length_cons, List.length_nil, allOne, oneCellD, Bool.and_self, Bool.and_true, Nat.beq_eq, Nat.ble_eq, Nat.reduceLeDiff, Nat.le_refl, if_true, reduceCtorEq, DS.wrC, Cells.size, Cells.fillFrom, Cells.set, setN, List.nil_append, List.cons_append, DS.upd_get_ne, DS.upd_next, DS.upd_wr, Nat.add_zero, foot, ← hS1, n1, gqf, gq1, wq1, gy1, wy1, hyq, hqy]
  have z1 : ∀ o1 o2, Ext [y, q] S1 ((S1.upd q o1).upd y o2) := fun o1 o2 => by
    have x1 : Ext [y, q] S1 (S1.upd q o1) := Ext.upd (.inl (by simp))
    exact x1.trans' (Ext.upd (.inl (by simp)))
  have b2' : ∀ j, j ∈ blk (.slice a (entV T).length (entV T).length) → s.next ≤ j := b2
  have hrn1 := c.rn.keep X1' (by simp) (by simp)
  refine hQ _ ⟨rfl, .slice a (entV T).length (entV T).length, ⟨⟨?_, ?_, .nil, by simp [blk]⟩, ⟨?_, ?_, c1'.sl.keep (z1 _ _) (fun k hk => by have := b2' k hk; simp; omega), fun hk => by have := b2' q hk; omega, c.rn.so⟩, hrn1.keep (z1 _ _) (by simp; exact ⟨c.d2.symm, c.d3.symm⟩) (fun k hk => by have := c.e k (by simp [hk]); simp; exact ⟨this.1, this.2.1⟩), c.d1, c.d2, c.d3, fun k hk => ?_⟩, (X1'.weaken (by simp)).trans' (z1 _ _), fun j hj => ?_⟩
  · simp (maxSteps := 4000000) only [not_false_eq_true, DS.upd_get_self, DS.upd_get_ne, Option.map_some, gy1, hyq]
  · simp (maxSteps := 4000000) only [DS.upd_wr, wy1]
  · simp (maxSteps := 4000000) only [not_false_eq_true, DS.upd_get_self, DS.upd_get_ne, Option.map_some, gq1, hqy]
  · simp (maxSteps := 4000000) only [DS.upd_wr, wq1]
  · simp only [List.mem_append] at hk
    rcases hk with hk | hk | hk
    · have := b2' k hk
      omega
    · exact c.e k (by simp [hk])
    · simp [blk] at hk
  · simp only [ry, List.mem_cons, List.mem_append] at hj ⊢
    rcases hj with rfl | rfl | rfl | hj | hj | hj
    · simp
    · simp
    · simp
    · exact .inr (b2' j hj)
    · simp [hj]
    · simp [blk] at hj
end
end Go.Dx.OvA
/- Overlays, whatever was changed (made by tools/gen.py out of ov.t). -/
set_option linter.unusedVariables false
set_option linter.unusedSimpArgs false
set_option linter.unusedSectionVars false
set_option maxRecDepth 100000
set_option maxHeartbeats 4000000
namespace Go.Dx.OvA
open Go Go.Dx Go.Dx.Search Go.Dx.St Go.Proofs.Ytlpjlananbjgcaa
structure OvFns (E : Env) : Prop where
  fNew : E.fn 18 = some d18
  iNew : E.intr 18 = none
  fMade : E.fn 33 = some d33
  iMade : E.intr 33 = none
  fGet : E.fn 9 = some d9
  iGet : E.intr 9 = none
  fPut : E.fn 12 = some d12
  iPut : E.intr 12 = none
  fDel : E.fn 13 = some d13
  iDel : E.intr 13 = none
  fDrop : E.fn 8 = some d8
  iDrop : E.intr 8 = none
  fLen : E.fn 14 = some d14
  iLen : E.intr 14 = none
  fRoom : E.fn 38 = some d38
  iRoom : E.intr 38 = none
  fr : ∀ d, CallFrame (dcall E d)
/-- a row of the changes -/
def ChOk (e : DEntry) : Prop := (∃ k, e.key = .int .i64 k) ∧ ∃ a b c, e.val = .agg ⟨[.int .i64 a, .int .i64 b, .bool c]⟩
structure OvAt (s : DS) (o m b : Nat) (es : List DEntry) (clock : Nat) (more : Int) : Prop where
  go : s.get o = some (.cells (.list [.pointer (some ⟨b, 0, none⟩), .map (some m), .int .i64 more]) false)
  wo : s.wr o = true
  gm : s.get m = some (.map es clock)
  wm : s.wr m = true
  ne : o ≠ m
  ok : ∀ e, e ∈ es → ChOk e
theorem Ends_ret2 {rs : List DRes} {Q : Value × DS → Prop} {t : PT Value} {s : DS} {k k' : Nat} (hk : s.get k = some .dfr) (hw : s.wr k = true) (hk' : s.get k' = some .dfr) (hw' : s.wr k' = true) (hne : k' ≠ k) : Ends rs Q .ret ⟨t, s, [k, k']⟩ = W (dresults t ((s.rid k).rid k') rs) fun vs => Q (tupled vs, (s.rid k).rid k') := by
  have h1 : (s.rid k).get k' = some .dfr := (DS.rid_get_ne hne).trans hk'
  have h2 : (s.rid k).wr k' = true := by rw [DS.rid_wr]; exact hw'
  simp only [Ends, killAll, hk, DS.kill_rid (show (s.get k).isSome = true by rw [hk]; rfl) hw, h1, DS.kill_rid (show ((s.rid k).get k').isSome = true by rw [h1]; rfl) h2, W_some]
theorem W_clrM {call : CallFn} {ρ : Operand → Value} {R : Value × DS → Prop} {s : DS} {x : Operand} : W (dop call ρ s (.bclrM x)) R = W (dwrite ρ s (.bclrM x)) R := W_write rfl
section
variable {E : Env} (hE : Fns E) (hO : OvFns E) {s s' : DS} {d : Nat} {o m b clock : Nat} {es : List DEntry} {more : Int} {kv vv : Value} {L : List Ent} {room : Int} {F : List Nat}
theorem OvAt.keep (c : OvAt s o m b es clock more) (e : Ext F s s') (h1 : o ∉ F) (h2 : m ∉ F) : OvAt s' o m b es clock more :=
  ⟨e.keep c.go h1, e.wrs c.wo, e.keep c.gm h2, e.wrs c.wm, c.ne, c.ok⟩
theorem ov_more (c : OvAt s o m b es clock more) (more' : Int) : OvAt (s.upd o (.cells (.list [.pointer (some ⟨b, 0, none⟩), .map (some m), .int .i64 more']) false)) o m b es clock more' := by
  have go := c.go
  have gm := c.gm
  have ne := c.ne
  have ne' : ¬ m = o := fun h => ne h.symm
  refine ⟨?_, ?_, ?_, ?_, ne, c.ok⟩
  · rw [DS.upd_get_self, go]; rfl
  · rw [DS.upd_wr]; exact c.wo
  · rw [DS.upd_get_ne ne']; exact gm
  · rw [DS.upd_wr]; exact c.wm
theorem ov_map (c : OvAt s o m b es clock more) {es' : List DEntry} {clock' : Nat} (h : ∀ e, e ∈ es' → ChOk e) : OvAt (s.upd m (.map es' clock')) o m b es' clock' more := by
  have go := c.go
  have gm := c.gm
  have ne := c.ne
  refine ⟨?_, ?_, ?_, ?_, ne, h⟩
  · rw [DS.upd_get_ne ne]; exact go
  · rw [DS.upd_wr]; exact c.wo
  · rw [DS.upd_get_self, gm]; rfl
  · rw [DS.upd_wr]; exact c.wm
include hE hO
theorem made_ok (go : s.get o = some (.cells (.list [.pointer (some ⟨b, 0, none⟩), .map (some m), .int .i64 more]) false)) : dcall E (d + 1) (.func (.func 33) #[] #[]) [.pointer (some ⟨o, 0, none⟩)] s = some (.bool true, s) := by
  rw [← W_iff, W_enter0 hO.iMade hO.fMade rfl]
  simp (maxSteps := 4000000) only [WC_seq, WC_region, WC_ret, contS_normal, contR_ap, WO_nil, WO_pp, WO_g, gateO_tt, contO_ap, atS_ap, atB_ap, W_some, W_mv, W_pick, W_eq1, W_nilck, W_fadr, W_ld, dpure, eqOne, Ends_ret, ev_tmp, ev_const, putT_some, get_put_eq, get_put_ne, Nat.reduceEqDiff, not_false_eq_true, ofList_get, List.getElem?_cons_zero, Option.getD_some, dresults, tupled, ldV_at, Cells.get, getN, Nat.zero_add, if_true, reduceCtorEq, Bool.not_false, pp, pv, pw, pg, d33, go]
theorem onew_ok (hG : s.Good) : W (dcall E (d + 1) (.func (.func 18) #[] #[]) [.pointer (some ⟨b, 0, none⟩)] s) fun r => ∃ o m, r.1 = .tuple ⟨[.pointer (some ⟨o, 0, none⟩), .int .i64 0]⟩ ∧ OvAt r.2 o m b [] 0 0 ∧ Ext [] s r.2 ∧ s.next ≤ o ∧ s.next ≤ m := by
  refine W_cps fun Q hQ => ?_
  rw [W_enter0 hO.iNew hO.fNew rfl]
  simp (maxSteps := 4000000) (maxDischargeDepth := 8) only [WC_seq, WC_region, WC_cond, WC_skip, WC_ret, contS_normal, contR_ap, WO_nil, WO_pp, condC_false, contO_ap, atG_ap, atB_ap, W_some, W_mv, W_eq1, W_build, W_box, W_mkmap, eqOne, Ends_ret, ev_tmp, ev_const, putT_some, get_put_eq, get_put_ne, not_false_eq_true, ofList_get, List.getElem?_cons_zero, Option.getD_some, dresults, tupled, Nat.zero_add, Nat.reduceAdd, cells_ptr, cells_map, cells_agg, List.length_cons, List.length_nil, Bool.and_self, Bool.and_eq_true, Nat.beq_eq, Nat.ble_eq, Nat.reduceLeDiff, and_self, if_true, if_false, Bool.not_false, Bool.false_eq_true, fillParts, List.take_zero, List.take_succ_cons, List.drop_succ_cons, List.drop_zero, List.nil_append, List.cons_append, pp, pv, nextN, eq_lt, Nat.lt_add_one, Nat.succ_pos, d18, hG]
  refine hQ _ ⟨s.next + 1, s.next, rfl, ⟨?_, (hG _ (Nat.le_succ _)).2, ?_, (hG _ (Nat.le_refl _)).2, by omega, fun _ h => (nomatch h)⟩, Ext.new.trans' Ext.new, by omega, Nat.le_refl _⟩
  · simp (maxSteps := 4000000) (maxDischargeDepth := 8) only [nextN, get_new_at, good_new, hG]
  · simp (maxSteps := 4000000) (maxDischargeDepth := 8) only [nextN, get_new_at, get_new_ne, good_new, Nat.lt_add_one, hG]
theorem olen_ok (go : s.get o = some (.cells (.list [.pointer (some ⟨b, 0, none⟩), .map (some m), .int .i64 more]) false)) (cb : StAt s b kv vv L room) (hob : ∀ k, k ∈ own b kv vv → k ≠ o ∧ k ≠ m) : W (dcall E (d + 2) (.func (.func 14) #[] #[]) [.pointer (some ⟨o, 0, none⟩)] s) fun r => r = (.int .i64 (dwrap .i64 ((L.length : Int) + more)), s) := by
  refine W_cps fun Q hQ => ?_
  rw [W_enter0 hO.iLen hO.fLen rfl]
  have hmade := made_ok hE hO go (d := d)
  simp (maxSteps := 4000000) only [WC_seq, WC_region, WC_cond, WC_skip, contS_normal, contR_ap, WO_nil, WO_pp, WO_pn, WO_hn, condC_false, contO_ap, contN_ap, atS_ap, W_some, W_mv, W_un, W_nilck, W_fadr, W_ld, W_call, dpure, ev_tmp, ev_const, ev_func, putT_some, get_put_eq, get_put_ne, Nat.reduceEqDiff, not_false_eq_true, ofList_get, List.getElem?_cons_zero, Option.getD_some, List.map_cons, List.map_nil, ldV_at, Cells.get, getN, Nat.zero_add, reduceCtorEq, Bool.not_true, List.nil_append, List.cons_append, pp, pv, Nat.add_zero, foot, d14, go, hmade]
  refine W.intro (Len_ok hE (d := d) (cb.mask fun k hk => ?_)) ?_
  · have := (hob k hk).1
    exact ⟨by (simp only [hidden, shielded, noteAt, memN, Bool.or_false, Bool.or_eq_false_iff, Bool.and_eq_false_iff, bleF, bltF, beqF, true_and, and_true, true_or, or_true] <;> omega), by (simp only [hidden, shielded, noteAt, memN, Bool.or_false, Bool.or_eq_false_iff, Bool.and_eq_false_iff, bleF, bltF, beqF, true_and, and_true, true_or, or_true] <;> omega)⟩
  simp (maxSteps := 4000000) only [WC_ret, contS_normal, contR_ap, WO_nil, WO_pn, contN_ap, contHN_ap, atS_ap, W_some, W_mv, W_bin, dbin, dint, Ends_ret, ev_tmp, putT_some, get_put_eq, get_put_ne, Nat.reduceEqDiff, not_false_eq_true, Option.getD_some, dresults, tupled, if_true, List.nil_append, List.cons_append, nextM, unmask_mask, foot]
  exact hQ _ rfl
theorem odrop_ok (c : OvAt s o m b es clock more) : W (dcall E (d + 2) (.func (.func 8) #[] #[]) [.pointer (some ⟨o, 0, none⟩)] s) fun r => r.1 = .tuple #[] ∧ OvAt r.2 o m b [] clock 0 ∧ Ext [o, m] s r.2 := by
  have go := c.go
  have gm := c.gm
  have wo := c.wo
  have wm := c.wm
  have ne := c.ne
  have ne' : ¬ m = o := fun h => ne h.symm
  have hmade := made_ok hE hO c.go (d := d)
  refine W_cps fun Q hQ => ?_
  rw [W_enter0 hO.iDrop hO.fDrop rfl]
  simp (maxSteps := 4000000) only [WC_seq, WC_region, WC_cond, contS_normal, contR_ap, WO_nil, WO_pp, condC_true, contO_ap, atS_ap, atD_ap, W_some, W_mv, W_nilck, W_fadr, W_ld, W_st, W_call, dpure, dwrite, Ends_normal, ev_tmp, ev_const, ev_func, putT_some, putT_none, get_put_eq, get_put_ne, not_false_eq_true, ofList_get, List.getElem?_cons_zero, Option.getD_some, dresults, tupled, List.map_cons, List.map_nil, ldV_at, Cells.get, getN, Nat.zero_add, Nat.reduceAdd, st_wr, cells_int, List.length_cons, List.length_nil, allOne, oneCellD, Bool.and_self, Bool.and_true, Nat.beq_eq, Nat.ble_eq, Nat.le_refl, if_true, reduceCtorEq, DS.wrC, Cells.size, Cells.fillFrom, Cells.set, setN, pp, pv, DS.upd_get_ne, DS.upd_wr, Option.isSome_some, DS.set_upd, d8, go, hmade, W_clrM, gm, wm, wo, ne, ne']
  refine hQ _ ⟨rfl, ⟨?_, ?_, ?_, ?_, ne, fun _ h => (nomatch h)⟩, (Ext.upd (.inl (by simp))).trans' (Ext.upd (.inl (by simp)))⟩
  · simp (maxSteps := 4000000) only [not_false_eq_true, DS.upd_get_self, DS.upd_get_ne, Option.map_some, go, ne]
  · simp (maxSteps := 4000000) only [DS.upd_wr, wo]
  · simp (maxSteps := 4000000) only [not_false_eq_true, DS.upd_get_self, DS.upd_get_ne, Option.map_some, gm, ne']
  · simp (maxSteps := 4000000) only [DS.upd_wr, wm]
theorem room_ok (cb : StAt s b kv vv L room) : dcall E (d + 1) (.func (.func 38) #[] #[]) [.pointer (some ⟨b, 0, none⟩)] s = some (.int .i64 room, s) := by
  have gp := cb.gp
  rw [← W_iff, W_enter0 hO.iRoom hO.fRoom rfl]
  simp (maxSteps := 4000000) only [WC_seq, WC_region, WC_cond, WC_skip, WC_ret, contS_normal, contR_ap, WO_nil, WO_pp, condC_false, contO_ap, atS_ap, atB_ap, W_some, W_mv, W_eq1, W_nilck, W_fadr, W_ld, dpure, eqOne, Ends_ret, ev_tmp, ev_const, putT_some, get_put_eq, get_put_ne, not_false_eq_true, ofList_get, List.getElem?_cons_zero, Option.getD_some, dresults, tupled, ldV_at, Cells.get, getN, Nat.zero_add, if_false, reduceCtorEq, Bool.not_false, Bool.false_eq_true, pp, pv, d38, gp]
structure ChFns (E : Env) : Prop where
  fChg : E.fn 36 = some d36
  iChg : E.intr 36 = none
  fChg1 : E.fn 54 = some d54
  iChg1 : E.intr 54 = none
  iKeys : E.intr 56 = some fun all s => keysD all 69 s
  iSorted : E.intr 55 = some fun all s => sortedD 69 all s
  fCommit : E.fn 15 = some d15
  iCommit : E.intr 15 = none
variable (hH : ChFns E)
include hH
theorem ochg_empty {c y1 : Nat} (cO : OvAt s o m b [] clock more) (gc : s.get c = some (.cells (.list [.pointer (some ⟨o, 0, none⟩)]) false)) (hG : s.Good) :
    W (dcall E (d + 2) (.func (.func 54) #[] #[.pointer (some ⟨c, 0, none⟩)]) [.func (.yield y1) #[] #[]] s) fun r => r.1 = .tuple #[] ∧ Ext [] s r.2 := by
  have go := cO.go
  have gm := cO.gm
  have hol := DS.get_lt' go
  have hml := DS.get_lt' gm
  have hcl := DS.get_lt' gc
  refine W_cps fun Q hQ => ?_
  rw [W_enter hH.iChg1 hH.fChg1 rfl]
  have hmade := made_ok hE hO cO.go (d := d)
  have hlf := hE.lf
  have hk : ∀ dd, dcall E (dd + 1) (.func (.func 56) #[] #[]) [.map (some m)] s = some (.func (.func 69) #[] #[.chan (some s.next)], s.new (.cells (.list [.map (some m)]) false)) := fun dd => intr_run hH.iKeys rfl
  have hs : ∀ dd, dcall E (dd + 1) (.func (.func 55) #[] #[]) [.func (.func 69) #[] #[.chan (some s.next)]] (s.new (.cells (.list [.map (some m)]) false)) = some (.slice none 0 0, s.new (.cells (.list [.map (some m)]) false)) := fun dd => by
    refine intr_run hH.iSorted ?_
    have g1 : (s.new (.cells (.list [.map (some m)]) false)).get s.next = some (.cells (.list [.map (some m)]) false) := DS.new_get_self hG
    have g2 : (s.new (.cells (.list [.map (some m)]) false)).get m = some (.map [] clock) := (DS.new_get_lt hml).trans gm
    show sortedD 69 [.func (.func 69) ⟨[]⟩ ⟨[.chan (some s.next)]⟩] _ = _
    unfold sortedD
    simp only [Nat.beq_refl, if_true, g1, Cells.get, getN, g2, keysOf]
    rfl
  simp (maxSteps := 4000000) only [WC_seq, WC_region, WC_cond, WC_block, WC_skip, contS_normal, contR_ap, WO_nil, WO_pp, condC_false, contO_ap, atS_ap, W_some, W_mv, W_un, W_nilck, W_fadr, W_blenL, W_ld, W_call, dpure, ev_tmp, ev_const, ev_func, putT_some, get_put_eq, get_put_ne, Nat.reduceEqDiff, not_false_eq_true, ofList_get, List.getElem?_cons_zero, List.getElem?_cons_succ, Option.getD_some, List.map_cons, List.map_nil, ldV_at, Cells.get, getN, Nat.zero_add, Bool.not_true, List.nil_append, List.cons_append, pp, pv, d54, gc, go, hmade, hk, hs]
  refine WC_loop (fun _ y => y = _) 0 (by omega) rfl ?_
  rintro n y hn rfl
  have e0 : ¬ (0 : Int) < ((0 : Nat) : Int) := by decide
  simp (maxSteps := 4000000) only [WC_seq, WC_region, WC_cond, WC_exit, contS_normal, contS_exit, contB_exit, contR_ap, contL_exit, WO_nil, WO_pp, condC_false, contO_ap, atS_ap, W_some, W_bin, dbin, dint, Ends_normal, ev_tmp, putT_some, get_put_eq, get_put_ne, Nat.reduceEqDiff, not_false_eq_true, Option.getD_some, dresults, tupled, if_true, decide_false, e0]
  exact hQ _ ⟨rfl, Ext.new⟩
end
end Go.Dx.OvA
/- Overlays: what is shown, whatever was changed (made by tools/gen.py out of ov2.t). -/
set_option linter.unusedVariables false
set_option linter.unusedSimpArgs false
set_option linter.unusedSectionVars false
set_option maxRecDepth 100000
set_option maxHeartbeats 4000000
namespace Go.Dx.OvA
open Go Go.Dx Go.Dx.Search Go.Dx.St Go.Proofs.Ytlpjlananbjgcaa
/-- an overlay of B that shows T -/
structure OvX (s : DS) (o m b : Nat) (M : Chs) (clock : Nat) (B T : List Ent) : Prop where
  at' : OvAt s o m b (M.map chE) clock ((T.length : Int) - (B.length : Int))
  ok : ChsOk M clock
  sh : Shows B M T
  lt : T.length ≤ 5000
  lb : B.length ≤ 5000
  so : Rise B
theorem chs_chok (M : Chs) : ∀ e, e ∈ M.map chE → ChOk e := fun e he => by
  obtain ⟨x, _, rfl⟩ := List.mem_map.1 he
  exact ⟨⟨_, rfl⟩, _, _, _, rfl⟩
theorem valOf_mem {L : List Ent} (hr : Rise L) {k v : Int} (h : (k, v) ∈ L) : valOf k L = v := by
  obtain ⟨x, hx, e⟩ := isAt_true ((isAt_iff hr).2 ⟨v, h⟩)
  unfold valOf
  rw [hx]
  simp only [e, if_true]
  have hm := List.mem_of_getElem? hx
  obtain ⟨a, c⟩ := x
  simp only at e
  subst e
  exact rise_uniq hr hm h
theorem valOf_none {L : List Ent} {k : Int} (h : isAt k L = false) : valOf k L = 0 := by
  unfold isAt at h
  unfold valOf
  cases hx : L[pos k L]? with
  | none => rfl
  | some x =>
    rw [hx] at h
    simp at h
    simp [h]
theorem putR_len' {k v : Int} {L : List Ent} {room : Int} : (putR k v L room).length ≤ L.length + 1 := by
  unfold putR
  split
  · rw [St.put_len]; split <;> omega
  · split
    · omega
    · rw [St.put_len]; split <;> omega
section
variable {E : Env} (hE : Fns E) (hO : OvFns E) {s s' : DS} {d : Nat} {o m b clock : Nat} {M : Chs} {kv vv : Value} {B T : List Ent} {room : Int} {F : List Nat}
theorem OvX.keep (c : OvX s o m b M clock B T) (e : Ext F s s') (h1 : o ∉ F) (h2 : m ∉ F) : OvX s' o m b M clock B T :=
  ⟨c.at'.keep e h1 h2, c.ok, c.sh, c.lt, c.lb, c.so⟩
include hE hO
theorem oget2_ok (cx : OvX s o m b M clock B T) (cb : StAt s b kv vv B room) (hG : s.Good) (k : Int) : W (dcall E (d + 6) (.func (.func 9) #[] #[]) [.pointer (some ⟨o, 0, none⟩), .int .i64 k] s) fun r => r.1 = .tuple ⟨[.int .i64 (valOf k T), .bool (isAt k T)]⟩ ∧ Ext [] s r.2 := by
  have c := cx.at'
  have go := c.go
  have gm := c.gm
  have hol := DS.get_lt' go
  have hml := DS.get_lt' gm
  have hmade := made_ok hE hO c.go (d := d + 4)
  have hget := Get_ok hE cb k (d := d)
  refine W_cps fun Q hQ => ?_
  rw [W_enter0 hO.iGet hO.fGet rfl]
  rcases chs_find M k 0 with ⟨hf, hno⟩ | ⟨j, x, hf, hj, hk⟩
  · simp (maxSteps := 4000000) (maxDischargeDepth := 8) only [WC_seq, WC_region, WC_cond, WC_skip, contS_normal, contR_ap, WO_nil, WO_pp, condC_false, contO_ap, atS_ap, atD_ap, W_some, W_mv, W_un, W_nilck, W_fadr, W_ext, W_ld, W_look, W_st, W_alloc, W_call, dpure, dread, ev_tmp, ev_const, ev_func, putT_some, putT_none, get_put_eq, get_put_ne, not_false_eq_true, ofList_get, List.getElem?_cons_zero, List.getElem?_cons_succ, Option.getD_some, List.map_cons, List.map_nil, ldV_at, Cells.get, getN, Nat.zero_add, Nat.reduceAdd, st_wr, cells_agg, List.length_cons, List.length_nil, allOne, oneCellD, Bool.and_self, Bool.and_true, Nat.beq_eq, Nat.ble_eq, Nat.le_refl, if_true, Bool.not_true, DS.wrC, Cells.size, Cells.fillFrom, Cells.set, setN, pp, pv, DS.upd_get_ne, wrN, Nat.add_zero, get_new_at, get_new_ne, good_new, good_at, eq_lt, eq_gt, Nat.reduceLT, Nat.lt_add_one, Nat.succ_pos, d9, go, gm, hmade, hf, isKey, hG, hol, hml]
    have X : ∀ ob, Ext [] s ((s.new (.cells (.list [.int .i64 0, .int .i64 0, .bool false]) false)).upd s.next ob) := fun ob => (Ext.new (F := [])).trans (Ext.upd (F := [s.next]) (.inl (by simp))) (by simp)
    refine W.intro (Get_ok hE (d := d) (cb.keep (X _) (by simp)) k) ?_
    simp (maxSteps := 4000000) only [WC_ret, contS_normal, contR_ap, WO_nil, WO_pp, contO_ap, atS_ap, W_some, W_mv, W_ext, dpure, Ends_ret, ev_tmp, putT_some, get_put_eq, get_put_ne, Nat.reduceEqDiff, not_false_eq_true, Option.getD_some, dresults, tupled, getN]
    have e1 := cx.sh.isAt_un cx.so hno
    have e2 : valOf k T = valOf k B := by
      cases hi : isAt k T with
      | false => rw [valOf_none hi, valOf_none (e1 ▸ hi)]
      | true =>
        obtain ⟨v, hv⟩ := (isAt_iff cx.sh.so).1 hi
        rw [valOf_mem cx.sh.so hv, valOf_mem cx.so ((cx.sh.un k (fun c ⟨b, hb⟩ => hno _ hb) v).1 hv)]
    exact hQ _ ⟨by rw [e1, e2], X _⟩
  · have hv : (chE x).val = .agg ⟨[.int .i64 x.1.1, .int .i64 x.1.2.1, .bool x.1.2.2]⟩ := rfl
    simp (maxSteps := 4000000) (maxDischargeDepth := 8) only [WC_seq, WC_region, WC_cond, WC_skip, WC_ret, contS_normal, contS_ret, contR_ap, WO_nil, WO_pp, condC_true, condC_false, contO_ap, atS_ap, atD_ap, W_some, W_mv, W_un, W_nilck, W_fadr, W_ext, W_ld, W_look, W_st, W_alloc, W_call, dpure, dread, Ends_ret, ev_tmp, ev_const, ev_func, putT_some, putT_none, get_put_eq, get_put_ne, not_false_eq_true, ofList_get, List.getElem?_cons_zero, List.getElem?_cons_succ, Option.getD_some, dresults, tupled, List.map_cons, List.map_nil, ldV_at, Cells.get, getN, Nat.zero_add, Nat.reduceAdd, st_wr, cells_agg, List.length_cons, List.length_nil, allOne, oneCellD, Bool.and_self, Bool.and_true, Nat.beq_eq, Nat.ble_eq, Nat.le_refl, if_true, Bool.not_true, DS.wrC, Cells.size, Cells.fillFrom, Cells.set, setN, pp, pv, DS.upd_get_self, Option.map_some, wrN, get_new_at, good_new, good_at, eq_lt, eq_gt, Nat.reduceLT, Nat.lt_add_one, Nat.succ_pos, d9, go, gm, hmade, hf, isKey, hv, hG, hol, hml]
    have e1 := cx.sh.isAt_ch (has_at hj)
    have e2 : valOf x.1.1 T = x.1.2.1 := by
      cases hg : x.1.2.2 with
      | false => exact valOf_mem cx.sh.so (cx.sh.put _ (has_at hj) hg)
      | true => rw [(cx.sh.gone _ (has_at hj) hg).1]; rw [hg] at e1; exact valOf_none e1
    rw [hk] at e1 e2
    exact hQ _ ⟨by rw [e1, e2], (Ext.new (F := [])).trans (Ext.upd (F := [s.next]) (.inl (by simp))) (by simp)⟩
theorem olen2_ok (cx : OvX s o m b M clock B T) (cb : StAt s b kv vv B room) (hob : ∀ k, k ∈ own b kv vv → k ≠ o ∧ k ≠ m) : W (dcall E (d + 2) (.func (.func 14) #[] #[]) [.pointer (some ⟨o, 0, none⟩)] s) fun r => r = (.int .i64 (T.length : Int), s) := by
  refine W.mono (olen_ok hE hO cx.at'.go cb hob) ?_
  rintro r rfl
  have h1 := cx.lt
  have h2 := cx.lb
  rw [dwrap_in (by omega) (by omega)]
  congr 3
  omega
theorem oput2_ok (cx : OvX s o m b M clock B T) (cb : StAt s b kv vv B room) (hob : ∀ k, k ∈ own b kv vv → k ≠ o ∧ k ≠ m) (hG : s.Good) (k v : Int) (hk : I64 k) (hT : T.length < 5000) : W (dcall E (d + 7) (.func (.func 12) #[] #[]) [.pointer (some ⟨o, 0, none⟩), .int .i64 k, .int .i64 v] s) fun r => r.1 = .int .i64 (putE k T room) ∧ (∃ M' clock', OvX r.2 o m b M' clock' B (putR k v T room) ∧ M'.length ≤ M.length + 1 ∧ (putE k T room = 0 → ∀ c', Has M' c' ↔ c' = (k, v, false) ∨ (Has M c' ∧ c'.1 ≠ k)) ∧ (putE k T room ≠ 0 → M' = M)) ∧ Ext [o, m] s r.2 := by
  have hmade := made_ok hE hO cx.at'.go (d := d + 5)
  refine W_cps fun Q hQ => ?_
  rw [W_enter0 hO.iPut hO.fPut rfl]
  simp (maxSteps := 4000000) only [WC_seq, WC_region, WC_cond, WC_skip, contS_normal, contR_ap, WO_nil, WO_pp, condC_false, contO_ap, atS_ap, W_some, W_mv, W_un, W_call, dpure, ev_tmp, ev_const, ev_func, putT_some, get_put_eq, get_put_ne, Nat.reduceEqDiff, not_false_eq_true, ofList_get, List.getElem?_cons_zero, List.getElem?_cons_succ, Option.getD_some, List.map_cons, List.map_nil, reduceCtorEq, Bool.not_true, pp, pv, d12, hmade]
  refine W.mono (oget2_ok hE hO cx cb hG k) ?_
  rintro ⟨v1, s1⟩ ⟨hv1, X1⟩
  simp only at hv1 X1
  subst hv1
  have cx1 := cx.keep X1 (by simp) (by simp)
  have c1 := cx1.at'
  have cb1 := cb.keep X1 (by simp)
  have hG1 := X1.good hG
  have go := c1.go
  have wo := c1.wo
  have gm := c1.gm
  have wm := c1.wm
  have ne := c1.ne
  have ne' : ¬ m = o := fun h => ne h.symm
  have h1 := cx.lt
  have h2 := cx.lb
  have hlp := St.put_len (L := T) k v
  have hok : ∀ {M' : Chs} {clock' : Nat}, ChsOk M' clock' → (∀ c', Has M' c' ↔ c' = (k, v, false) ∨ (Has M c' ∧ c'.1 ≠ k)) → ∀ {S : DS}, OvAt S o m b (M'.map chE) clock' (((putL k v T).length : Int) - (B.length : Int)) → OvX S o m b M' clock' B (putL k v T) := fun h3 h4 S h5 => ⟨h5, h3, cx.sh.putC h4, by rw [hlp]; split <;> omega, h2, cx.so⟩
  have hnew : (∀ x, x ∈ M → x.1.1 ≠ k) → ∀ c', Has (M ++ [((k, v, false), clock)]) c' ↔ c' = (k, v, false) ∨ (Has M c' ∧ c'.1 ≠ k) := fun hno c' => by
    rw [has_app]
    exact ⟨fun h => h.elim (fun h => .inr ⟨h, by obtain ⟨b, hb⟩ := h; exact hno _ hb⟩) .inl, fun h => h.elim .inr fun h => .inl h.1⟩
  cases hat : isAt k T with
  | false =>
    rw [hat] at hlp
    simp only [Bool.false_eq_true, if_false] at hlp
    simp (maxSteps := 4000000) only [WC_seq, WC_region, WC_cond, contS_normal, contR_ap, WO_nil, WO_pp, WO_pn, WO_hn, condC_true, contO_ap, contN_ap, atS_ap, W_some, W_mv, W_un, W_nilck, W_fadr, W_ext, W_ld, W_call, dpure, ev_tmp, ev_func, putT_some, get_put_eq, get_put_ne, Nat.reduceEqDiff, not_false_eq_true, ofList_get, List.getElem?_cons_zero, Option.getD_some, List.map_cons, List.map_nil, ldV_at, Cells.get, getN, reduceCtorEq, Bool.not_false, List.nil_append, List.cons_append, Nat.add_zero, foot, go]
    refine W.mono (olen_ok hE hO (d := d + 4) (go := by rw [mask_get (by (simp only [hidden, shielded, noteAt, memN, Bool.or_false, Bool.or_eq_false_iff, Bool.and_eq_false_iff, bleF, bltF, beqF, true_and, and_true, true_or, or_true] <;> omega))]; exact go) (cb1.mask fun k hk => ?_) hob) ?_
    · have := (hob k hk).1
      exact ⟨by (simp only [hidden, shielded, noteAt, memN, Bool.or_false, Bool.or_eq_false_iff, Bool.and_eq_false_iff, bleF, bltF, beqF, true_and, and_true, true_or, or_true] <;> omega), by (simp only [hidden, shielded, noteAt, memN, Bool.or_false, Bool.or_eq_false_iff, Bool.and_eq_false_iff, bleF, bltF, beqF, true_and, and_true, true_or, or_true] <;> omega)⟩
    rintro ⟨v2, s2⟩ h3
    cases h3
    have hw : dwrap .i64 ((B.length : Int) + ((T.length : Int) - (B.length : Int))) = (T.length : Int) := by rw [dwrap_in (by omega) (by omega)]; omega
    have hw2 : dwrap .i64 ((T.length : Int) - (B.length : Int) + 1) = (((putL k v T).length : Int) - (B.length : Int)) := by rw [dwrap_in (by omega) (by omega), hlp]; omega
    have hroom := room_ok hE hO cb1 (d := d + 5)
    by_cases c2 : room ≤ (T.length : Int)
    · simp (maxSteps := 4000000) only [WC_seq, WC_region, WC_cond, WC_ret, contS_normal, contS_ret, contR_ap, WO_nil, WO_pp, WO_pn, condC_true, contO_ap, contN_ap, contHN_ap, atS_ap, W_some, W_mv, W_bin, W_call, dbin, dint, Ends_ret, ev_tmp, ev_const, ev_func, putT_some, get_put_eq, get_put_ne, Nat.reduceEqDiff, not_false_eq_true, Option.getD_some, dresults, tupled, List.map_cons, List.map_nil, if_true, List.nil_append, List.cons_append, nextM, unmask_mask, decide_true, foot, hroom, c2, hw]
      have hpe2 : putE k T room = 2 := by unfold putE; rw [hat]; simp [c2]
      rw [hpe2] at hQ
      refine hQ _ ⟨rfl, ⟨M, clock, ?_, by omega, fun h => by omega, fun _ => rfl⟩, X1.weaken (by simp)⟩
      have : putR k v T room = T := by unfold putR; rw [hat]; simp [c2]
      rw [this]; exact cx1
    · have hpe : putE k T room = 0 := by unfold putE; rw [hat]; simp [c2]
      have hpr : putR k v T room = putL k v T := by unfold putR; rw [hat]; simp [c2]
      rw [hpr, hpe] at hQ
      rcases chs_find M k 0 with ⟨hf, hno⟩ | ⟨j, x, hf, hj, hk2⟩
      · simp (maxSteps := 4000000) only [WC_seq, WC_region, WC_cond, WC_skip, WC_ret, contS_normal, contR_ap, WO_nil, WO_pp, WO_pn, condC_false, contO_ap, contN_ap, contHN_ap, atS_ap, atD_ap, atG_ap, W_some, W_mv, W_bin, W_nilck, W_build, W_fadr, W_ld, W_st, W_mupd, W_call, dpure, dbin, dint, dwrite, Ends_ret, ev_tmp, ev_const, ev_func, putT_some, putT_none, get_put_eq, get_put_ne, Nat.reduceEqDiff, not_false_eq_true, ofList_get, List.getElem?_cons_zero, List.getElem?_cons_succ, Option.getD_some, dresults, tupled, List.map_cons, List.map_nil, ldV_at, Cells.get, getN, Nat.zero_add, Nat.reduceAdd, st_wr, cells_int, List.length_cons, List.length_nil, allOne, oneCellD, Bool.and_self, Bool.and_true, Bool.and_eq_true, Nat.beq_eq, Nat.ble_eq, Nat.reduceLeDiff, Nat.le_refl, and_self, if_true, reduceCtorEq, DS.wrC, Cells.size, Cells.fillFrom, Cells.set, setN, fillParts, List.take_zero, List.take_succ_cons, List.drop_succ_cons, List.drop_zero, List.nil_append, List.cons_append, DS.upd_get_self, DS.upd_get_ne, DS.upd_wr, Option.map_some, Option.isSome_some, DS.set_upd, nextM, unmask_mask, decide_false, foot, hroom, c2, hw, hw2, go, wo, ne, ne', gm, wm, isKey, hf]
        have h5 := ov_map (ov_more c1 (((putL k v T).length : Int) - (B.length : Int))) (clock' := clock + 1) (chs_chok (M ++ [((k, v, false), clock)]))
        rw [← chs_app] at h5
        refine hQ _ ⟨rfl, ⟨_, clock + 1, hok (cx.ok.app (c := (k, v, false)) hno hk) (hnew hno) (by rw [← chs_app]; exact h5), by simp, fun _ => hnew hno, fun h => absurd rfl h⟩, (X1.weaken (by simp)).trans' ((Ext.upd (.inl (by simp))).trans' (Ext.upd (.inl (by simp))))⟩
      · simp (maxSteps := 4000000) only [WC_seq, WC_region, WC_cond, WC_skip, WC_ret, contS_normal, contR_ap, WO_nil, WO_pp, WO_pn, condC_false, contO_ap, contN_ap, contHN_ap, atS_ap, atD_ap, atG_ap, W_some, W_mv, W_bin, W_nilck, W_build, W_fadr, W_ld, W_st, W_mupd, W_call, dpure, dbin, dint, dwrite, Ends_ret, ev_tmp, ev_const, ev_func, putT_some, putT_none, get_put_eq, get_put_ne, Nat.reduceEqDiff, not_false_eq_true, ofList_get, List.getElem?_cons_zero, List.getElem?_cons_succ, Option.getD_some, dresults, tupled, List.map_cons, List.map_nil, ldV_at, Cells.get, getN, Nat.zero_add, Nat.reduceAdd, st_wr, cells_int, List.length_cons, List.length_nil, allOne, oneCellD, Bool.and_self, Bool.and_true, Bool.and_eq_true, Nat.beq_eq, Nat.ble_eq, Nat.reduceLeDiff, Nat.le_refl, and_self, if_true, reduceCtorEq, DS.wrC, Cells.size, Cells.fillFrom, Cells.set, setN, fillParts, List.take_zero, List.take_succ_cons, List.drop_succ_cons, List.drop_zero, List.nil_append, List.cons_append, DS.upd_get_self, DS.upd_get_ne, DS.upd_wr, Option.map_some, Option.isSome_some, DS.set_upd, nextM, unmask_mask, decide_false, foot, hroom, c2, hw, hw2, go, wo, ne, ne', gm, wm, isKey, hf]
        have h5 := ov_map (ov_more c1 (((putL k v T).length : Int) - (B.length : Int))) (clock' := clock) (chs_chok (M.set j ((k, v, false), x.2)))
        rw [← chs_set M j x (k, v, false) hj hk2.symm] at h5
        refine hQ _ ⟨rfl, ⟨_, clock, hok (cx.ok.set hj (c := (k, v, false)) hk2.symm) (fun c' => has_set cx.ok hj (c := (k, v, false)) hk2.symm) (by rw [← chs_set M j x (k, v, false) hj hk2.symm]; exact h5), by simp, fun _ c' => has_set cx.ok hj (c := (k, v, false)) hk2.symm, fun h => absurd rfl h⟩, (X1.weaken (by simp)).trans' ((Ext.upd (.inl (by simp))).trans' (Ext.upd (.inl (by simp))))⟩
  | true =>
    rw [hat] at hlp
    simp only [if_true] at hlp
    have hpe : putE k T room = 0 := by unfold putE; rw [hat]; simp
    have hpr : putR k v T room = putL k v T := by unfold putR; rw [hat]; simp
    rw [hpr, hpe] at hQ
    rw [← hlp] at c1
    rcases chs_find M k 0 with ⟨hf, hno⟩ | ⟨j, x, hf, hj, hk2⟩
    · simp (maxSteps := 4000000) only [WC_seq, WC_region, WC_cond, WC_skip, WC_ret, contS_normal, contR_ap, WO_nil, WO_pp, condC_false, contO_ap, atS_ap, atG_ap, W_some, W_mv, W_un, W_nilck, W_build, W_fadr, W_ext, W_ld, W_mupd, dpure, dwrite, Ends_ret, ev_tmp, ev_const, putT_some, putT_none, get_put_eq, get_put_ne, Nat.reduceEqDiff, not_false_eq_true, ofList_get, List.getElem?_cons_zero, List.getElem?_cons_succ, Option.getD_some, dresults, tupled, ldV_at, Cells.get, getN, Nat.zero_add, Nat.reduceAdd, cells_int, List.length_cons, List.length_nil, Bool.and_self, Bool.and_eq_true, Nat.beq_eq, Nat.ble_eq, Nat.reduceLeDiff, and_self, if_true, reduceCtorEq, Bool.not_true, fillParts, List.take_zero, List.take_succ_cons, List.drop_succ_cons, List.drop_zero, List.nil_append, List.cons_append, Option.isSome_some, DS.set_upd, go, wo, ne, ne', gm, wm, isKey, hf]
      have h5 := ov_map c1 (clock' := clock + 1) (chs_chok (M ++ [((k, v, false), clock)]))
      rw [← chs_app] at h5
      refine hQ _ ⟨rfl, ⟨_, clock + 1, hok (cx.ok.app (c := (k, v, false)) hno hk) (hnew hno) (by rw [← chs_app]; exact h5), by simp, fun _ => hnew hno, fun h => absurd rfl h⟩, (X1.weaken (by simp)).trans' (Ext.upd (.inl (by simp)))⟩
    · simp (maxSteps := 4000000) only [WC_seq, WC_region, WC_cond, WC_skip, WC_ret, contS_normal, contR_ap, WO_nil, WO_pp, condC_false, contO_ap, atS_ap, atG_ap, W_some, W_mv, W_un, W_nilck, W_build, W_fadr, W_ext, W_ld, W_mupd, dpure, dwrite, Ends_ret, ev_tmp, ev_const, putT_some, putT_none, get_put_eq, get_put_ne, Nat.reduceEqDiff, not_false_eq_true, ofList_get, List.getElem?_cons_zero, List.getElem?_cons_succ, Option.getD_some, dresults, tupled, ldV_at, Cells.get, getN, Nat.zero_add, Nat.reduceAdd, cells_int, List.length_cons, List.length_nil, Bool.and_self, Bool.and_eq_true, Nat.beq_eq, Nat.ble_eq, Nat.reduceLeDiff, and_self, if_true, reduceCtorEq, Bool.not_true, fillParts, List.take_zero, List.take_succ_cons, List.drop_succ_cons, List.drop_zero, List.nil_append, List.cons_append, Option.isSome_some, DS.set_upd, go, wo, ne, ne', gm, wm, isKey, hf]
      have h5 := ov_map c1 (clock' := clock) (chs_chok (M.set j ((k, v, false), x.2)))
      rw [← chs_set M j x (k, v, false) hj hk2.symm] at h5
      refine hQ _ ⟨rfl, ⟨_, clock, hok (cx.ok.set hj (c := (k, v, false)) hk2.symm) (fun c' => has_set cx.ok hj (c := (k, v, false)) hk2.symm) (by rw [← chs_set M j x (k, v, false) hj hk2.symm]; exact h5), by simp, fun _ c' => has_set cx.ok hj (c := (k, v, false)) hk2.symm, fun h => absurd rfl h⟩, (X1.weaken (by simp)).trans' (Ext.upd (.inl (by simp)))⟩
theorem odel2_ok (cx : OvX s o m b M clock B T) (cb : StAt s b kv vv B room) (hob : ∀ k, k ∈ own b kv vv → k ≠ o ∧ k ≠ m) (hG : s.Good) (k : Int) (hk : I64 k) : W (dcall E (d + 7) (.func (.func 13) #[] #[]) [.pointer (some ⟨o, 0, none⟩), .int .i64 k] s) fun r => r.1 = .bool (isAt k T) ∧ (∃ M' clock', OvX r.2 o m b M' clock' B (delL k T) ∧ M'.length ≤ M.length + 1 ∧ (isAt k T = true → isAt k B = true → ∀ c', Has M' c' ↔ c' = (k, 0, true) ∨ (Has M c' ∧ c'.1 ≠ k)) ∧ (isAt k T = true → isAt k B = false → ∀ c', Has M' c' ↔ Has M c' ∧ c'.1 ≠ k) ∧ (isAt k T = false → M' = M)) ∧ Ext [o, m] s r.2 := by
  refine W_cps fun Q hQ => ?_
  rw [W_enter0 hO.iDel hO.fDel rfl]
  simp (maxSteps := 4000000) only [WC_seq, WC_region, contS_normal, contR_ap, WO_nil, WO_pp, contO_ap, W_mv, W_call, ev_tmp, ev_const, ev_func, putT_some, get_put_eq, get_put_ne, Nat.reduceEqDiff, not_false_eq_true, ofList_get, List.getElem?_cons_zero, List.getElem?_cons_succ, Option.getD_some, List.map_cons, List.map_nil, reduceCtorEq, pp, pv, d13]
  refine W.mono (oget2_ok hE hO cx cb hG k) ?_
  rintro ⟨v1, s1⟩ ⟨hv1, X1⟩
  simp only at hv1 X1
  subst hv1
  have cx1 := cx.keep X1 (by simp) (by simp)
  have c1 := cx1.at'
  have cb1 := cb.keep X1 (by simp)
  have hG1 := X1.good hG
  have go := c1.go
  have wo := c1.wo
  have gm := c1.gm
  have wm := c1.wm
  have ne := c1.ne
  have ne' : ¬ m = o := fun h => ne h.symm
  have h1 := cx.lt
  have h2 := cx.lb
  have hld := St.del_len (L := T) k
  cases hat : isAt k T with
  | false =>
    simp (maxSteps := 4000000) only [WC_seq, WC_region, WC_cond, WC_ret, contS_normal, contS_ret, contR_ap, WO_nil, WO_pp, condC_true, contO_ap, atS_ap, W_some, W_mv, W_un, W_ext, dpure, Ends_ret, ev_tmp, ev_const, putT_some, get_put_eq, get_put_ne, Nat.reduceEqDiff, not_false_eq_true, Option.getD_some, dresults, tupled, getN, Bool.not_false]
    have : delL k T = T := by unfold delL; rw [hat]; simp
    rw [this, hat] at hQ
    exact hQ _ ⟨rfl, ⟨M, clock, cx1, by omega, fun h => (nomatch h), fun h => (nomatch h), fun _ => rfl⟩, X1.weaken (by simp)⟩
  | true =>
    rw [hat] at hld hQ
    simp only [if_true] at hld
    have hpos : 0 < T.length := by
      obtain ⟨v, hv⟩ := (isAt_iff cx.sh.so).1 hat
      exact List.length_pos_of_mem hv
    have hw : dwrap .i64 ((T.length : Int) - (B.length : Int) - 1) = (((delL k T).length : Int) - (B.length : Int)) := by rw [dwrap_in (by omega) (by omega), hld]; omega
    simp (maxSteps := 4000000) only [WC_seq, WC_region, WC_cond, WC_skip, contS_normal, contR_ap, WO_nil, WO_pp, condC_false, contO_ap, atS_ap, atD_ap, W_some, W_mv, W_bin, W_un, W_nilck, W_fadr, W_ext, W_ld, W_st, W_call, dpure, dbin, dint, ev_tmp, ev_const, ev_func, putT_some, putT_none, get_put_eq, get_put_ne, Nat.reduceEqDiff, not_false_eq_true, ofList_get, List.getElem?_cons_zero, List.getElem?_cons_succ, Option.getD_some, List.map_cons, List.map_nil, ldV_at, Cells.get, getN, Nat.zero_add, Nat.reduceAdd, st_wr, cells_int, List.length_cons, List.length_nil, allOne, oneCellD, Bool.and_self, Bool.and_true, Nat.beq_eq, Nat.ble_eq, Nat.le_refl, if_true, reduceCtorEq, Bool.not_true, DS.wrC, Cells.size, Cells.fillFrom, Cells.set, setN, DS.upd_get_self, Option.map_some, Nat.add_zero, go, wo, hw]
    have X2 : Ext [o] s1 (s1.upd o (.cells (.list [.pointer (some ⟨b, 0, none⟩), .map (some m), .int .i64 (((delL k T).length : Int) - (B.length : Int))]) false)) := Ext.upd (.inl (by simp))
    have c2 := ov_more c1 (((delL k T).length : Int) - (B.length : Int))
    have cb2 := cb1.keep X2 (fun k hk => by simp; exact (hob k hk).1)
    have hget := Get_ok hE cb2 k (d := d + 1)
    have hok : ∀ {M' : Chs} {clock' : Nat}, ChsOk M' clock' → Shows B M' (delL k T) → ∀ {S : DS}, OvAt S o m b (M'.map chE) clock' (((delL k T).length : Int) - (B.length : Int)) → OvX S o m b M' clock' B (delL k T) := fun h3 h4 S h5 => ⟨h5, h3, h4, by rw [hld]; omega, h2, cx.so⟩
    cases hab : isAt k B with
    | true =>
      rw [hab] at hget
      have hB := (isAt_iff cx.so).1 hab
      have hnew : (∀ x, x ∈ M → x.1.1 ≠ k) → ∀ c', Has (M ++ [((k, 0, true), clock)]) c' ↔ c' = (k, 0, true) ∨ (Has M c' ∧ c'.1 ≠ k) := fun hno c' => by
        rw [has_app]
        exact ⟨fun h => h.elim (fun h => .inr ⟨h, by obtain ⟨b, hb⟩ := h; exact hno _ hb⟩) .inl, fun h => h.elim .inr fun h => .inl h.1⟩
      rcases chs_find M k 0 with ⟨hf, hno⟩ | ⟨j, x, hf, hj, hk2⟩
      · simp (maxSteps := 4000000) only [WC_seq, WC_region, WC_cond, WC_ret, contS_normal, contR_ap, WO_nil, WO_pp, condC_true, contO_ap, atS_ap, atG_ap, W_some, W_mv, W_nilck, W_build, W_fadr, W_ext, W_ld, W_mupd, dpure, dwrite, Ends_ret, ev_tmp, ev_const, putT_some, putT_none, get_put_eq, get_put_ne, Nat.reduceEqDiff, not_false_eq_true, ofList_get, List.getElem?_cons_zero, List.getElem?_cons_succ, Option.getD_some, dresults, tupled, ldV_at, Cells.get, getN, Nat.zero_add, Nat.reduceAdd, cells_int, cells_bool, List.length_cons, List.length_nil, Bool.and_self, Bool.and_eq_true, Nat.beq_eq, Nat.ble_eq, Nat.reduceLeDiff, Nat.le_refl, and_self, if_true, reduceCtorEq, fillParts, List.take_zero, List.take_succ_cons, List.drop_succ_cons, List.drop_zero, List.nil_append, List.cons_append, List.drop_nil, List.append_nil, DS.upd_get_self, DS.upd_get_ne, DS.upd_wr, Option.map_some, Option.isSome_some, DS.set_upd, hget, go, wo, ne, ne', gm, wm, isKey, hf]
        have h5 := ov_map c2 (clock' := clock + 1) (chs_chok (M ++ [((k, 0, true), clock)]))
        rw [← chs_app] at h5
        refine hQ _ ⟨rfl, ⟨_, clock + 1, hok (cx.ok.app (c := (k, 0, true)) hno hk) (cx.sh.delC hB (hnew hno)) (by rw [← chs_app]; exact h5), by simp, fun _ _ => hnew hno, (fun _ h => by rw [hab] at h; cases h), fun h => (nomatch h)⟩, (X1.weaken (by simp)).trans' ((Ext.upd (.inl (by simp))).trans' (Ext.upd (.inl (by simp))))⟩
      · simp (maxSteps := 4000000) only [WC_seq, WC_region, WC_cond, WC_ret, contS_normal, contR_ap, WO_nil, WO_pp, condC_true, contO_ap, atS_ap, atG_ap, W_some, W_mv, W_nilck, W_build, W_fadr, W_ext, W_ld, W_mupd, dpure, dwrite, Ends_ret, ev_tmp, ev_const, putT_some, putT_none, get_put_eq, get_put_ne, Nat.reduceEqDiff, not_false_eq_true, ofList_get, List.getElem?_cons_zero, List.getElem?_cons_succ, Option.getD_some, dresults, tupled, ldV_at, Cells.get, getN, Nat.zero_add, Nat.reduceAdd, cells_int, cells_bool, List.length_cons, List.length_nil, Bool.and_self, Bool.and_eq_true, Nat.beq_eq, Nat.ble_eq, Nat.reduceLeDiff, Nat.le_refl, and_self, if_true, reduceCtorEq, fillParts, List.take_zero, List.take_succ_cons, List.drop_succ_cons, List.drop_zero, List.nil_append, List.cons_append, List.drop_nil, List.append_nil, DS.upd_get_self, DS.upd_get_ne, DS.upd_wr, Option.map_some, Option.isSome_some, DS.set_upd, hget, go, wo, ne, ne', gm, wm, isKey, hf]
        have h5 := ov_map c2 (clock' := clock) (chs_chok (M.set j ((k, 0, true), x.2)))
        rw [← chs_set M j x (k, 0, true) hj hk2.symm] at h5
        refine hQ _ ⟨rfl, ⟨_, clock, hok (cx.ok.set hj (c := (k, 0, true)) hk2.symm) (cx.sh.delC hB fun c' => has_set cx.ok hj (c := (k, 0, true)) hk2.symm) (by rw [← chs_set M j x (k, 0, true) hj hk2.symm]; exact h5), by simp, fun _ _ c' => has_set cx.ok hj (c := (k, 0, true)) hk2.symm, (fun _ h => by rw [hab] at h; cases h), fun h => (nomatch h)⟩, (X1.weaken (by simp)).trans' ((Ext.upd (.inl (by simp))).trans' (Ext.upd (.inl (by simp))))⟩
    | false =>
      rw [hab] at hget
      have hB : ∀ v, (k, v) ∉ B := fun v hv => by rw [(isAt_iff cx.so).2 ⟨v, hv⟩] at hab; cases hab
      rcases chs_find M k 0 with ⟨hf, hno⟩ | ⟨j, x, hf, hj, hk2⟩
      · exact absurd (cx.sh.isAt_un cx.so hno) (by rw [hat, hab]; simp)
      · simp (maxSteps := 4000000) only [WC_seq, WC_region, WC_cond, WC_ret, contS_normal, contR_ap, WO_nil, WO_pp, condC_false, contO_ap, atS_ap, W_some, W_mv, W_nilck, W_fadr, W_ext, W_ld, W_bdel, dpure, dwrite, Ends_ret, ev_tmp, ev_const, putT_some, putT_none, get_put_eq, get_put_ne, Nat.reduceEqDiff, not_false_eq_true, ofList_get, List.getElem?_cons_zero, List.getElem?_cons_succ, Option.getD_some, dresults, tupled, ldV_at, Cells.get, getN, Nat.zero_add, if_true, reduceCtorEq, DS.upd_get_self, DS.upd_get_ne, DS.upd_wr, Option.map_some, Option.isSome_some, DS.set_upd, hget, go, wo, ne, ne', gm, wm, isKey, hf]
        have h5 := ov_map c2 (clock' := clock) (chs_chok (M.eraseIdx j))
        rw [← chs_drop] at h5
        have hl3 : (M.eraseIdx j).length ≤ M.length + 1 := by have := (List.eraseIdx_sublist M j).length_le; omega
        refine hQ _ ⟨rfl, ⟨_, clock, hok (cx.ok.drop j) (cx.sh.unC hB fun c' => by rw [has_drop cx.ok hj, hk2]) (by rw [← chs_drop]; exact h5), hl3, (fun _ h => by rw [hab] at h; cases h), (fun _ _ c' => by rw [has_drop cx.ok hj, hk2]), fun h => (nomatch h)⟩, (X1.weaken (by simp)).trans' ((Ext.upd (.inl (by simp))).trans' (Ext.upd (.inl (by simp))))⟩
end
end Go.Dx.OvA
/- Overlays: the changes gone over, and Commit (made by tools/gen.py out of ov3.t). -/
set_option linter.unusedVariables false
set_option linter.unusedSimpArgs false
set_option linter.unusedSectionVars false
set_option maxRecDepth 100000
set_option maxHeartbeats 4000000
namespace Go.Dx.OvA
open Go Go.Dx Go.Dx.Search Go.Dx.St Go.Proofs.Ytlpjlananbjgcaa
def keysM (M : Chs) : List Int := sortK (M.map fun x => x.1.1)
theorem keysM_mem {M : Chs} {k : Int} : k ∈ keysM M ↔ ∃ x, x ∈ M ∧ x.1.1 = k := by
  unfold keysM
  rw [(sortK_perm _).mem_iff, List.mem_map]
theorem keysM_len (M : Chs) : (keysM M).length = M.length := by
  unfold keysM
  rw [(sortK_perm _).length_eq, List.length_map]
/-- the sorted keys, at their place -/
def KeysAt (S : DS) (q : Nat) (ks : List Int) : Prop := ks ≠ [] → S.get q = some (.cells (.list (ks.map encI)) false)
structure ChgI (J : Nat → DS → Prop) (ks : List Int) (vS : Value) (y1 c : Nat) (i : Nat) (x : St) : Prop where
  ex : ∃ j : Nat, i = ks.length - j ∧ j ≤ ks.length ∧ x.defers = [] ∧ (x.t.get 0 = some (.func (.yield y1) #[] #[]) ∧ x.t.get 1 = some (.pointer (some ⟨c, 0, none⟩)) ∧ x.t.get 13 = some vS ∧ x.t.get 14 = some (.int .i64 (ks.length : Int)) ∧ x.t.get 15 = some (.int .i64 (j : Int))) ∧ J j x.s
section
variable {E : Env} (hE : Fns E) (hO : OvFns E) (hH : ChFns E) {s s' : DS} {d : Nat} {o m b clock : Nat} {M : Chs} {kv vv : Value} {B T : List Ent} {room more : Int} {F : List Nat} {J : Nat → DS → Prop} {Stop : DS → Prop} {c y1 : Nat}
include hE hO hH
theorem sorted_ok (hM : ChsOk M clock) (gm : s.get m = some (.map (M.map chE) clock)) (hG : s.Good) (hl : M.length ≤ 9000) :
    ∃ vS S2, (∀ dd, dcall E (dd + 1) (.func (.func 55) #[] #[]) [.func (.func 69) #[] #[.chan (some s.next)]] (s.new (.cells (.list [.map (some m)]) false)) = some (vS, S2)) ∧ Ext [] s S2 ∧ S2.Good ∧ KeysAt S2 (s.next + 1) (keysM M) ∧ (keysM M ≠ [] → s.next + 2 ≤ S2.next) ∧
      ∃ aS, vS = .slice aS (keysM M).length (keysM M).length ∧ (keysM M ≠ [] → aS = some ⟨s.next + 1, 0, some 1⟩) := by
  have hml := DS.get_lt' gm
  have g1 : (s.new (.cells (.list [.map (some m)]) false)).get s.next = some (.cells (.list [.map (some m)]) false) := DS.new_get_self hG
  have g2 : (s.new (.cells (.list [.map (some m)]) false)).get m = some (.map (M.map chE) clock) := (DS.new_get_lt hml).trans gm
  have hn : (s.new (.cells (.list [.map (some m)]) false)).next = s.next + 1 := rfl
  have hG1 : (s.new (.cells (.list [.map (some m)]) false)).Good := DS.new_good hG
  have X1 : Ext [] s (s.new (.cells (.list [.map (some m)]) false)) := Ext.new
  obtain ⟨S, hS⟩ : ∃ S : DS, S = s.new (.cells (.list [.map (some m)]) false) := ⟨_, rfl⟩
  rw [← hS] at g1 g2 hn hG1 X1
  have hle : Nat.ble (M.map fun x => x.1.1).length 1000000 = true := Nat.ble_eq.mpr (by rw [List.length_map]; omega)
  have hrun : ∀ r, (match sortK (M.map fun x => x.1.1) with
                | [] => some (Value.slice none 0 0, S)
                | x :: r => some (.slice (some ⟨S.next, 0, some 1⟩) (r.length + 1) (r.length + 1), S.new (.cells (.list ((x :: r).map encI)) false))) = some r → sortedD 69 [.func (.func 69) ⟨[]⟩ ⟨[.chan (some s.next)]⟩] S = some r := fun r hr => by
    unfold sortedD
    simp only [Nat.beq_refl, if_true, g1, Cells.get, getN, g2, keys_of hM, hle]
    exact hr
  rw [← hS]
  cases hk : keysM M with
  | nil =>
    refine ⟨.slice none 0 0, S, fun dd => intr_run hH.iSorted (hrun _ ?_), X1, hG1, fun h => absurd rfl h, fun h => absurd rfl h, none, rfl, fun h => absurd rfl h⟩
    unfold keysM at hk
    rw [hk]
  | cons x r =>
    refine ⟨.slice (some ⟨S.next, 0, some 1⟩) (r.length + 1) (r.length + 1), S.new (.cells (.list ((x :: r).map encI)) false), fun dd => intr_run hH.iSorted (hrun _ ?_), X1.trans' Ext.new, DS.new_good hG1, fun _ => ?_, fun _ => ?_, some ⟨S.next, 0, some 1⟩, rfl, fun _ => by rw [hn]⟩
    · unfold keysM at hk
      rw [hk]
    · rw [← hn]; exact DS.new_get_self hG1
    · show s.next + 2 ≤ S.next + 1
      omega
theorem chg_iter (hM : ChsOk M clock) (hl : M.length ≤ 9000) (hG : s.Good)
    (gc : s.get c = some (.cells (.list [.pointer (some ⟨o, 0, none⟩)]) false)) (go : s.get o = some (.cells (.list [.pointer (some ⟨b, 0, none⟩), .map (some m), .int .i64 more]) false)) (gm : s.get m = some (.map (M.map chE) clock))
    (hJ : ∀ i S, J i S → S.get o = some (.cells (.list [.pointer (some ⟨b, 0, none⟩), .map (some m), .int .i64 more]) false) ∧ S.get m = some (.map (M.map chE) clock) ∧ S.get c = some (.cells (.list [.pointer (some ⟨o, 0, none⟩)]) false) ∧ KeysAt S (s.next + 1) (keysM M))
    (hstep : ∀ (i : Nat) (k : Int) (x : Chg × Nat) (S : DS), (keysM M)[i]? = some k → x ∈ M → x.1.1 = k → J i S → W (dcall E (d + 1) (.func (.yield y1) #[] #[]) [chV x.1] S) fun r => (r.1 = .bool true ∧ J (i + 1) r.2) ∨ (r.1 = .bool false ∧ Stop r.2))
    (h0 : ∀ S, Ext [] s S → S.Good → KeysAt S (s.next + 1) (keysM M) → (keysM M ≠ [] → s.next + 2 ≤ S.next) → J 0 S) :
    W (dcall E (d + 2) (.func (.func 54) #[] #[.pointer (some ⟨c, 0, none⟩)]) [.func (.yield y1) #[] #[]] s) fun r => J (keysM M).length r.2 ∨ Stop r.2 := by
  have hol := DS.get_lt' go
  have hml := DS.get_lt' gm
  have hcl := DS.get_lt' gc
  have hlf := hE.lf
  have hkl := keysM_len M
  refine W_cps fun Q hQ => ?_
  rw [W_enter hH.iChg1 hH.fChg1 rfl]
  obtain ⟨vS, S2, hs, X2, hG2, hq, hn2, aS, rfl, haS⟩ := sorted_ok hE hO hH hM gm hG hl
  have hmade := made_ok hE hO go (d := d)
  have hk : ∀ dd, dcall E (dd + 1) (.func (.func 56) #[] #[]) [.map (some m)] s = some (.func (.func 69) #[] #[.chan (some s.next)], s.new (.cells (.list [.map (some m)]) false)) := fun dd => intr_run hH.iKeys rfl
  simp (maxSteps := 4000000) only [WC_seq, WC_region, WC_cond, WC_block, WC_skip, contS_normal, contR_ap, WO_nil, WO_pp, condC_false, contO_ap, atS_ap, W_some, W_mv, W_un, W_nilck, W_fadr, W_blenL, W_ld, W_call, dpure, ev_tmp, ev_const, ev_func, putT_some, get_put_eq, get_put_ne, Nat.reduceEqDiff, not_false_eq_true, ofList_get, List.getElem?_cons_zero, List.getElem?_cons_succ, Option.getD_some, List.map_cons, List.map_nil, ldV_at, Cells.get, getN, Nat.zero_add, Bool.not_true, List.nil_append, List.cons_append, pp, pv, d54, gc, go, hmade, hk, hs]
  refine WC_loop (ChgI J (keysM M) (.slice aS (keysM M).length (keysM M).length) y1 c) (keysM M).length (by omega) ⟨0, rfl, Nat.zero_le _, rfl, ?_, h0 S2 X2 hG2 hq hn2⟩ ?_
  · simp (maxSteps := 4000000) only [get_put_eq, get_put_ne, Nat.reduceEqDiff, not_false_eq_true, ofList_get, List.getElem?_cons_zero, List.getElem?_cons_succ, Bool.true_and, true_and, reduceCtorEq]
    rfl
  rintro n ⟨t, S, ds⟩ hn ⟨i, rfl, hi, hds, ⟨g0, g1, g13, g14, g15⟩, hj⟩
  simp only at hds g0 g1 g13 g14 g15 hj
  subst hds
  by_cases c1 : i < (keysM M).length
  · have hx : (keysM M)[i]? = some (keysM M)[i] := List.getElem?_eq_getElem c1
    generalize (keysM M)[i] = k at hx
    have hne : keysM M ≠ [] := fun e => by rw [e] at c1; simp at c1
    obtain ⟨goS, gmS, gcS, hqS⟩ := hJ i S hj
    have hqS := hqS hne
    rw [haS hne] at g13
    have hg : getN ((keysM M).map encI) i = some (.int .i64 k) := by rw [getN_eq, List.getElem?_map, hx]; rfl
    have e1 : (i : Int) < ((keysM M).length : Int) := by omega
    have w1 : dwrap .i64 ((i : Int) + 1) = ((i + 1 : Nat) : Int) := by rw [dwrap_in (by omega) (by omega)]; omega
    obtain ⟨x0, hx0, hk0⟩ := keysM_mem.1 (List.mem_of_getElem? hx)
    rcases chs_find M k 0 with ⟨_, hno⟩ | ⟨j, x, hf, hj2, hk2⟩
    · exact absurd hk0 (hno x0 hx0)
    have hv : (chE x).val = chV x.1 := rfl
    simp (maxSteps := 4000000) only [WC_seq, WC_region, WC_cond, WC_block, WC_skip, contS_normal, contR_ap, WO_nil, WO_pp, condC_true, contO_ap, atS_ap, W_some, W_mv, W_bin, W_nilck, W_fadr, W_ixL, W_ld, W_look, W_call, dpure, dbin, dint, dread, ev_tmp, putT_some, get_put_eq, get_put_ne, Nat.reduceEqDiff, not_false_eq_true, Option.getD_some, List.map_cons, List.map_nil, ldV_at, Cells.get, getN, Nat.zero_add, Nat.blt_eq, if_true, if_false, reduceCtorEq, Bool.false_eq_true, asIdx_cast, Nat.mul_one, decide_true, g0, g1, g13, g14, g15, e1, c1, hqS, hg, gcS, goS, gmS, isKey, hf, hv]
    refine W.mono (hstep i k x S hx (List.mem_of_getElem? hj2) hk2 hj) ?_
    rintro ⟨v, S3⟩ (⟨hv, hj3⟩ | ⟨hv, hst⟩)
    · simp only at hv hj3
      subst hv
      simp (maxSteps := 4000000) only [WC_region, WC_cond, WC_skip, contS_normal, contB_normal, contR_ap, contL_normal, WO_nil, WO_pp, condC_false, contO_ap, atS_ap, W_some, W_mv, W_bin, W_un, dpure, dbin, dint, ev_tmp, ev_const, putT_some, get_put_eq, get_put_ne, Nat.reduceEqDiff, not_false_eq_true, Option.getD_some, if_true, Bool.not_true, g0, g1, g13, g14, g15, w1]
      exact ⟨(keysM M).length - (i + 1), by omega, ⟨i + 1, rfl, by omega, rfl, by simp (maxSteps := 4000000) only [get_put_eq, get_put_ne, Nat.reduceEqDiff, not_false_eq_true, Bool.and_self, and_self, reduceCtorEq, g0, g1, g13, g14, g15, haS hne], hj3⟩⟩
    · simp only at hv hst
      subst hv
      simp (maxSteps := 4000000) only [WC_cond, WC_ret, contS_normal, contS_ret, contB_ret, contR_ap, contL_ret, WO_nil, WO_pp, condC_true, contO_ap, atS_ap, W_some, W_un, dpure, Ends_ret, ev_tmp, putT_some, get_put_eq, Option.getD_some, dresults, tupled, Bool.not_false, g0, g1, g13, g14, g15]
      exact hQ _ (.inr hst)
  · obtain rfl : i = (keysM M).length := by omega
    have e1 : ¬ ((keysM M).length : Int) < ((keysM M).length : Int) := by omega
    simp (maxSteps := 4000000) only [WC_seq, WC_region, WC_cond, WC_exit, contS_normal, contS_exit, contB_exit, contR_ap, contL_exit, WO_nil, WO_pp, condC_false, contO_ap, atS_ap, W_some, W_bin, dbin, dint, Ends_normal, ev_tmp, putT_some, get_put_eq, Option.getD_some, dresults, tupled, if_true, decide_false, g0, g1, g13, g14, g15, e1]
    exact hQ _ (.inl hj)
end
end Go.Dx.OvA
/- Overlays: Commit (made by tools/gen.py out of ov4.t). -/
set_option linter.unusedVariables false
set_option linter.unusedSimpArgs false
set_option linter.unusedSectionVars false
set_option maxRecDepth 100000
set_option maxHeartbeats 4000000
namespace Go.Dx.OvA
open Go Go.Dx Go.Dx.Search Go.Dx.St Go.Proofs.Ytlpjlananbjgcaa
def asgC1 : DCode := (.region [pp 3 (.alloc [.int .i64 0, .int .i64 0, .bool false]), ⟨none, .st 3 (tm 3) (tm 10), none, [], false⟩])
def bodyC1 : DCode := (.block 1 (.seq (.region [pp 11 (.fadr 2 (tm 3)), pp 12 (.ld none (tm 11))]) (.cond (tm 12) (.region [pp 13 (.ld none (tm 1)), pp 14 (.nilck (tm 13)), pp 15 (.fadr 0 (tm 14)), pp 16 (.ld none (tm 15)), pp 17 (.fadr 0 (tm 3)), pp 18 (.ld none (tm 17)), pp 19 (.call (.func 30) [.tmp 16, .tmp 18])]) (.skip))))
def asgC2 : DCode := (.region [pp 4 (.alloc [.int .i64 0, .int .i64 0, .bool false]), ⟨none, .st 3 (tm 4) (tm 22), none, [], false⟩])
def bodyC2 : DCode := (.block 3 (.seq (.region [pp 23 (.fadr 2 (tm 4)), pp 24 (.ld none (tm 23)), pp 25 (.un .not (tm 24))]) (.cond (tm 25) (.region [pp 26 (.ld none (tm 1)), pp 27 (.nilck (tm 26)), pp 28 (.fadr 0 (tm 27)), pp 29 (.ld none (tm 28)), pp 30 (.fadr 0 (tm 4)), pp 31 (.ld none (tm 30)), pp 32 (.fadr 1 (tm 4)), pp 33 (.ld none (tm 32)), pp 34 (.call (.func 31) [.tmp 29, .tmp 31, .tmp 33])]) (.skip))))
theorem take_snoc {α : Type} {l : List α} {i : Nat} {k : α} (h : l[i]? = some k) : l.take (i + 1) = l.take i ++ [k] := by rw [List.take_add_one, h]; rfl
/-- between two rounds of the deletions -/
structure DelJ (U : DS) (b : Nat) (kv vv : Value) (room : Int) (B : List Ent) (M : Chs) (y1 q : Nat) (tt : PT Value) (i : Nat) (S : DS) : Prop where
  ex : ∃ kv1 vv1 L, StAt S b kv1 vv1 L room ∧ Dels B M ((keysM M).take i) L ∧ ∀ k, k ∈ own b kv1 vv1 → k ∈ own b kv vv ∨ q < k
  xt : Ext (y1 :: own b kv vv) U S
  gy : S.get y1 = some (loopOb tt [10] asgC1 bodyC1)
  ks : KeysAt S q (keysM M)
  qn : keysM M ≠ [] → q < S.next
structure PutJ (U : DS) (b : Nat) (kv vv : Value) (room : Int) (D : List Ent) (M : Chs) (y1 q : Nat) (tt : PT Value) (i : Nat) (S : DS) : Prop where
  ex : ∃ kv1 vv1 L, StAt S b kv1 vv1 L room ∧ Puts D M ((keysM M).take i) L ∧ ∀ k, k ∈ own b kv1 vv1 → k ∈ own b kv vv ∨ q < k
  xt : Ext (y1 :: own b kv vv) U S
  gy : S.get y1 = some (loopOb tt [22] asgC2 bodyC2)
  ks : KeysAt S q (keysM M)
  qn : keysM M ≠ [] → q < S.next
section
variable {E : Env} (hE : Fns E) (hO : OvFns E) (hH : ChFns E) {s s' : DS} {d : Nat} {o m b clock : Nat} {M : Chs} {kv vv : Value} {B T D : List Ent} {room more : Int} {F : List Nat} {U S : DS} {y1 q c1 : Nat} {tt : PT Value}
theorem KeysAt.keep {ks : List Int} (h : KeysAt s q ks) (e : Ext F s s') (hq : q ∉ F) : KeysAt s' q ks := fun hk => e.keep (h hk) hq
include hE hO hH
theorem delStep (hM : ChsOk M clock) (hgn : ∀ c, Has M c → c.2.2 = true → c.2.1 = 0) (hGU : U.Good) (go : U.get o = some (.cells (.list [.pointer (some ⟨b, 0, none⟩), .map (some m), .int .i64 more]) false)) (g1 : U.get c1 = some (.cells (.list [.pointer (some ⟨o, 0, none⟩)]) false)) (ht : tt.get 1 = some (.pointer (some ⟨c1, 0, none⟩)))
    (ho : ∀ k, k ∈ y1 :: own b kv vv → k ≠ o ∧ k ≠ c1 ∧ k < q) (hoo : o < q) (hqU : U.next ≤ q) (hy : y1 ∉ own b kv vv) (hyl : U.wr y1 = true) (hyq : y1 < U.next)
    {i : Nat} {k : Int} {x : Chg × Nat} (hk : (keysM M)[i]? = some k) (hx : x ∈ M) (hxk : x.1.1 = k) (hj : DelJ U b kv vv room B M y1 q tt i S) :
    W (dcall E (d + 7) (.func (.yield y1) #[] #[]) [chV x.1] S) fun r => (r.1 = .bool true ∧ DelJ U b kv vv room B M y1 q tt (i + 1) r.2) ∨ (r.1 = .bool false ∧ False) := by
  obtain ⟨⟨kv1, vv1, L, cS, hD, hown⟩, X, gy, hks, hqn⟩ := hj
  have hG := X.good hGU
  have hne : keysM M ≠ [] := fun e => by rw [e] at hk; simp at hk
  have hqn := hqn hne
  have hyo := ho y1 (List.mem_cons_self ..)
  have goS := X.keep go (fun h => (ho _ h).1 rfl)
  have g1S := X.keep g1 (fun h => (ho _ h).2.1 rfl)
  have hyn : y1 < S.next := DS.get_lt' gy
  have hcn : c1 < S.next := DS.get_lt' g1S
  have hon : o < S.next := DS.get_lt' goS
  have hbn := cS.lt
  have hyw := X.wrs hyl
  have hown1 : ∀ k, k ∈ own b kv1 vv1 → k ≠ y1 ∧ k ≠ q := fun k hk => by
    rcases hown k hk with h | h
    · have := ho k (List.mem_cons_of_mem _ h); exact ⟨fun e => hy (e ▸ h), by omega⟩
    · exact ⟨by omega, by omega⟩
  refine W_yield gy rfl ?_
  obtain ⟨⟨k', v, g⟩, bt⟩ := x
  simp only at hxk
  subst hxk
  simp (maxSteps := 4000000) (maxDischargeDepth := 8) only [WC_region, contR_ap, WO_nil, WO_pp, contO_ap, atD_ap, W_some, W_st, W_alloc, ev_tmp, putT_some, putT_none, get_put_eq, get_put_ne, not_false_eq_true, Option.getD_some, Nat.zero_add, Nat.reduceAdd, st_wr, cells_agg, List.length_cons, List.length_nil, allOne, oneCellD, Bool.and_self, Bool.and_true, Nat.beq_eq, Nat.ble_eq, Nat.le_refl, if_true, DS.wrC, Cells.size, Cells.fillFrom, Cells.set, setN, pp, wrN, setParams_nil, setParams_cons, get_new_at, good_new, good_at, eq_gt, Nat.reduceLT, asgC1, chV, hG]
  have gy2 : ((S.new (.cells (.list [.int .i64 0, .int .i64 0, .bool false]) false)).upd S.next (.cells (.list [.int .i64 k', .int .i64 v, .bool g]) false)).get y1 = some (loopOb tt [10] asgC1 bodyC1) := by simp (maxSteps := 4000000) (maxDischargeDepth := 8) only [not_false_eq_true, DS.upd_get_ne, get_new_ne, eq_lt, hG, hyn, gy]
  refine contY_ap gy2 (by simp (maxSteps := 4000000) (maxDischargeDepth := 8) only [DS.upd_wr, wrN, hyw]) ?_
  obtain ⟨Sb, hSb⟩ : ∃ Sb : DS, Sb = ((S.new (.cells (.list [.int .i64 0, .int .i64 0, .bool false]) false)).upd S.next (.cells (.list [.int .i64 k', .int .i64 v, .bool g]) false)).upd y1 (.loop .busy .normal tt [10] asgC1 bodyC1) := ⟨_, rfl⟩
  show WC _ _ _ bodyC1 ⟨(tt.put 10 _).put 3 (some (.pointer (some ⟨S.next, 0, none⟩))), (DS.upd (DS.upd (S.new _) S.next _) y1 (.loop .busy .normal tt [10] asgC1 bodyC1)), []⟩ _
  rw [← hSb]
  have Xb : Ext [y1] S Sb := by
    rw [hSb]
    have x1 : Ext [y1] S (S.new (.cells (.list [.int .i64 0, .int .i64 0, .bool false]) false)) := Ext.new
    have x2 : Ext [S.next] (S.new (.cells (.list [.int .i64 0, .int .i64 0, .bool false]) false)) ((S.new (.cells (.list [.int .i64 0, .int .i64 0, .bool false]) false)).upd S.next (.cells (.list [.int .i64 k', .int .i64 v, .bool g]) false)) := Ext.upd (.inl (by simp))
    exact (x1.trans x2 (by simp)).trans' (Ext.upd (.inl (by simp)))
  have hGb := Xb.good hG
  have gb3 : Sb.get S.next = some (.cells (.list [.int .i64 k', .int .i64 v, .bool g]) false) := by rw [hSb]; simp (maxSteps := 4000000) (maxDischargeDepth := 8) only [not_false_eq_true, DS.upd_get_self, DS.upd_get_ne, Option.map_some, get_new_at, eq_gt, hG, hyn]
  have gby : Sb.get y1 = some (.loop .busy .normal tt [10] asgC1 bodyC1) := by rw [hSb]; simp (maxSteps := 4000000) (maxDischargeDepth := 8) only [not_false_eq_true, DS.upd_get_self, DS.upd_get_ne, Option.map_some, get_new_ne, eq_lt, hG, hyn, gy]
  clear hSb
  have gob := Xb.keep goS (by simp; exact fun e => hyo.1 e.symm)
  have g1b := Xb.keep g1S (by simp; exact fun e => hyo.2.1 e.symm)
  have cb := cS.keep Xb (fun k hk => by simp; exact (hown1 k hk).1)
  have hyw2 := Xb.wrs hyw
  have htk := take_snoc hk
  have hfin : ∀ {S5 : DS} {kv2 vv2 : Value} {L2 : List Ent}, StAt S5 b kv2 vv2 L2 room → Dels B M ((keysM M).take (i + 1)) L2 → (∀ k, k ∈ own b kv2 vv2 → k ∈ own b kv1 vv1 ∨ S.next ≤ k) → Ext (own b kv1 vv1) Sb S5 →
      contZ y1 (fun r => (r.1 = .bool true ∧ DelJ U b kv vv room B M y1 q tt (i + 1) r.2) ∨ (r.1 = .bool false ∧ False)) .normal ⟨(tt.put 10 (some (.agg ⟨[.int .i64 k', .int .i64 v, .bool g]⟩))).put 3 (some (.pointer (some ⟨S.next, 0, none⟩))), S5, []⟩ := by
    intro S5 kv2 vv2 L2 c5 hD5 ho5 X5
    have g5 := X5.keep gby (fun h => (hown1 _ h).1 rfl)
    refine contZ_ap g5 (X5.wrs hyw2) (.inl ⟨rfl, ?_⟩)
    have X6 : Ext [y1] S5 (S5.upd y1 (.loop .ready .normal tt [10] asgC1 bodyC1)) := Ext.upd (.inl (by simp))
    have hyo2 : y1 ∉ own b kv2 vv2 := fun h => by
      rcases ho5 _ h with h | h
      · exact (hown1 _ h).1 rfl
      · omega
    refine ⟨⟨kv2, vv2, L2, c5.keep X6 (fun k hk => by simp; exact fun e => hyo2 (e ▸ hk)), hD5, fun k hk => ?_⟩, ?_, ?_, ?_, fun _ => ?_⟩
    · rcases ho5 k hk with h | h
      · exact hown k h
      · exact .inr (by omega)
    · refine ((X.trans Xb (by simp)).trans X5 fun k hk => ?_).trans X6 (by simp)
      rcases hown k hk with h | h
      · exact .inl (List.mem_cons_of_mem _ h)
      · exact .inr (by have := X.le; omega)
    · show (S5.upd y1 _).get y1 = _
      rw [DS.upd_get_self, g5]; rfl
    · exact ((hks.keep Xb (by simp; omega)).keep X5 (fun h => (hown1 _ h).2 rfl)).keep X6 (by simp; omega)
    · have h1 := Xb.le; have h2 := X5.le; have h3 := X6.le
      exact Nat.lt_of_lt_of_le (by omega) h3
  cases g with
  | true =>
    obtain rfl : v = 0 := hgn _ ⟨bt, hx⟩ rfl
    simp (maxSteps := 4000000) only [WC_seq, WC_region, WC_cond, WC_block, contS_normal, contR_ap, WO_nil, WO_pp, condC_true, contO_ap, atS_ap, W_some, W_nilck, W_fadr, W_ld, W_call, dpure, ev_tmp, ev_func, putT_some, get_put_eq, get_put_ne, Nat.reduceEqDiff, not_false_eq_true, Option.getD_some, List.map_cons, List.map_nil, ldV_at, Cells.get, getN, Nat.zero_add, pp, Nat.add_zero, bodyC1, ht, g1b, gob, gb3]
    refine W.mono (Delete_ok hE (d := d) cb hGb k') ?_
    rintro ⟨v4, s4⟩ ⟨_, kv2, vv2, c4, X4, o4⟩
    simp only at c4 X4 o4
    simp (maxSteps := 4000000) only [contB_normal, contR_ap, WO_nil, contO_ap, putT_some]
    refine hfin c4 (by rw [htk]; exact hD.gone ⟨bt, hx⟩) (fun k hk => (o4 k hk).imp id fun h => by have := Xb.le; omega) X4
  | false =>
    simp (maxSteps := 4000000) only [WC_seq, WC_region, WC_cond, WC_block, WC_skip, contS_normal, contB_normal, contR_ap, WO_nil, WO_pp, condC_false, contO_ap, atS_ap, W_some, W_fadr, W_ld, dpure, ev_tmp, putT_some, get_put_eq, Option.getD_some, ldV_at, Cells.get, getN, Nat.zero_add, pp, bodyC1, ht, g1b, gob, gb3]
    have hno : ¬ Has M (k', 0, true) := fun ⟨b2, h2⟩ => by
      have := hM.uniq' hx h2 rfl
      simp at this
    exact hfin cb (by rw [htk]; exact hD.keep hno) (fun k hk => .inl hk) .refl
theorem putStep (hM : ChsOk M clock) (hS : Shows B M T) (hD0 : Dels B M (keysM M) D) (hr : (T.length : Int) ≤ room) (hroom : room ≤ 5000) (hGU : U.Good) (go : U.get o = some (.cells (.list [.pointer (some ⟨b, 0, none⟩), .map (some m), .int .i64 more]) false)) (g1 : U.get c1 = some (.cells (.list [.pointer (some ⟨o, 0, none⟩)]) false)) (ht : tt.get 1 = some (.pointer (some ⟨c1, 0, none⟩)))
    (ho : ∀ k, k ∈ y1 :: own b kv vv → k ≠ o ∧ k ≠ c1 ∧ k < q) (hoo : o < q) (hqU : U.next ≤ q) (hy : y1 ∉ own b kv vv) (hyl : U.wr y1 = true) (hyq : y1 < U.next)
    {i : Nat} {k : Int} {x : Chg × Nat} (hk : (keysM M)[i]? = some k) (hx : x ∈ M) (hxk : x.1.1 = k) (hj : PutJ U b kv vv room D M y1 q tt i S) :
    W (dcall E (d + 7) (.func (.yield y1) #[] #[]) [chV x.1] S) fun r => (r.1 = .bool true ∧ PutJ U b kv vv room D M y1 q tt (i + 1) r.2) ∨ (r.1 = .bool false ∧ False) := by
  obtain ⟨⟨kv1, vv1, L, cS, hD, hown⟩, X, gy, hks, hqn⟩ := hj
  have hG := X.good hGU
  have hne : keysM M ≠ [] := fun e => by rw [e] at hk; simp at hk
  have hqn := hqn hne
  have hyo := ho y1 (List.mem_cons_self ..)
  have goS := X.keep go (fun h => (ho _ h).1 rfl)
  have g1S := X.keep g1 (fun h => (ho _ h).2.1 rfl)
  have hyn : y1 < S.next := DS.get_lt' gy
  have hcn : c1 < S.next := DS.get_lt' g1S
  have hon : o < S.next := DS.get_lt' goS
  have hbn := cS.lt
  have hyw := X.wrs hyl
  have hown1 : ∀ k, k ∈ own b kv1 vv1 → k ≠ y1 ∧ k ≠ q := fun k hk => by
    rcases hown k hk with h | h
    · have := ho k (List.mem_cons_of_mem _ h); exact ⟨fun e => hy (e ▸ h), by omega⟩
    · exact ⟨by omega, by omega⟩
  refine W_yield gy rfl ?_
  obtain ⟨⟨k', v, g⟩, bt⟩ := x
  simp only at hxk
  subst hxk
  simp (maxSteps := 4000000) (maxDischargeDepth := 8) only [WC_region, contR_ap, WO_nil, WO_pp, contO_ap, atD_ap, W_some, W_st, W_alloc, ev_tmp, putT_some, putT_none, get_put_eq, get_put_ne, not_false_eq_true, Option.getD_some, Nat.zero_add, Nat.reduceAdd, st_wr, cells_agg, List.length_cons, List.length_nil, allOne, oneCellD, Bool.and_self, Bool.and_true, Nat.beq_eq, Nat.ble_eq, Nat.le_refl, if_true, DS.wrC, Cells.size, Cells.fillFrom, Cells.set, setN, pp, wrN, setParams_nil, setParams_cons, get_new_at, good_new, good_at, eq_gt, Nat.reduceLT, asgC2, chV, hG]
  have gy2 : ((S.new (.cells (.list [.int .i64 0, .int .i64 0, .bool false]) false)).upd S.next (.cells (.list [.int .i64 k', .int .i64 v, .bool g]) false)).get y1 = some (loopOb tt [22] asgC2 bodyC2) := by simp (maxSteps := 4000000) (maxDischargeDepth := 8) only [not_false_eq_true, DS.upd_get_ne, get_new_ne, eq_lt, hG, hyn, gy]
  refine contY_ap gy2 (by simp (maxSteps := 4000000) (maxDischargeDepth := 8) only [DS.upd_wr, wrN, hyw]) ?_
  obtain ⟨Sb, hSb⟩ : ∃ Sb : DS, Sb = ((S.new (.cells (.list [.int .i64 0, .int .i64 0, .bool false]) false)).upd S.next (.cells (.list [.int .i64 k', .int .i64 v, .bool g]) false)).upd y1 (.loop .busy .normal tt [22] asgC2 bodyC2) := ⟨_, rfl⟩
  show WC _ _ _ bodyC2 ⟨(tt.put 22 _).put 4 (some (.pointer (some ⟨S.next, 0, none⟩))), (DS.upd (DS.upd (S.new _) S.next _) y1 (.loop .busy .normal tt [22] asgC2 bodyC2)), []⟩ _
  rw [← hSb]
  have Xb : Ext [y1] S Sb := by
    rw [hSb]
    have x1 : Ext [y1] S (S.new (.cells (.list [.int .i64 0, .int .i64 0, .bool false]) false)) := Ext.new
    have x2 : Ext [S.next] (S.new (.cells (.list [.int .i64 0, .int .i64 0, .bool false]) false)) ((S.new (.cells (.list [.int .i64 0, .int .i64 0, .bool false]) false)).upd S.next (.cells (.list [.int .i64 k', .int .i64 v, .bool g]) false)) := Ext.upd (.inl (by simp))
    exact (x1.trans x2 (by simp)).trans' (Ext.upd (.inl (by simp)))
  have hGb := Xb.good hG
  have gb3 : Sb.get S.next = some (.cells (.list [.int .i64 k', .int .i64 v, .bool g]) false) := by rw [hSb]; simp (maxSteps := 4000000) (maxDischargeDepth := 8) only [not_false_eq_true, DS.upd_get_self, DS.upd_get_ne, Option.map_some, get_new_at, eq_gt, hG, hyn]
  have gby : Sb.get y1 = some (.loop .busy .normal tt [22] asgC2 bodyC2) := by rw [hSb]; simp (maxSteps := 4000000) (maxDischargeDepth := 8) only [not_false_eq_true, DS.upd_get_self, DS.upd_get_ne, Option.map_some, get_new_ne, eq_lt, hG, hyn, gy]
  clear hSb
  have gob := Xb.keep goS (by simp; exact fun e => hyo.1 e.symm)
  have g1b := Xb.keep g1S (by simp; exact fun e => hyo.2.1 e.symm)
  have cb := cS.keep Xb (fun k hk => by simp; exact (hown1 k hk).1)
  have hyw2 := Xb.wrs hyw
  have htk := take_snoc hk
  have hfin : ∀ {S5 : DS} {kv2 vv2 : Value} {L2 : List Ent}, StAt S5 b kv2 vv2 L2 room → Puts D M ((keysM M).take (i + 1)) L2 → (∀ k, k ∈ own b kv2 vv2 → k ∈ own b kv1 vv1 ∨ S.next ≤ k) → Ext (own b kv1 vv1) Sb S5 →
      contZ y1 (fun r => (r.1 = .bool true ∧ PutJ U b kv vv room D M y1 q tt (i + 1) r.2) ∨ (r.1 = .bool false ∧ False)) .normal ⟨(tt.put 22 (some (.agg ⟨[.int .i64 k', .int .i64 v, .bool g]⟩))).put 4 (some (.pointer (some ⟨S.next, 0, none⟩))), S5, []⟩ := by
    intro S5 kv2 vv2 L2 c5 hD5 ho5 X5
    have g5 := X5.keep gby (fun h => (hown1 _ h).1 rfl)
    refine contZ_ap g5 (X5.wrs hyw2) (.inl ⟨rfl, ?_⟩)
    have X6 : Ext [y1] S5 (S5.upd y1 (.loop .ready .normal tt [22] asgC2 bodyC2)) := Ext.upd (.inl (by simp))
    have hyo2 : y1 ∉ own b kv2 vv2 := fun h => by
      rcases ho5 _ h with h | h
      · exact (hown1 _ h).1 rfl
      · omega
    refine ⟨⟨kv2, vv2, L2, c5.keep X6 (fun k hk => by simp; exact fun e => hyo2 (e ▸ hk)), hD5, fun k hk => ?_⟩, ?_, ?_, ?_, fun _ => ?_⟩
    · rcases ho5 k hk with h | h
      · exact hown k h
      · exact .inr (by omega)
    · refine ((X.trans Xb (by simp)).trans X5 fun k hk => ?_).trans X6 (by simp)
      rcases hown k hk with h | h
      · exact .inl (List.mem_cons_of_mem _ h)
      · exact .inr (by have := X.le; omega)
    · show (S5.upd y1 _).get y1 = _
      rw [DS.upd_get_self, g5]; rfl
    · exact ((hks.keep Xb (by simp; omega)).keep X5 (fun h => (hown1 _ h).2 rfl)).keep X6 (by simp; omega)
    · have h1 := Xb.le; have h2 := X5.le; have h3 := X6.le
      exact Nat.lt_of_lt_of_le (by omega) h3
  cases g with
  | false =>
    simp (maxSteps := 4000000) only [WC_seq, WC_region, WC_cond, WC_block, contS_normal, contR_ap, WO_nil, WO_pp, condC_true, contO_ap, atS_ap, W_some, W_un, W_nilck, W_fadr, W_ld, W_call, dpure, ev_tmp, ev_func, putT_some, get_put_eq, get_put_ne, Nat.reduceEqDiff, not_false_eq_true, Option.getD_some, List.map_cons, List.map_nil, ldV_at, Cells.get, getN, Nat.zero_add, Bool.not_false, pp, Nat.add_zero, bodyC2, ht, g1b, gob, gb3]
    refine W.mono (Put_ok hE (d := d) cb hGb k' v hroom) ?_
    rintro ⟨v4, s4⟩ ⟨_, kv2, vv2, c4, X4, o4⟩
    simp only at c4 X4 o4
    have hD5 : Puts D M ((keysM M).take i ++ [k']) (putL k' v L) := hD.put hM ⟨bt, hx⟩
    have hall : ∀ c, Has M c → c.1 ∈ keysM M := fun c ⟨b2, h2⟩ => keysM_mem.2 ⟨_, h2, rfl⟩
    have hle := keys_len hD5.so hS.so (Puts.sub hM hS hall hD0 hD5)
    rw [St.put_len] at hle
    have hput : putR k' v L room = putL k' v L := by
      unfold putR
      split
      · rfl
      · rename_i h
        rw [if_neg h] at hle
        rw [if_neg (by omega)]
    rw [hput] at c4
    simp (maxSteps := 4000000) only [contB_normal, contR_ap, WO_nil, contO_ap, putT_some]
    refine hfin c4 (by rw [htk]; exact hD5) (fun k hk => (o4 k hk).imp id fun h => by have := Xb.le; omega) X4
  | true =>
    simp (maxSteps := 4000000) only [WC_seq, WC_region, WC_cond, WC_block, WC_skip, contS_normal, contB_normal, contR_ap, WO_nil, WO_pp, condC_false, contO_ap, atS_ap, W_some, W_un, W_fadr, W_ld, dpure, ev_tmp, putT_some, get_put_eq, Option.getD_some, ldV_at, Cells.get, getN, Nat.zero_add, Bool.not_true, pp, bodyC2, ht, g1b, gob, gb3]
    have hno : ∀ w, ¬ Has M (k', w, false) := fun w ⟨b2, h2⟩ => by
      have := hM.uniq' hx h2 rfl
      simp at this
    exact hfin cb (by rw [htk]; exact hD.keep hno) (fun k hk => .inl hk) .refl
theorem commit_ok (cx : OvX s o m b M clock B T) (cb : StAt s b kv vv B room) (hob : ∀ k, k ∈ own b kv vv → k ≠ o ∧ k ≠ m) (hG : s.Good) (hl : M.length ≤ 9000) (hr : (T.length : Int) ≤ room) (hroom : room ≤ 5000) :
    W (dcall E (d + 9) (.func (.func 15) #[] #[]) [.pointer (some ⟨o, 0, none⟩)] s) fun r => r.1 = .int .i64 0 ∧ OvX r.2 o m b [] clock T T ∧ ∃ kv' vv', StAt r.2 b kv' vv' T room ∧ Ext (o :: m :: own b kv vv) s r.2 ∧ ∀ j, j ∈ own b kv' vv' → j ∈ own b kv vv ∨ s.next ≤ j := by
  have cO := cx.at'
  have go := cO.go
  have hol := DS.get_lt' go
  have hml := DS.get_lt' cO.gm
  have hne := cO.ne
  have hkl := keysM_len M
  have hown := cb.lt
  have hall : ∀ c, Has M c → c.1 ∈ keysM M := fun c ⟨b2, h2⟩ => keysM_mem.2 ⟨_, h2, rfl⟩
  refine W_cps fun Q hQ => ?_
  rw [W_enter0 hH.iCommit hH.fCommit rfl]
  have hnew : ∀ ob, OvAt (s.new ob) o m b (M.map chE) clock ((T.length : Int) - (B.length : Int)) := fun ob => cO.keep (F := []) Ext.new (by simp) (by simp)
  have hmade := fun ob => made_ok hE hO (hnew ob).go (d := d + 7)
  have hchg : ∀ dd (S : DS), dcall E (dd + 1) (.func (.func 36) #[] #[]) [.pointer (some ⟨o, 0, none⟩)] S = some (.func (.func 54) #[] #[.pointer (some ⟨S.next, 0, none⟩)], S.new (.cells (.list [.pointer (some ⟨o, 0, none⟩)]) false)) := fun dd S => by
    rw [← W_iff, W_enter0 hH.iChg hH.fChg rfl]
    simp (maxSteps := 4000000) only [WC_seq, WC_region, WC_ret, contS_normal, contR_ap, WO_nil, WO_pp, contO_ap, W_some, W_mv, W_mkf, W_box, Ends_ret, ev_tmp, ev_const, putT_some, get_put_eq, get_put_ne, Nat.reduceEqDiff, not_false_eq_true, ofList_get, List.getElem?_cons_zero, Option.getD_some, dresults, tupled, List.map_cons, List.map_nil, cells_ptr, pp, pv, d36]
  simp (maxSteps := 4000000) (maxDischargeDepth := 8) only [WC_seq, WC_region, WC_cond, WC_block, WC_skip, contS_normal, contR_ap, WO_nil, WO_pp, condC_false, contO_ap, atS_ap, W_some, W_mv, W_un, W_ld, W_box, W_call, dpure, ev_tmp, ev_const, ev_func, putT_some, get_put_eq, get_put_ne, not_false_eq_true, ofList_get, List.getElem?_cons_zero, Option.getD_some, List.map_cons, List.map_nil, ldV_at, Cells.get, getN, cells_ptr, Bool.not_true, pp, nextN, get_new_at, eq_lt, Nat.reduceLT, Nat.lt_add_one, d15, hG, hmade, hchg]
  obtain ⟨S1, hS1⟩ : ∃ S1 : DS, S1 = (s.new (.cells (.list [.pointer (some ⟨o, 0, none⟩)]) false)).new (.cells (.list [.pointer (some ⟨o, 0, none⟩)]) false) := ⟨_, rfl⟩
  rw [← hS1]
  have X1 : Ext [] s S1 := by rw [hS1]; exact Ext.new.trans' Ext.new
  have hG1 := X1.good hG
  have n1 : S1.next = s.next + 2 := by rw [hS1]; rfl
  have ga : S1.get s.next = some (.cells (.list [.pointer (some ⟨o, 0, none⟩)]) false) := by rw [hS1]; simp (maxSteps := 4000000) (maxDischargeDepth := 8) only [nextN, get_new_at, get_new_ne, good_new, Nat.lt_add_one, hG]
  have gb : S1.get (s.next + 1) = some (.cells (.list [.pointer (some ⟨o, 0, none⟩)]) false) := by rw [hS1]; simp (maxSteps := 4000000) (maxDischargeDepth := 8) only [nextN, get_new_at, good_new, hG]
  clear hS1
  refine WC_rf (by simp (maxSteps := 4000000) only [ev_tmp, get_put_eq, Option.getD_some]; rfl) ?_
  generalize hO1 : loopOb _ _ _ _ = O1
  obtain ⟨t1, hO1', ht1⟩ : ∃ t1, O1 = loopOb t1 [10] asgC1 bodyC1 ∧ t1.get 1 = some (.pointer (some ⟨s.next, 0, none⟩)) := ⟨_, hO1.symm, by simp (maxSteps := 4000000) only [get_put_eq, get_put_ne, Nat.reduceEqDiff, not_false_eq_true]⟩
  have XU : Ext [] S1 ((S1.new .dfr).new O1) := Ext.new.trans' Ext.new
  have hGU := XU.good hG1
  have gy : ((S1.new .dfr).new O1).get (S1.next + 1) = some O1 := by simp (maxSteps := 4000000) (maxDischargeDepth := 8) only [nextN, get_new_at, good_new, hG1]
  have gd : ((S1.new .dfr).new O1).get S1.next = some .dfr := by simp (maxSteps := 4000000) (maxDischargeDepth := 8) only [nextN, get_new_at, get_new_ne, good_new, Nat.lt_add_one, hG1]
  have nU : ((S1.new .dfr).new O1).next = S1.next + 2 := by simp (maxSteps := 4000000) (maxDischargeDepth := 8) only [Nat.reduceAdd, nextN, Nat.add_assoc]
  have X0U := X1.trans' XU
  obtain ⟨U, hU⟩ : ∃ U : DS, U = (S1.new .dfr).new O1 := ⟨_, rfl⟩
  rw [← hU] at XU hGU gy gd nU X0U ⊢
  clear hU
  have cU := cO.keep X0U (by simp) (by simp)
  have ga1 := XU.keep ga (by simp)
  have gb1 := XU.keep gb (by simp)
  have hy1 : S1.next + 1 ∉ own b kv vv := fun h => by have := hown _ h; omega
  have hno1 : ∀ k, k ∈ (S1.next + 1) :: own b kv vv → k ≠ o ∧ k ≠ m ∧ k ≠ s.next ∧ k ≠ s.next + 1 ∧ k ≠ S1.next ∧ k < U.next + 1 := fun k hk => by
    rcases List.mem_cons.1 hk with rfl | hk
    · omega
    · have := hob k hk; have := hown k hk; omega
  have wU : ∀ k, s.next ≤ k → U.wr k = true := fun k hk => X0U.wrs (hG k hk).2
  refine W.mono (chg_iter hE hO hH (d := d + 6) (c := s.next + 1) (J := DelJ U b kv vv room B M (S1.next + 1) (U.next + 1) t1) (Stop := fun _ => False) cx.ok hl hGU gb1 cU.go cU.gm (fun i S hj => ?_) (fun i k x S hk hx hxk hj => ?_) (fun S X hGS hks hqn => ?_)) ?_
  · obtain ⟨_, X, gy', hks, hqn⟩ := hj
    exact ⟨X.keep cU.go (fun h => (hno1 _ h).1 rfl), X.keep cU.gm (fun h => (hno1 _ h).2.1 rfl), X.keep gb1 (fun h => (hno1 _ h).2.2.2.1 rfl), hks⟩
  · exact delStep hE hO hH cx.ok (fun c hc hg => (cx.sh.gone c hc hg).1) hGU cU.go ga1 ht1 (fun k hk => by have := hno1 k hk; omega) (by omega) (by omega) hy1 (wU _ (by omega)) (by omega) hk hx hxk hj
  · refine ⟨⟨kv, vv, B, (cb.keep X0U (by simp)).keep X (by simp), Dels.nil cx.so, fun k hk => .inl hk⟩, X.weaken (by simp), ?_, hks, fun h => hqn h⟩
    rw [X.keep gy (by simp), hO1']
  rintro ⟨v2, s2⟩ h
  have h := h.resolve_right id
  simp only at h
  obtain ⟨⟨kv1, vv1, D, cD, hD, hown1⟩, X2, gy2, _, _⟩ := h
  rw [List.take_length] at hD
  have X02 : Ext (own b kv vv) s s2 := (X0U.weaken (by simp)).trans X2 fun k hk => by
    rcases List.mem_cons.1 hk with rfl | hk
    · exact .inr (by omega)
    · exact .inl hk
  have hoo : o ∉ own b kv vv := fun h => (hob _ h).1 rfl
  have hmo : m ∉ own b kv vv := fun h => (hob _ h).2 rfl
  have hG2 := X02.good hG
  have gd2 := X2.keep gd (fun h => (hno1 _ h).2.2.2.2.1 rfl)
  have ga2 := X2.keep ga1 (fun h => (hno1 _ h).2.2.1 rfl)
  have n2 : S1.next + 2 ≤ s2.next := by have := X2.le; omega
  have wr2 : ∀ k, s.next ≤ k → s2.wr k = true := fun k hk => X02.wrs (hG k hk).2
  have c2 := cO.keep X02 hoo hmo
  have hown1' : ∀ k, k ∈ own b kv1 vv1 → k ≠ o ∧ k ≠ m ∧ k ≠ s.next ∧ k ≠ s.next + 1 ∧ k ≠ S1.next ∧ k ≠ S1.next + 1 ∧ k < s2.next ∧ (k ∈ own b kv vv ∨ s.next ≤ k) := fun k hk => by
    have hl := cD.lt k hk
    rcases hown1 k hk with h | h
    · have h1 := hno1 k (List.mem_cons_of_mem _ h); have h2 := hown k h; exact ⟨h1.1, h1.2.1, h1.2.2.1, h1.2.2.2.1, h1.2.2.2.2.1, by omega, hl, .inl h⟩
    · exact ⟨by omega, by omega, by omega, by omega, by omega, by omega, hl, .inr (by omega)⟩
  refine contF_ap (gy2.trans (by rfl)) (.inl rfl) (wr2 _ (by omega)) ?_
  have hso : ¬ s.next = S1.next + 1 := by omega
  simp (maxSteps := 4000000) only [WC_seq, WC_region, WC_block, contS_normal, contB_normal, contR_ap, WO_nil, WO_pp, contO_ap, atS_ap, W_some, W_ld, W_call, ev_tmp, ev_func, putT_some, get_put_eq, get_put_ne, Nat.reduceEqDiff, not_false_eq_true, Option.getD_some, List.map_cons, List.map_nil, ldV_at, Cells.get, getN, DS.upd_get_ne, DS.upd_next, hso, ga2, hchg]
  generalize hOE : DObj.loop .exhausted .normal _ _ _ _ = OE
  obtain ⟨S3, hS3⟩ : ∃ S3 : DS, S3 = (s2.upd (S1.next + 1) OE).new (.cells (.list [.pointer (some ⟨o, 0, none⟩)]) false) := ⟨_, rfl⟩
  rw [← hS3]
  have X3 : Ext [S1.next + 1] s2 S3 := by rw [hS3]; exact (Ext.upd (.inl (by simp))).trans' Ext.new
  have hG3 := X3.good hG2
  have n3 : S3.next = s2.next + 1 := by rw [hS3]; simp (maxSteps := 4000000) (maxDischargeDepth := 8) only [DS.upd_next, nextN]
  have hGu : (s2.upd (S1.next + 1) OE).Good := by rw [DS.upd_good]; exact hG2
  have gc3 : S3.get s2.next = some (.cells (.list [.pointer (some ⟨o, 0, none⟩)]) false) := by rw [hS3]; exact get_new_at hGu (by rw [DS.upd_next])
  have gd3 := X3.keep gd2 (by simp)
  have ga3 := X3.keep ga2 (by simp; omega)
  have cD3 := cD.keep X3 (fun k hk => by have := hown1' k hk; simp; omega)
  have c3 := c2.keep X3 (by simp; omega) (by simp; omega)
  clear hS3
  refine WC_rf (by simp (maxSteps := 4000000) only [ev_tmp, get_put_eq, Option.getD_some]; rfl) ?_
  generalize hO4 : loopOb _ _ _ _ = O4
  obtain ⟨t2, hO4', ht2⟩ : ∃ t2, O4 = loopOb t2 [22] asgC2 bodyC2 ∧ t2.get 1 = some (.pointer (some ⟨s.next, 0, none⟩)) := ⟨_, hO4.symm, by simp (maxSteps := 4000000) only [get_put_eq, get_put_ne, Nat.reduceEqDiff, not_false_eq_true]⟩
  have XV : Ext [] S3 ((S3.new .dfr).new O4) := Ext.new.trans' Ext.new
  have hGV := XV.good hG3
  have gz : ((S3.new .dfr).new O4).get (S3.next + 1) = some O4 := by simp (maxSteps := 4000000) (maxDischargeDepth := 8) only [nextN, get_new_at, good_new, hG3]
  have ge : ((S3.new .dfr).new O4).get S3.next = some .dfr := by simp (maxSteps := 4000000) (maxDischargeDepth := 8) only [nextN, get_new_at, get_new_ne, good_new, Nat.lt_add_one, hG3]
  have nV : ((S3.new .dfr).new O4).next = S3.next + 2 := by simp (maxSteps := 4000000) (maxDischargeDepth := 8) only [Nat.reduceAdd, nextN, Nat.add_assoc]
  obtain ⟨V, hV⟩ : ∃ V : DS, V = (S3.new .dfr).new O4 := ⟨_, rfl⟩
  rw [← hV] at XV hGV gz ge nV ⊢
  clear hV
  have cV := c3.keep XV (by simp) (by simp)
  have cDV := cD3.keep XV (by simp)
  have gaV := XV.keep ga3 (by simp)
  have gcV := XV.keep gc3 (by simp)
  have gdV := XV.keep gd3 (by simp)
  have hyV : S3.next + 1 ∉ own b kv1 vv1 := fun h => by have := hown1' _ h; omega
  have hno4 : ∀ k, k ∈ (S3.next + 1) :: own b kv1 vv1 → k ≠ o ∧ k ≠ m ∧ k ≠ s.next ∧ k ≠ s2.next ∧ k ≠ S1.next ∧ k ≠ S3.next ∧ k < V.next + 1 := fun k hk => by
    rcases List.mem_cons.1 hk with rfl | hk
    · omega
    · have := hown1' k hk; omega
  have X2V : Ext [S1.next + 1] s2 V := X3.trans' (XV.weaken (by simp))
  have wV : ∀ k, s.next ≤ k → V.wr k = true := fun k hk => X2V.wrs (wr2 k hk)
  refine W.mono (chg_iter hE hO hH (d := d + 6) (c := s2.next) (J := PutJ V b kv1 vv1 room D M (S3.next + 1) (V.next + 1) t2) (Stop := fun _ => False) cx.ok hl hGV gcV cV.go cV.gm (fun i S hj => ?_) (fun i k x S hk hx hxk hj => ?_) (fun S X hGS hks hqn => ?_)) ?_
  · obtain ⟨_, X, gy', hks, hqn⟩ := hj
    exact ⟨X.keep cV.go (fun h => (hno4 _ h).1 rfl), X.keep cV.gm (fun h => (hno4 _ h).2.1 rfl), X.keep gcV (fun h => (hno4 _ h).2.2.2.1 rfl), hks⟩
  · exact putStep hE hO hH cx.ok cx.sh hD hr hroom hGV cV.go gaV ht2 (fun k hk => by have := hno4 k hk; omega) (by omega) (by omega) hyV (wV _ (by omega)) (by omega) hk hx hxk hj
  · refine ⟨⟨kv1, vv1, D, cDV.keep X (by simp), Puts.nil hD.so, fun k hk => .inl hk⟩, X.weaken (by simp), ?_, hks, fun h => hqn h⟩
    rw [X.keep gz (by simp), hO4']
  rintro ⟨v5, s5⟩ h
  have h := h.resolve_right id
  simp only at h
  obtain ⟨⟨kv5, vv5, L5, c5, hP5, hown5⟩, X5, gz5, _, _⟩ := h
  rw [List.take_length] at hP5
  obtain rfl := hP5.done cx.ok cx.sh hall hD
  have hG5 := X5.good hGV
  have gdX := X5.keep gdV (fun h => (hno4 _ h).2.2.2.2.1 rfl)
  have geX := X5.keep ge (fun h => (hno4 _ h).2.2.2.2.2.1 rfl)
  have gaX := X5.keep gaV (fun h => (hno4 _ h).2.2.1 rfl)
  have cX := cV.keep X5 (fun h => (hno4 _ h).1 rfl) (fun h => (hno4 _ h).2.1 rfl)
  have wr5 : ∀ k, s.next ≤ k → s5.wr k = true := fun k hk => X5.wrs (wV k hk)
  have X05 : Ext (own b kv vv) s s5 := (X02.trans X2V (by simp; omega)).trans X5 fun k hk => by
    rcases List.mem_cons.1 hk with rfl | hk
    · exact .inr (by omega)
    · exact (hown1' k hk).2.2.2.2.2.2.2
  have hown5' : ∀ k, k ∈ own b kv5 vv5 → k ≠ o ∧ k ≠ m ∧ k ≠ S1.next ∧ k ≠ S3.next ∧ k ≠ S3.next + 1 ∧ (k ∈ own b kv vv ∨ s.next ≤ k) := fun k hk => by
    rcases hown5 k hk with h | h
    · have h1 := hno4 k (List.mem_cons_of_mem _ h)
      have h2 := hown1' k h
      exact ⟨h1.1, h1.2.1, h1.2.2.2.2.1, h1.2.2.2.2.2.1, fun e => hyV (e ▸ h), h2.2.2.2.2.2.2.2⟩
    · exact ⟨by omega, by omega, by omega, by omega, by omega, .inr (by omega)⟩
  refine contF_ap (gz5.trans (by rfl)) (.inl rfl) (wr5 _ (by omega)) ?_
  have hso5 : ¬ s.next = S3.next + 1 := by omega
  generalize hOF : DObj.loop .exhausted .normal _ _ _ _ = OF
  have X6 : Ext [S3.next + 1] s5 (s5.upd (S3.next + 1) OF) := Ext.upd (.inl (by simp))
  have c6 := cX.keep X6 (by simp; omega) (by simp; omega)
  have cb6 := c5.keep X6 (fun k hk => by have := hown5' k hk; simp; omega)
  simp (maxSteps := 4000000) only [WC_seq, WC_region, contS_normal, contB_normal, WO_pp, contO_ap, atS_ap, W_some, W_ld, W_call, ev_tmp, ev_func, putT_some, get_put_eq, get_put_ne, Nat.reduceEqDiff, not_false_eq_true, Option.getD_some, List.map_cons, List.map_nil, ldV_at, Cells.get, getN, DS.upd_get_ne, hso5, gaX]
  refine W.mono (odrop_ok hE hO (d := d + 6) c6) ?_
  rintro ⟨v7, s7⟩ ⟨hv7, c7, X7⟩
  simp only at hv7 c7 X7
  subst hv7
  have hno : ∀ k, s.next ≤ k → k ∉ [o, m] := fun k hk => by simp; omega
  have gd7 := X7.keep (X6.keep gdX (by simp; omega)) (hno _ (by omega))
  have ge7 := X7.keep (X6.keep geX (by simp)) (hno _ (by omega))
  have cb7 := cb6.keep X7 (fun k hk => by have := hown5' k hk; simp; omega)
  have wr7 : ∀ k, s.next ≤ k → s7.wr k = true := fun k hk => X7.wrs (X6.wrs (wr5 k hk))
  simp (maxSteps := 4000000) only [WC_seq, WC_region, WC_ret, contS_normal, contR_ap, WO_nil, WO_pp, contO_ap, W_mv, ev_const, putT_some]
  rw [Ends_ret2 ge7 (wr7 _ (by omega)) gd7 (wr7 _ (by omega)) (by omega)]
  simp (maxSteps := 4000000) only [W_some, get_put_eq, Option.getD_some, dresults, tupled]
  have XR : Ext [S3.next, S1.next] s7 ((s7.rid S3.next).rid S1.next) := (Ext.rid (.inl (by simp))).trans' (Ext.rid (.inl (by simp)))
  refine hQ _ ⟨rfl, ⟨?_, .nil, Shows.nil hP5.so, cx.lt, cx.lt, hP5.so⟩, kv5, vv5, cb7.keep XR (fun k hk => by have := hown5' k hk; simp; omega), ?_, fun k hk => (hown5' k hk).2.2.2.2.2⟩
  · have := c7.keep XR (by simp; omega) (by simp; omega)
    rw [Int.sub_self]
    exact this
  · refine (((X05.trans X6 (by simp; omega)).weaken (fun k hk => by simp [hk])).trans' (X7.weaken (by simp))).trans XR (by simp; omega)
end
end Go.Dx.OvA
