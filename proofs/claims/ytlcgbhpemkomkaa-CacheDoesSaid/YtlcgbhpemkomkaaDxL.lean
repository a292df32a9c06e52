/- Maps as lists of rows: what a map's entries say, and what the operations on them do. No program in sight. -/
import Derived.Test.YtlcgbhpemkomkaaC1OrderD
set_option linter.unusedVariables false
set_option linter.unusedSimpArgs false
set_option linter.unusedSectionVars false
namespace Go.Dx
open Go

/-- the keys of a kind: '==' on them is '=' on what they stand for -/
structure KeyK {κ : Type} [DecidableEq κ] (str : KT) (ek : κ → Value) (Ok : κ → Prop) : Prop where
  eq : ∀ a b, keyEq str (ek a) (ek b) = some (decide (a = b))
  ok : ∀ a, Ok a → kOk str (ek a) = true
def strip (e : DEntry) : Value × Value := (e.key, e.val)
section
variable {κ : Type} [DecidableEq κ] {str : KT} {ek : κ → Value} {Ok : κ → Prop}
theorem KeyK.inj (K : KeyK str ek Ok) {a b : κ} (h : ek a = ek b) : a = b := by
  have h1 := K.eq a b
  rw [h, K.eq b b] at h1
  simpa using h1.symm
variable {α : Type} {ev : α → Value}
def encE (ek : κ → Value) (ev : α → Value) (x : κ × α) : Value × Value := (ek x.1, ev x.2)
/-- the entries hold these rows -/
structure Holds (ek : κ → Value) (ev : α → Value) (es : List DEntry) (clock : Nat) (M : List (κ × α)) : Prop where
  perm : (es.map strip).Perm (M.map (encE ek ev))
  lt : ∀ e, e ∈ es → e.born < clock
  born : (es.map (·.born)).Nodup
theorem Holds.nil {clock : Nat} : Holds ek ev [] clock ([] : List (κ × α)) := ⟨.refl _, fun _ h => (nomatch h), List.nodup_nil⟩
theorem Holds.of {es : List DEntry} {clock : Nat} {M : List (κ × α)} (h : Holds ek ev es clock M) {e : DEntry} (he : e ∈ es) : ∃ x : κ × α, x ∈ M ∧ strip e = encE ek ev x := by
  obtain ⟨x, hx, hxe⟩ := List.mem_map.1 (h.perm.mem_iff.1 (List.mem_map_of_mem he))
  exact ⟨x, hx, hxe.symm⟩
theorem Holds.length {es : List DEntry} {clock : Nat} {M : List (κ × α)} (h : Holds ek ev es clock M) : es.length = M.length := by simpa using h.perm.length_eq
theorem find_walk (K : KeyK str ek Ok) (k : κ) : ∀ (es : List DEntry) (i : Nat), (∀ e, e ∈ es → ∃ a, e.key = ek a) →
    (findE str (ek k) es i = some none ∧ ∀ e, e ∈ es → e.key ≠ ek k) ∨ ∃ j e, findE str (ek k) es i = some (some (i + j, e)) ∧ es[j]? = some e ∧ e.key = ek k
  | [], i, _ => .inl ⟨rfl, fun e h => (nomatch h)⟩
  | e :: es, i, h => by
    obtain ⟨a, ha⟩ := h e (List.mem_cons_self ..)
    have h1 := K.eq k a
    rw [← ha] at h1
    by_cases hk : k = a
    · subst hk
      refine .inr ⟨0, e, ?_, rfl, ha⟩
      unfold findE
      rw [h1]
      simp
    · have hne : e.key ≠ ek k := fun e1 => hk (K.inj (e1.symm.trans ha))
      rcases find_walk K k es (i + 1) (fun e he => h e (List.mem_cons_of_mem _ he)) with ⟨f1, f2⟩ | ⟨j, e1, f1, f2, f3⟩
      · refine .inl ⟨?_, fun e' he => ?_⟩
        · unfold findE
          rw [h1]
          simpa [hk] using f1
        · rcases List.mem_cons.1 he with rfl | he
          · exact hne
          · exact f2 e' he
      · refine .inr ⟨j + 1, e1, ?_, by simpa using f2, f3⟩
        unfold findE
        rw [h1]
        simp only [hk, decide_false]
        rw [f1]
        congr 3
        omega
variable {es : List DEntry} {clock : Nat} {M : List (κ × α)}
theorem Holds.find_none (H : Holds ek ev es clock M) (K : KeyK str ek Ok) {k : κ} (hk : k ∉ M.map (·.1)) : findE str (ek k) es 0 = some none := by
  rcases find_walk K k es 0 (fun e he => by obtain ⟨x, _, h⟩ := H.of he; exact ⟨x.1, congrArg Prod.fst h⟩) with ⟨f1, _⟩ | ⟨j, e, _, f2, f3⟩
  · exact f1
  · obtain ⟨x, hx, h⟩ := H.of (List.mem_of_getElem? f2)
    have : ek x.1 = ek k := (congrArg Prod.fst h).symm.trans f3
    exact absurd (List.mem_map.2 ⟨x, hx, K.inj this⟩) hk
theorem uniq_key : ∀ {M : List (κ × α)}, (M.map (·.1)).Nodup → ∀ {x y : κ × α}, x ∈ M → y ∈ M → x.1 = y.1 → x = y
  | [], _, _, _, h, _, _ => by cases h
  | z :: M, hn, x, y, hx, hy, he => by
    rw [List.map_cons, List.nodup_cons] at hn
    rcases List.mem_cons.1 hx with e1 | h1
    · rcases List.mem_cons.1 hy with e2 | h2
      · rw [e1, e2]
      · exact absurd (List.mem_map.2 ⟨y, h2, by rw [← he, e1]⟩) hn.1
    · rcases List.mem_cons.1 hy with e2 | h2
      · exact absurd (List.mem_map.2 ⟨x, h1, by rw [he, e2]⟩) hn.1
      · exact uniq_key hn.2 h1 h2 he
theorem Holds.find_some (H : Holds ek ev es clock M) (K : KeyK str ek Ok) (hn : (M.map (·.1)).Nodup) {x : κ × α} (hx : x ∈ M) : ∃ j e, findE str (ek x.1) es 0 = some (some (j, e)) ∧ es[j]? = some e ∧ strip e = encE ek ev x := by
  rcases find_walk K x.1 es 0 (fun e he => by obtain ⟨x, _, h⟩ := H.of he; exact ⟨x.1, congrArg Prod.fst h⟩) with ⟨_, f2⟩ | ⟨j, e, f1, f2, f3⟩
  · obtain ⟨e, he, h⟩ := List.mem_map.1 (H.perm.mem_iff.2 (List.mem_map_of_mem hx))
    exact absurd (congrArg Prod.fst h) (f2 e he)
  · obtain ⟨y, hy, h⟩ := H.of (List.mem_of_getElem? f2)
    have : ek y.1 = ek x.1 := (congrArg Prod.fst h).symm.trans f3
    have := uniq_key hn hy hx (K.inj this)
    subst this
    exact ⟨j, e, by simpa using f1, f2, h⟩
theorem drop_perm : ∀ {es : List DEntry} {j : Nat} {e : DEntry}, es[j]? = some e → (es.map strip).Perm (strip e :: (dropE es j).map strip)
  | [], j, e, h => by simp at h
  | x :: es, 0, e, h => by simp at h; subst h; exact .refl _
  | x :: es, j + 1, e, h => by
    have := drop_perm (es := es) (j := j) (e := e) (by simpa using h)
    simp only [dropE, List.map_cons]
    exact (this.cons _).trans (.swap _ _ _)
theorem set_perm : ∀ {es : List DEntry} {j : Nat} {e : DEntry} {v : Value}, es[j]? = some e → ((setVal es j v).map strip).Perm ((e.key, v) :: (dropE es j).map strip)
  | [], j, e, _, h => by simp at h
  | x :: es, 0, e, _, h => by simp at h; subst h; exact .refl _
  | x :: es, j + 1, e, v, h => by
    have := set_perm (es := es) (j := j) (e := e) (v := v) (by simpa using h)
    simp only [dropE, setVal, List.map_cons]
    exact (this.cons _).trans (.swap _ _ _)
theorem set_born : ∀ (es : List DEntry) (j : Nat) (v : Value), (setVal es j v).map (·.born) = es.map (·.born)
  | [], _, _ => rfl
  | _ :: _, 0, _ => rfl
  | x :: es, j + 1, v => by simp only [setVal, List.map_cons, set_born es j v]
theorem drop_sub : ∀ (es : List DEntry) (j : Nat), (dropE es j).Sublist es
  | [], _ => .slnil
  | x :: es, 0 => (List.Sublist.refl es).cons x
  | x :: es, j + 1 => (drop_sub es j).cons_cons x
/-- the rows without a key -/
def without (k : κ) (M : List (κ × α)) : List (κ × α) := M.filter fun x => !decide (x.1 = k)
theorem without_perm : ∀ {M : List (κ × α)}, (M.map (·.1)).Nodup → ∀ {x : κ × α}, x ∈ M → M.Perm (x :: without x.1 M)
  | [], _, _, h => by cases h
  | z :: M, hn, x, hx => by
    rw [List.map_cons, List.nodup_cons] at hn
    have hz : ∀ (k : κ), k ∉ M.map (·.1) → without k M = M := fun k hk => List.filter_eq_self.2 fun y hy => by
      have : y.1 ≠ k := fun e => hk (List.mem_map.2 ⟨y, hy, e⟩)
      simp [this]
    rcases List.mem_cons.1 hx with e1 | h1
    · subst e1
      have : without x.1 (x :: M) = M := by
        have h2 := hz x.1 hn.1
        unfold without at h2 ⊢
        simp [List.filter_cons, h2]
      rw [this]
    · have hne : z.1 ≠ x.1 := fun e => hn.1 (List.mem_map.2 ⟨x, h1, e.symm⟩)
      have h2 := without_perm hn.2 h1
      have : without x.1 (z :: M) = z :: without x.1 M := by unfold without; simp [List.filter_cons, hne]
      rw [this]
      exact (h2.cons z).trans (.swap _ _ _)
theorem Holds.rest (H : Holds ek ev es clock M) (hn : (M.map (·.1)).Nodup) {x : κ × α} (hx : x ∈ M) {j : Nat} {e : DEntry} (hj : es[j]? = some e) (he : strip e = encE ek ev x) :
    ((dropE es j).map strip).Perm ((without x.1 M).map (encE ek ev)) := by
  have h1 := (drop_perm hj).symm.trans (H.perm.trans ((without_perm hn hx).map _))
  rw [he] at h1
  exact h1.cons_inv
theorem Holds.drop (H : Holds ek ev es clock M) (hn : (M.map (·.1)).Nodup) {x : κ × α} (hx : x ∈ M) {j : Nat} {e : DEntry} (hj : es[j]? = some e) (he : strip e = encE ek ev x) : Holds ek ev (dropE es j) clock (without x.1 M) :=
  ⟨H.rest hn hx hj he, fun e he => H.lt e ((drop_sub es j).subset he), ((drop_sub es j).map _).nodup H.born⟩
theorem Holds.set (H : Holds ek ev es clock M) (hn : (M.map (·.1)).Nodup) {x : κ × α} (hx : x ∈ M) {j : Nat} {e : DEntry} (hj : es[j]? = some e) (he : strip e = encE ek ev x) (y : α) : Holds ek ev (setVal es j (ev y)) clock ((x.1, y) :: without x.1 M) := by
  refine ⟨?_, ?_, ?_⟩
  · have h1 := set_perm (v := ev y) hj
    have hk : e.key = ek x.1 := congrArg Prod.fst he
    rw [hk] at h1
    exact h1.trans ((H.rest hn hx hj he).cons _)
  · intro e he
    have : e.born ∈ (setVal es j (ev y)).map (·.born) := List.mem_map_of_mem he
    rw [set_born] at this
    obtain ⟨e', he', hb⟩ := List.mem_map.1 this
    rw [← hb]; exact H.lt e' he'
  · rw [set_born]; exact H.born
theorem Holds.add (H : Holds ek ev es clock M) (k : κ) (y : α) : Holds ek ev (es ++ [{ key := ek k, val := ev y, born := clock }]) (clock + 1) ((k, y) :: M) := by
  refine ⟨?_, ?_, ?_⟩
  · simp only [List.map_append, List.map_cons, List.map_nil]
    exact List.perm_append_comm.trans (H.perm.cons _)
  · intro e he
    rcases List.mem_append.1 he with he | he
    · have := H.lt e he; omega
    · simp at he; subst he; exact Nat.lt_succ_self _
  · simp only [List.map_append, List.map_cons, List.map_nil]
    refine List.nodup_append.2 ⟨H.born, by simp, fun a ha b hb => ?_⟩
    simp at hb
    subst hb
    obtain ⟨e, he, rfl⟩ := List.mem_map.1 ha
    exact fun h => by have := H.lt e he; omega
theorem without_keys (k : κ) (M : List (κ × α)) : k ∉ (without k M).map (·.1) := fun h => by
  obtain ⟨x, hx, rfl⟩ := List.mem_map.1 h
  have := (List.mem_filter.1 hx).2
  simp at this
theorem without_sub (k : κ) (M : List (κ × α)) : (without k M).Sublist M := List.filter_sublist
theorem without_none {k : κ} {M : List (κ × α)} (h : k ∉ M.map (·.1)) : without k M = M := List.filter_eq_self.2 fun y hy => by
  have : y.1 ≠ k := fun e => h (List.mem_map.2 ⟨y, hy, e⟩)
  simp [this]

/-! ### What was used, in order -/
def evU (x : Int × Int) : Value := .agg ⟨[.int .i64 x.1, .int .i64 x.2]⟩
/-- rows, the one used last first; u: the number of uses so far -/
structure Rows (Ok : κ → Prop) (M : List (κ × Int × Int)) (u : Int) : Prop where
  keys : (M.map (·.1)).Nodup
  ok : ∀ x, x ∈ M → Ok x.1
  desc : M.Pairwise fun a b => b.2.2 < a.2.2
  pos : ∀ x, x ∈ M → 1 ≤ x.2.2 ∧ x.2.2 ≤ u
theorem Rows.nil {u : Int} : Rows Ok ([] : List (κ × Int × Int)) u := ⟨.nil, fun _ h => (nomatch h), .nil, fun _ h => (nomatch h)⟩
theorem Rows.sub {M N : List (κ × Int × Int)} {u : Int} (h : Rows Ok M u) (hs : N.Sublist M) : Rows Ok N u := ⟨(hs.map _).nodup h.keys, fun x hx => h.ok x (hs.subset hx), h.desc.sublist hs, fun x hx => h.pos x (hs.subset hx)⟩
theorem Rows.used {M : List (κ × Int × Int)} {u : Int} (h : Rows Ok M u) (hu : 0 ≤ u) {k : κ} (hk : Ok k) (v : Int) : Rows Ok ((k, v, u + 1) :: without k M) (u + 1) := by
  have h2 := h.sub (without_sub k M)
  refine ⟨List.nodup_cons.2 ⟨without_keys k M, h2.keys⟩, fun x hx => ?_, List.pairwise_cons.2 ⟨fun x hx => ?_, h2.desc⟩, fun x hx => ?_⟩
  · rcases List.mem_cons.1 hx with rfl | hx
    · exact hk
    · exact h2.ok x hx
  · have := (h2.pos x hx).2
    show x.2.2 < u + 1
    omega
  · rcases List.mem_cons.1 hx with rfl | hx
    · exact ⟨by show 1 ≤ u + 1; omega, Int.le_refl _⟩
    · have := h2.pos x hx; exact ⟨this.1, by omega⟩
def useV : Value → Int
  | .agg ⟨[_, .int _ u]⟩ => u
  | _ => 0
theorem keysUsed_some (K : KeyK str ek Ok) : ∀ {es : List DEntry}, (∀ e, e ∈ es → ∃ x : κ × Int × Int, Ok x.1 ∧ strip e = encE ek evU x ∧ 0 ≤ x.2.2 ∧ x.2.2 < 9223372036854775808) → (∀ e, e ∈ es → e.born < clock) → (es.map (·.born)).Nodup →
    (es.map strip).Pairwise (fun a b => a.1 ≠ b.1 ∧ useV a.2 ≠ useV b.2) → keysUsed str clock es = some (es.map fun e => (e.key, useV e.val))
  | [], _, _, _, _ => rfl
  | e :: es, h1, h2, h3, h4 => by
    rw [List.map_cons, List.nodup_cons] at h3
    rw [List.map_cons, List.pairwise_cons] at h4
    have ih := keysUsed_some K (es := es) (fun e he => h1 e (List.mem_cons_of_mem _ he)) (fun e he => h2 e (List.mem_cons_of_mem _ he)) h3.2 h4.2
    obtain ⟨x, hx, hs, p1, p2⟩ := h1 e (List.mem_cons_self ..)
    have hk : e.key = ek x.1 := congrArg Prod.fst hs
    have hv : e.val = evU x.2 := congrArg Prod.snd hs
    have huse : useV e.val = x.2.2 := by rw [hv]; rfl
    unfold keysUsed
    rw [ih]
    simp only [hv, evU]
    rw [if_pos]
    · simp only [List.map_cons, huse]
    · simp only [Bool.and_eq_true, List.all_eq_true, decide_eq_true_eq]
      refine ⟨by rw [hk]; exact K.ok _ hx, p1, p2, fun y hy => ?_, fun y hy => ?_, (blt_iff _ _).2 (h2 e (List.mem_cons_self ..)), fun y hy => ?_⟩
      · obtain ⟨e', he', rfl⟩ := List.mem_map.1 hy
        have hne := (h4.1 (strip e') (List.mem_map_of_mem he')).1
        obtain ⟨x', _, hs', _⟩ := h1 e' (List.mem_cons_of_mem _ he')
        have hk' : e'.key = ek x'.1 := congrArg Prod.fst hs'
        show keyNe str e'.key e.key = true
        unfold keyNe
        rw [hk, hk', K.eq]
        have : x'.1 ≠ x.1 := fun e1 => hne (by show e.key = e'.key; rw [hk, hk', e1])
        simp [this]
      · obtain ⟨e', he', rfl⟩ := List.mem_map.1 hy
        have hne := (h4.1 (strip e') (List.mem_map_of_mem he')).2
        have : useV e'.val ≠ x.2.2 := fun e1 => hne (by show useV e.val = useV e'.val; rw [huse, e1])
        simp [this]
      · have hb : e.born ∉ es.map (·.born) := h3.1
        have : y.born ≠ e.born := fun e1 => hb (e1 ▸ List.mem_map_of_mem hy)
        cases hb2 : Nat.beq y.born e.born with
        | false => rfl
        | true => exact absurd (Nat.eq_of_beq_eq_true hb2) this
/-- what cache.order makes of rows -/
theorem order_rows (K : KeyK str ek Ok) {M : List (κ × Int × Int)} {u : Int} (H : Holds ek evU es clock M) (hR : Rows Ok M u) (hu : u < 9223372036854775808) :
    ∃ L, keysUsed str clock es = some L ∧ L.length = M.length ∧ (sortU L).map (·.1) = M.map fun x => ek x.1 := by
  have hpw : (M.map (encE ek evU)).Pairwise (fun a b => a.1 ≠ b.1 ∧ useV a.2 ≠ useV b.2) := by
    refine List.pairwise_map.2 ?_
    have h1 : M.Pairwise fun a b => a.1 ≠ b.1 := List.pairwise_map.1 hR.keys
    refine (h1.and hR.desc).imp fun {a b} h => ⟨fun e => h.1 (K.inj e), fun e => ?_⟩
    have h2 := h.2
    have e' : a.2.2 = b.2.2 := e
    omega
  have hpe : (es.map strip).Pairwise (fun a b => a.1 ≠ b.1 ∧ useV a.2 ≠ useV b.2) := (H.perm.pairwise_iff (fun h => ⟨fun e => h.1 e.symm, fun e => h.2 e.symm⟩)).2 hpw
  have hL := keysUsed_some K (clock := clock) (es := es) (fun e he => by
    obtain ⟨x, hx, h⟩ := H.of he
    have := hR.pos x hx
    exact ⟨x, hR.ok x hx, h, by omega, by omega⟩) H.lt H.born hpe
  refine ⟨_, hL, by rw [List.length_map]; exact H.length, ?_⟩
  have hp : (es.map fun e => (e.key, useV e.val)).Perm (M.map fun x => (ek x.1, x.2.2)) := by
    have := H.perm.map fun p => (p.1, useV p.2)
    simpa [List.map_map, Function.comp_def, strip, encE, evU, useV] using this
  have hs : sortU (es.map fun e => (e.key, useV e.val)) = M.map fun x => (ek x.1, x.2.2) := by
    refine List.Perm.eq_of_pairwise (le := fun a b => b.2 ≤ a.2) ?_ (sortU_sorted _) (List.pairwise_map.2 (hR.desc.imp fun h => Int.le_of_lt h)) ((sortU_perm _).trans hp)
    intro a b h1 h2 h3 h4
    obtain ⟨x, hx, rfl⟩ := List.mem_map.1 (hp.mem_iff.1 ((sortU_perm _).mem_iff.1 h1))
    obtain ⟨y, hy, rfl⟩ := List.mem_map.1 h2
    have e : x.2.2 = y.2.2 := Int.le_antisymm h4 h3
    by_cases hxy : x = y
    · rw [hxy]
    · have hpw2 : (M.map fun x => (ek x.1, x.2.2)).Pairwise (fun a b => a.2 ≠ b.2) := List.pairwise_map.2 (hR.desc.imp fun h => fun e => by omega)
      by_cases h5 : (ek x.1, x.2.2) = (ek y.1, y.2.2)
      · exact h5
      · exact absurd e (pw_apart hpw2 (List.mem_map_of_mem (f := fun x : κ × Int × Int => (ek x.1, x.2.2)) hx) (List.mem_map_of_mem (f := fun x : κ × Int × Int => (ek x.1, x.2.2)) hy) h5)
  rw [hs, List.map_map]
  rfl
end
end Go.Dx
