/- cache.order, at the evaluator's level: plain Lean, and that it stands to the model's. -/
import Derived.Test.YtlcgbhpemkomkaaC1Order
import Derived.Test.YtlcgbhpemkomkaaC1OrderI
set_option linter.unusedVariables false
set_option linter.unusedSimpArgs false
set_option linter.unusedSectionVars false
namespace Go.Dx
open Go Go.Proofs Go.Shelf Go.RowKit Go.Maps
set_option maxRecDepth 100000
set_option maxHeartbeats 1000000

def kOk (str : KT) (v : Value) : Bool :=
  match str, v with
  | .txt, .string b => Nat.ble b.data.toList.length 9223372036854775807
  | .num, .int .i64 n => fitsK .i64 n
  | _, _ => false
def keyNe (str : KT) (a b : Value) : Bool := match keyEq str a b with
  | some c => !c
  | none => false
/-- keys, and when each was used -/
def keysUsed (str : KT) (clock : Nat) : List DEntry → Option (List (Value × Int))
  | [] => some []
  | e :: es => match keysUsed str clock es with
    | none => none
    | some l => match e.val with
      | .agg ⟨[.int .i64 _, .int .i64 u]⟩ =>
        if kOk str e.key && (decide (0 ≤ u) && (decide (u < 9223372036854775808) && (l.all (fun x => keyNe str x.1 e.key) && (l.all (fun x => !decide (x.2 = u)) && (Nat.blt e.born clock && es.all (fun x => !Nat.beq x.born e.born)))))) then some ((e.key, u) :: l) else none
      | _ => none
def insU (x : Value × Int) : List (Value × Int) → List (Value × Int)
  | [] => [x]
  | y :: l => if y.2 ≤ x.2 then x :: y :: l else y :: insU x l
def sortU : List (Value × Int) → List (Value × Int)
  | [] => []
  | x :: l => insU x (sortU l)
theorem insU_perm (x : Value × Int) : ∀ l, (insU x l).Perm (x :: l)
  | [] => .refl _
  | y :: l => by
    unfold insU
    split
    · exact .refl _
    · exact ((insU_perm x l).cons y).trans (.swap x y l)
theorem sortU_perm : ∀ l, (sortU l).Perm l
  | [] => .refl _
  | x :: l => (insU_perm x (sortU l)).trans ((sortU_perm l).cons x)
theorem insU_sorted (x : Value × Int) : ∀ l : List (Value × Int), l.Pairwise (fun a b => b.2 ≤ a.2) → (insU x l).Pairwise (fun a b => b.2 ≤ a.2)
  | [], _ => by simp [insU]
  | y :: l, h => by
    rw [List.pairwise_cons] at h
    unfold insU
    split
    · rename_i hxy
      rw [List.pairwise_cons, List.pairwise_cons]
      refine ⟨fun a ha => ?_, h⟩
      rcases List.mem_cons.1 ha with rfl | ha
      · exact hxy
      · exact Int.le_trans (h.1 a ha) hxy
    · rename_i hxy
      rw [List.pairwise_cons]
      refine ⟨fun a ha => ?_, insU_sorted x l h.2⟩
      rcases List.mem_cons.1 ((insU_perm x l).mem_iff.1 ha) with rfl | ha
      · omega
      · exact h.1 a ha
theorem sortU_sorted : ∀ l, (sortU l).Pairwise (fun a b => b.2 ≤ a.2)
  | [] => .nil
  | x :: l => insU_sorted x _ (sortU_sorted l)
/-- the keys, the one used last first -/
def orderD (str : KT) (all : List Value) (s : DS) : Option (Value × DS) :=
  match all with
  | [.pointer (some ⟨p, off, none⟩)] =>
    match s.get p with
    | some (.cells c _) => match c.get off with
      | some (.map (some m)) => match s.get m with
        | some (.map es clock) => match keysUsed str clock es with
          | some l => if Nat.ble l.length 1000000 then
              match sortU l with
              | [] => some (.slice none 0 0, s)
              | x :: r => some (.slice (some ⟨s.next, 0, some 1⟩) (r.length + 1) (r.length + 1), s.new (.cells (.list ((x :: r).map (·.1))) false))
            else none
          | none => none
        | _ => none
      | _ => none
    | _ => none
  | _ => none
theorem order_frame {str : KT} {all : List Value} {s s' : DS} {v : Value} (h : orderD str all s = some (v, s')) : DFrame s s' := by
  unfold orderD at h
  split at h
  · split at h
    · split at h
      · split at h
        · split at h
          · split at h
            · split at h
              · cases h; exact DFrame.refl _
              · cases h; exact DFrame.new _ _
            · cases h
          · cases h
        · cases h
      · cases h
    · cases h
  · cases h
theorem aggEq_refl_ne : ∀ {x : List Value}, aggEq x x ≠ some false
  | [], h => by simp [aggEq] at h
  | v :: x, h => by
    cases v <;> try (simp [aggEq] at h; done)
    simp only [aggEq, if_true] at h
    exact aggEq_refl_ne h
theorem keyNe_ne {str : KT} {a b : Value} (h : keyNe str a b = true) : keyEq str a b = some false ∧ a ≠ b := by
  unfold keyNe at h
  split at h
  · rename_i c hc
    cases c with
    | true => cases h
    | false =>
      refine ⟨hc, ?_⟩
      rintro rfl
      cases str with
      | num => cases a <;> simp [keyEq] at hc
      | txt => cases a <;> simp [keyEq, bytesEq_eq] at hc
      | agg ks =>
        cases a <;> try (simp [keyEq] at hc; done)
        simp only [keyEq] at hc
        exact aggEq_refl_ne hc
  · cases h
theorem kOk_eq {str : KT} {a : Value} (h : kOk str a = true) : keyEq str a a = some true ∧ isKey str a = true ∧ closedV a = true := by
  unfold kOk at h
  split at h
  · exact ⟨by simp [keyEq, bytesEq_eq], rfl, rfl⟩
  · exact ⟨by simp [keyEq], rfl, rfl⟩
  · cases h

section
variable {β : Emb}
structure Uses (str : KT) (clock : Nat) (es : List DEntry) (xs : List MapEntry) (L : List (Value × Int)) : Prop where
  keys : xs.map (·.key) = L.map (·.1)
  ok : ∀ p, p ∈ L → kOk str p.1 = true
  nodup : (L.map (·.1)).Nodup
  apart : L.Pairwise (fun a b => a.2 ≠ b.2)
  pos : ∀ p, p ∈ L → 0 ≤ p.2 ∧ p.2 < 9223372036854775808
  lt : ∀ x, x ∈ xs → x.born < clock
  born : (xs.map (·.born)).Nodup
  same : xs.map (·.born) = es.map (·.born)
  find : ∀ p, p ∈ L → ∀ i, ∃ j e a, findE str p.1 es i = some (some (i + j, e)) ∧ e.val = .agg ⟨[.int .i64 a, .int .i64 p.2]⟩
theorem keysUsed_facts {str : KT} {clock : Nat} : ∀ {es : List DEntry} {xs : List MapEntry} {L : List (Value × Int)}, keysUsed str clock es = some L → ERel β es xs → Uses str clock es xs L
  | [], [], L, h, _ => by cases h; exact ⟨rfl, by simp, by simp, .nil, by simp, by simp, by simp, rfl, by simp⟩
  | [], _ :: _, _, _, h => h.elim
  | _ :: _, [], _, _, h => h.elim
  | e :: es, x :: xs, L, h, ⟨⟨hk, _⟩, hb, _, ht⟩ => by
    unfold keysUsed at h
    split at h
    · cases h
    rename_i l hl
    split at h
    rotate_left
    · cases h
    rename_i a u hval
    split at h
    rotate_left
    · cases h
    rename_i hc
    cases h
    simp only [Bool.and_eq_true, List.all_eq_true, decide_eq_true_eq] at hc
    obtain ⟨c1, c2, c3, c4, c5, c6, c7⟩ := hc
    have I := keysUsed_facts hl ht
    refine ⟨?_, ?_, ?_, ?_, ?_, ?_, ?_, ?_, ?_⟩
    · simp only [List.map_cons, I.keys, ← hk]
    · intro p hp
      rcases List.mem_cons.1 hp with rfl | hp
      · exact c1
      · exact I.ok p hp
    · refine List.nodup_cons.2 ⟨fun hm => ?_, I.nodup⟩
      obtain ⟨p, hp, he⟩ := List.mem_map.1 hm
      exact (keyNe_ne (c4 p hp)).2 he
    · exact List.pairwise_cons.2 ⟨fun p hp e => by have := c5 p hp; simp only [Bool.not_eq_true', decide_eq_false_iff_not] at this; exact this e.symm, I.apart⟩
    · intro p hp
      rcases List.mem_cons.1 hp with rfl | hp
      · exact ⟨c2, c3⟩
      · exact I.pos p hp
    · intro y hy
      rcases List.mem_cons.1 hy with rfl | hy
      · rw [← hb]; exact (blt_iff _ _).1 c6
      · exact I.lt y hy
    · simp only [List.map_cons]
      refine List.nodup_cons.2 ⟨fun hm => ?_, I.born⟩
      rw [I.same, List.mem_map] at hm
      obtain ⟨y, hy, he⟩ := hm
      have := c7 y hy
      rw [he, hb, Nat.beq_refl] at this
      cases this
    · simp only [List.map_cons, I.same, hb]
    · intro p hp i
      rcases List.mem_cons.1 hp with rfl | hp
      · exact ⟨0, e, a, by unfold findE; rw [(kOk_eq c1).1]; rfl, hval⟩
      · obtain ⟨j, e1, a1, h1, h2⟩ := I.find p hp (i + 1)
        refine ⟨j + 1, e1, a1, ?_, h2⟩
        unfold findE
        rw [(keyNe_ne (c4 p hp)).1]
        simp only
        rw [h1]
        congr 3
        omega
end
theorem lookup_run {P : Program} {β : Emb} {t kt e bm clock : Nat} {str : KT} {v : Value} {es : List DEntry} {xs : Array MapEntry} {j : Nat} {e0 : DEntry} (hu : P.underlying t = some (.map kt e)) (hb : isStrKey P kt = some str) (hik : isKey str v = true) (hE : ERel β es xs.toList)
    (hf : findE str v es 0 = some (some (j, e0))) : ∃ x0 : MapEntry, VRel β e0.val x0.val ∧ ∀ w' : World, w'.heap[bm]? = some (.map xs clock) → (Instr.lookup t (.map (some bm)) v false).run P w' = .ok x0.val w' := by
  rcases findKey_rel hb hik hE hf with ⟨h1, _⟩ | ⟨j', e1, x1, h1, h2, _, _, _, _, h3, _⟩
  · cases h1
  · cases h1
    refine ⟨x1, h3, fun w' hw => ?_⟩
    simp only [Instr.lookup, Sem.run_bind, underlying_run hu, Result.andThen_ok, getObj_map hw, checkKey_run hb hik]
    simp [h2 w']
theorem uf_of : ∀ {L : List (Value × Int)}, (L.map (·.1)).Nodup → ∃ uf : Value → Int, ∀ p, p ∈ L → uf p.1 = p.2 := by
  intro L h
  classical
  refine ⟨fun v => if h : ∃ u, (v, u) ∈ L then Classical.choose h else 0, fun p hp => ?_⟩
  have he : ∃ u, (p.1, u) ∈ L := ⟨p.2, hp⟩
  simp only [he, dif_pos]
  have h1 := Classical.choose_spec he
  generalize Classical.choose he = u at h1 ⊢
  have key : ∀ (l : List (Value × Int)), (l.map (·.1)).Nodup → ∀ a b : Value × Int, a ∈ l → b ∈ l → a.1 = b.1 → a = b := by
    intro l
    induction l with
    | nil => intro _ a b ha; cases ha
    | cons x l ih =>
      intro hn a b ha hb hab
      rw [List.map_cons, List.nodup_cons] at hn
      rcases List.mem_cons.1 ha with e1 | h1
      · rcases List.mem_cons.1 hb with e2 | h2
        · rw [e1, e2]
        · exact absurd (List.mem_map.2 ⟨b, h2, by rw [← hab, e1]⟩) hn.1
      · rcases List.mem_cons.1 hb with e2 | h2
        · exact absurd (List.mem_map.2 ⟨a, h1, by rw [hab, e2]⟩) hn.1
        · exact ih hn.2 a b h1 h2 hab
  have := key L h _ _ h1 hp rfl
  rw [← this]
theorem pw_apart : ∀ {L : List (Value × Int)}, L.Pairwise (fun a b => a.2 ≠ b.2) → ∀ {p q : Value × Int}, p ∈ L → q ∈ L → p ≠ q → p.2 ≠ q.2
  | [], _, _, _, hp, _, _ => by cases hp
  | x :: l, h, p, q, hp, hq, hne => by
    rw [List.pairwise_cons] at h
    rcases List.mem_cons.1 hp with e1 | h1
    · rcases List.mem_cons.1 hq with e2 | h2
      · exact absurd (e1.trans e2.symm) hne
      · rw [e1]; exact h.1 _ h2
    · rcases List.mem_cons.1 hq with e2 | h2
      · rw [e2]; exact fun e => h.1 _ h1 e.symm
      · exact pw_apart h.2 h1 h2 hne
theorem sorted_one {L : List (Value × Int)} {r : List Value} {uf : Value → Int} (hn : (L.map (·.1)).Nodup) (ha : L.Pairwise (fun a b => a.2 ≠ b.2)) (hu : ∀ p, p ∈ L → uf p.1 = p.2) (hr : r.Perm (L.map (·.1))) (hs : r.Pairwise (fun a b => uf b ≤ uf a)) : r = (sortU L).map (·.1) := by
  have hp := sortU_perm L
  refine List.Perm.eq_of_pairwise (le := fun a b => uf b ≤ uf a) ?_ hs ?_ (hr.trans (hp.map _).symm)
  · intro a b h1 h2 h3 h4
    obtain ⟨p, hp1, rfl⟩ := List.mem_map.1 (hr.mem_iff.1 h1)
    obtain ⟨q, hq0, rfl⟩ := List.mem_map.1 h2
    have hq1 := hp.mem_iff.1 hq0
    rw [hu p hp1, hu q hq1] at h3 h4
    have e : p.2 = q.2 := by omega
    by_cases hpq : p = q
    · rw [hpq]
    · have := pw_apart ha hp1 hq1 hpq
      exact absurd e this
  · refine List.pairwise_map.2 ((sortU_sorted L).imp_of_mem fun {a b} h1 h2 h => ?_)
    rw [hu a (hp.mem_iff.1 h1), hu b (hp.mem_iff.1 h2)]
    exact h
/-- what a row of values that a call owns gives of a step -/
theorem owned_step {P : Program} {β : Emb} {s : DS} {w w'' : World} {kt : TypeId} {v' : Value} {vs : List Value} (hR : Rel P β s.get w) (hf : β s.next = none) (hv : ∀ v, v ∈ vs → closedV v = true) (hn : 0 < vs.length)
    (hrow : w''.ownsRow w.heap.size kt 1 v' vs.length vs) (hbel : Below w.heap.size w w'') :
    ∃ β', VRel β' (.slice (some ⟨s.next, 0, some 1⟩) vs.length vs.length) v' ∧ Step P β s.get s.next w β' (s.new (.cells (.list vs) false)).get (s.new (.cells (.list vs) false)).next w'' := by
  rcases hrow.2 with ⟨_, hz⟩ | ⟨gb, cap, cur, rfl, hbase, hgb, r1, r2, r3, r4⟩
  · omega
  have hrel : LRel β vs vs := by
    have : ∀ q : List Value, (∀ v, v ∈ q → closedV v = true) → LRel β q q := fun q => by
      induction q with
      | nil => exact fun _ => .nil
      | cons a q ih => exact fun h => .cons (VRel.closedV (h a (List.mem_cons_self ..))) (ih fun v hv => h v (List.mem_cons_of_mem _ hv))
    exact this _ hv
  have hO := cells_new (P := P) (β := β.upd s.next ⟨gb, 0, cap - vs.length, 1, vs.length⟩) (w' := w'') (B := gb) (arr := cur) (t := kt) (fr := (0, 0)) (l := vs) (l' := vs) (more := cur.toList.drop vs.length) (c := .list vs) (ext := cap - vs.length) (sz := 1) hgb
    (by
      have : vs = cur.toList.take vs.length := by
        rw [Nat.mul_one] at r4; exact r4.symm
      have e := (List.take_append_drop vs.length cur.toList).symm
      rwa [← this] at e)
    (hrel.mono (Emb.le_upd hf)) (list_cells _).1 (list_cells _).2 (by simp [r3]) (.inl rfl)
  have st := Step.newB (P := P) (w' := w'') (o := .cells (.list vs) false) hR hf hbase hbel.size hbel.block hbel.os hbel.tape hbel.output hO
  refine ⟨_, ?_, st⟩
  have hv := VRel.opened (β := β.upd s.next ⟨gb, 0, cap - vs.length, 1, vs.length⟩) (k := s.next) (off := 0) (l := ⟨gb, 0, cap - vs.length, 1, vs.length⟩) (n := vs.length) (c := vs.length) (a := ⟨gb, 0, none⟩)
    (Emb.upd_same _ _ _) (Nat.le_refl _) (by show 0 + vs.length * 1 = vs.length; omega) (.inr rfl) (by
      show vs.length + (cap - vs.length) ≤ 9223372036854775807
      simp only [maxLen] at r2; omega)
  have hx : vs.length + (cap - vs.length) = cap := by omega
  simp only [hx] at hv
  exact hv
theorem kOkS {v : Value} (h : kOk .txt v = true) : ∃ b : ByteArray, v = .string b ∧ keyOf Try.prog 9 v = some (.string b.data.toList) ∧ encStr b.data.toList = v := by
  cases v <;> try (cases h; done)
  rename_i b
  · have h2 := Nat.le_of_ble_eq_true h
    exact ⟨b, rfl, Go.WideMaps.keyOf_string_mk Try.underlying9 (show b.data.toList.length ≤ maxLen from Nat.le_trans h2 (Nat.le_of_ble_eq_true rfl)), rfl⟩
theorem orderS_sound {β : Emb} {s s' : DS} {w : World} {all : List Value} {v : Value} (h : orderD .txt all s = some (v, s')) {args' : Array Value} (hargs : LRel β all args'.toList) (hR : Rel Try.prog β s.get w) (hf : fresh β s s') :
    CallsIn Fence.wide 0 Try.prog 30 args' w fun e w'' => ∃ v', e = .returned v' ∧ ∃ β', VRel β' v v' ∧ Step Try.prog β s.get s.next w β' s'.get s'.next w'' := by
  unfold orderD at h
  split at h
  rotate_left
  · cases h
  rename_i p off
  split at h
  rotate_left
  · cases h
  rename_i c ro hbox
  split at h
  rotate_left
  · cases h
  rename_i m hc0
  split at h
  rotate_left
  · cases h
  rename_i es clock hmap
  split at h
  rotate_left
  · cases h
  rename_i L hkeys
  split at h
  rotate_left
  · cases h
  rename_i hlen
  have hlen := Nat.le_of_ble_eq_true hlen
  obtain ⟨args'⟩ := args'
  simp only at hargs
  cases hargs with
  | @cons _ A _ l1 hA hargs =>
  cases hargs
  cases hA with
  | @ptr _ _ lk hk =>
  obtain ⟨lk', hk', hb1, hb2, hb3, hb4, hb5⟩ := hR.obj p _ hbox
  rw [hk] at hk'
  cases hk'
  obtain ⟨v0, hv0, hvr⟩ := hb3 off _ hc0
  cases hvr with
  | @map _ lm hm =>
  obtain ⟨lm', hm', xs, hxs, hE⟩ := hR.obj m _ hmap
  rw [hm] at hm'
  cases hm'
  have U := keysUsed_facts hkeys hE
  let R : Value → Option (DataW Unit × List MemPlace) := fun _ => some (.nil, [])
  have hxl : xs.size = L.length := by
    have := congrArg List.length U.keys
    simpa using this
  have hrd : ∀ x ∈ xs.toList, ∃ b : ByteArray, x.key = .string b ∧ WideElems.rd Try.prog 9 R x = some (.string b.data.toList, .nil) ∧ encStr b.data.toList = x.key := by
    intro x hx
    have hx' : x.key ∈ L.map (·.1) := by rw [← U.keys]; exact List.mem_map_of_mem hx
    obtain ⟨q, hq, hqe⟩ := List.mem_map.1 hx'
    obtain ⟨b, hb, hkk, henc⟩ := kOkS (U.ok q hq)
    rw [hqe] at hb hkk henc
    exact ⟨b, hb, by simp [WideElems.rd, hkk, R], henc⟩
  have hfit : WideElems.Fit Try.prog 9 R xs clock := ⟨by rw [hxl]; simp only [maxLen]; omega, ⟨U.lt, U.born, by
    have := U.nodup
    rw [← U.keys] at this
    exact this⟩, fun x hx => by
    obtain ⟨b, _, h, _⟩ := hrd x hx
    exact ⟨_, h⟩⟩
  have hown : w.ownsMap Try.prog 9 R lm.blk xs.size (.map ((xs.toList.map (WideElems.rg Try.prog 9 R)).foldr DataW.insert [])) := ⟨xs, clock, hxs, hfit, Nat.le_refl _, rfl⟩
  have hsz : Maps.size (.map ((xs.toList.map (WideElems.rg Try.prog 9 R)).foldr DataW.insert [])) = L.length := by
    show ((xs.toList.map (WideElems.rg Try.prog 9 R)).foldr DataW.insert []).length = L.length
    rw [(foldr_insert_perm _).length_eq]
    simpa using hxl
  have hik : ((strKeys (.map ((xs.toList.map (WideElems.rg Try.prog 9 R)).foldr DataW.insert []))).map encStr).Perm (L.map (·.1)) := by
    rw [← U.keys]
    show ((((xs.toList.map (WideElems.rg Try.prog 9 R)).foldr DataW.insert []).map fun p => strOf p.1).map encStr).Perm _
    refine (((foldr_insert_perm _).map _).map _).trans (List.Perm.of_eq ?_)
    rw [List.map_map, List.map_map]
    refine List.map_congr_left fun x hx => ?_
    obtain ⟨b, h1, h2, h3⟩ := hrd x hx
    simp only [Function.comp, WideElems.rg, h2, Option.getD_some]
    exact h3
  obtain ⟨uf, huf⟩ := uf_of U.nodup
  have hin : ∀ v, v ∈ L.map (·.1) → ∃ q, q ∈ L ∧ q.1 = v ∧ uf v = q.2 := fun v hv => by
    obtain ⟨q, hq, rfl⟩ := List.mem_map.1 hv
    exact ⟨q, hq, rfl, huf q hq⟩
  have hW := order_walk (bp := lk.blk) (off := lk.off + off) (bm := lm.blk) w hv0 hown xs clock hxs (L.map (·.1)) hik uf
    (fun v hv => by
      obtain ⟨q, hq, rfl, hu⟩ := hin v hv
      obtain ⟨j, e0, a, hf1, hf2⟩ := U.find q hq 0
      obtain ⟨x0, hr, hrun⟩ := lookup_run (P := Try.prog) (bm := lm.blk) (clock := clock) Try.underlying55 (by unfold isStrKey; rw [Try.underlying9]) (kOk_eq (U.ok q hq)).2.1 hE hf1
      refine ⟨a, fun W' hW' => ?_⟩
      rw [hrun W' hW', hu]
      obtain ⟨xk, xv, xb⟩ := x0
      simp only at hr ⊢
      rw [hf2] at hr
      cases hr with
      | @agg _ A' ha =>
      obtain ⟨A'⟩ := A'
      simp only at ha
      cases ha with
      | cons h1 h2 =>
      cases h1
      cases h2 with
      | cons h3 h4 =>
      cases h3
      cases h4
      rfl)
    (fun v hv => by
      obtain ⟨q, hq, rfl, hu⟩ := hin v hv
      obtain ⟨b, hb, _⟩ := kOkS (U.ok q hq)
      exact ⟨b, hb⟩)
    (fun v hv => by
      obtain ⟨q, hq, rfl, hu⟩ := hin v hv
      rw [hu]; exact U.pos q hq)
    (fun a b ha hb he => by
      obtain ⟨p1, hp1, rfl, h1⟩ := hin a ha
      obtain ⟨q1, hq1, rfl, h2⟩ := hin b hb
      by_cases e : p1 = q1
      · rw [e]
      · exact absurd (by rw [← h1, ← h2]; exact he) (pw_apart U.apart hp1 hq1 e))
    (by rw [hsz]; exact hlen)
  refine callsIn_wide.2 (hW.mono ?_)
  rintro e w'' ⟨v', r, rfl, hp1, hs1, hrow, hbel, hnil⟩
  have hr : r = (sortU L).map (·.1) := sorted_one U.nodup U.apart huf hp1 hs1
  subst hr
  split at h
  · rename_i hs0
    cases h
    rw [hnil (by rw [hs0]; rfl)]
    exact ⟨_, rfl, β, .nilSlice, Step.below hR hbel⟩
  · rename_i x r hs1
    cases h
    rw [hs1] at hrow
    have hfn : β s.next = none := hf s.next (Nat.le_refl _) (Nat.lt_succ_self _)
    obtain ⟨β', hv, st⟩ := owned_step (kt := 9) hR hfn (fun v hv => by
      rw [← hs1] at hv
      obtain ⟨q, hq, rfl⟩ := List.mem_map.1 hv
      exact (kOk_eq (U.ok q ((sortU_perm L).mem_iff.1 hq))).2.2) (by simp) hrow hbel
    refine ⟨_, rfl, β', ?_, st⟩
    simpa using hv
theorem orderS_ok : IntrOk Try.prog 30 (orderD .txt) :=
  ⟨fun _ _ _ _ h => order_frame h, fun X w => callFunc_run Try.func30 (by kernel_rfl) (by kernel_rfl) X w, fun _ _ _ _ h _ _ _ hargs hR hf => orderS_sound h hargs hR hf⟩
theorem kOkI {v : Value} (h : kOk .num v = true) : ∃ b : Int, v = .int .i64 b ∧ keyOf Try.prog 3 v = some (.int .i64 b) ∧ encZ b = v := by
  cases v <;> try (cases h; done)
  rename_i q b
  cases q <;> try (cases h; done)
  exact ⟨b, rfl, keyOf_int_mk Try.underlying3 (fitsK_wf h), rfl⟩
theorem orderI_sound {β : Emb} {s s' : DS} {w : World} {all : List Value} {v : Value} (h : orderD .num all s = some (v, s')) {args' : Array Value} (hargs : LRel β all args'.toList) (hR : Rel Try.prog β s.get w) (hf : fresh β s s') :
    CallsIn Fence.wide 0 Try.prog 35 args' w fun e w'' => ∃ v', e = .returned v' ∧ ∃ β', VRel β' v v' ∧ Step Try.prog β s.get s.next w β' s'.get s'.next w'' := by
  unfold orderD at h
  split at h
  rotate_left
  · cases h
  rename_i p off
  split at h
  rotate_left
  · cases h
  rename_i c ro hbox
  split at h
  rotate_left
  · cases h
  rename_i m hc0
  split at h
  rotate_left
  · cases h
  rename_i es clock hmap
  split at h
  rotate_left
  · cases h
  rename_i L hkeys
  split at h
  rotate_left
  · cases h
  rename_i hlen
  have hlen := Nat.le_of_ble_eq_true hlen
  obtain ⟨args'⟩ := args'
  simp only at hargs
  cases hargs with
  | @cons _ A _ l1 hA hargs =>
  cases hargs
  cases hA with
  | @ptr _ _ lk hk =>
  obtain ⟨lk', hk', hb1, hb2, hb3, hb4, hb5⟩ := hR.obj p _ hbox
  rw [hk] at hk'
  cases hk'
  obtain ⟨v0, hv0, hvr⟩ := hb3 off _ hc0
  cases hvr with
  | @map _ lm hm =>
  obtain ⟨lm', hm', xs, hxs, hE⟩ := hR.obj m _ hmap
  rw [hm] at hm'
  cases hm'
  have U := keysUsed_facts hkeys hE
  let R : Value → Option (DataW Unit × List MemPlace) := fun _ => some (.nil, [])
  have hxl : xs.size = L.length := by
    have := congrArg List.length U.keys
    simpa using this
  have hrd : ∀ x ∈ xs.toList, ∃ b : Int, x.key = .int .i64 b ∧ WideElems.rd Try.prog 3 R x = some (.int .i64 b, .nil) ∧ encZ b = x.key := by
    intro x hx
    have hx' : x.key ∈ L.map (·.1) := by rw [← U.keys]; exact List.mem_map_of_mem hx
    obtain ⟨q, hq, hqe⟩ := List.mem_map.1 hx'
    obtain ⟨b, hb, hkk, henc⟩ := kOkI (U.ok q hq)
    rw [hqe] at hb hkk henc
    exact ⟨b, hb, by simp [WideElems.rd, hkk, R], henc⟩
  have hfit : WideElems.Fit Try.prog 3 R xs clock := ⟨by rw [hxl]; simp only [maxLen]; omega, ⟨U.lt, U.born, by
    have := U.nodup
    rw [← U.keys] at this
    exact this⟩, fun x hx => by
    obtain ⟨b, _, h, _⟩ := hrd x hx
    exact ⟨_, h⟩⟩
  have hown : w.ownsMap Try.prog 3 R lm.blk xs.size (.map ((xs.toList.map (WideElems.rg Try.prog 3 R)).foldr DataW.insert [])) := ⟨xs, clock, hxs, hfit, Nat.le_refl _, rfl⟩
  have hsz : Maps.size (.map ((xs.toList.map (WideElems.rg Try.prog 3 R)).foldr DataW.insert [])) = L.length := by
    show ((xs.toList.map (WideElems.rg Try.prog 3 R)).foldr DataW.insert []).length = L.length
    rw [(foldr_insert_perm _).length_eq]
    simpa using hxl
  have hik : ((intKeys (.map ((xs.toList.map (WideElems.rg Try.prog 3 R)).foldr DataW.insert []))).map encZ).Perm (L.map (·.1)) := by
    rw [← U.keys]
    show ((((xs.toList.map (WideElems.rg Try.prog 3 R)).foldr DataW.insert []).map fun p => intOf p.1).map encZ).Perm _
    refine (((foldr_insert_perm _).map _).map _).trans (List.Perm.of_eq ?_)
    rw [List.map_map, List.map_map]
    refine List.map_congr_left fun x hx => ?_
    obtain ⟨b, h1, h2, h3⟩ := hrd x hx
    simp only [Function.comp, WideElems.rg, h2, Option.getD_some]
    exact h3
  obtain ⟨uf, huf⟩ := uf_of U.nodup
  have hin : ∀ v, v ∈ L.map (·.1) → ∃ q, q ∈ L ∧ q.1 = v ∧ uf v = q.2 := fun v hv => by
    obtain ⟨q, hq, rfl⟩ := List.mem_map.1 hv
    exact ⟨q, hq, rfl, huf q hq⟩
  have hW := order_walkI (bp := lk.blk) (off := lk.off + off) (bm := lm.blk) w hv0 hown xs clock hxs (L.map (·.1)) hik uf
    (fun v hv => by
      obtain ⟨q, hq, rfl, hu⟩ := hin v hv
      obtain ⟨j, e0, a, hf1, hf2⟩ := U.find q hq 0
      obtain ⟨x0, hr, hrun⟩ := lookup_run (P := Try.prog) (bm := lm.blk) (clock := clock) Try.underlying67 (by unfold isStrKey; rw [Try.underlying3]) (kOk_eq (U.ok q hq)).2.1 hE hf1
      refine ⟨a, fun W' hW' => ?_⟩
      rw [hrun W' hW', hu]
      obtain ⟨xk, xv, xb⟩ := x0
      simp only at hr ⊢
      rw [hf2] at hr
      cases hr with
      | @agg _ A' ha =>
      obtain ⟨A'⟩ := A'
      simp only at ha
      cases ha with
      | cons h1 h2 =>
      cases h1
      cases h2 with
      | cons h3 h4 =>
      cases h3
      cases h4
      rfl)
    (fun v hv => by
      obtain ⟨q, hq, rfl, hu⟩ := hin v hv
      obtain ⟨b, hb, _⟩ := kOkI (U.ok q hq)
      exact ⟨b, hb⟩)
    (fun v hv => by
      obtain ⟨q, hq, rfl, hu⟩ := hin v hv
      rw [hu]; exact U.pos q hq)
    (fun a b ha hb he => by
      obtain ⟨p1, hp1, rfl, h1⟩ := hin a ha
      obtain ⟨q1, hq1, rfl, h2⟩ := hin b hb
      by_cases e : p1 = q1
      · rw [e]
      · exact absurd (by rw [← h1, ← h2]; exact he) (pw_apart U.apart hp1 hq1 e))
    (by rw [hsz]; exact hlen)
  refine callsIn_wide.2 (hW.mono ?_)
  rintro e w'' ⟨v', r, rfl, hp1, hs1, hrow, hbel, hnil⟩
  have hr : r = (sortU L).map (·.1) := sorted_one U.nodup U.apart huf hp1 hs1
  subst hr
  split at h
  · rename_i hs0
    cases h
    rw [hnil (by rw [hs0]; rfl)]
    exact ⟨_, rfl, β, .nilSlice, Step.below hR hbel⟩
  · rename_i x r hs1
    cases h
    rw [hs1] at hrow
    have hfn : β s.next = none := hf s.next (Nat.le_refl _) (Nat.lt_succ_self _)
    obtain ⟨β', hv, st⟩ := owned_step (kt := 3) hR hfn (fun v hv => by
      rw [← hs1] at hv
      obtain ⟨q, hq, rfl⟩ := List.mem_map.1 hv
      exact (kOk_eq (U.ok q ((sortU_perm L).mem_iff.1 hq))).2.2) (by simp) hrow hbel
    refine ⟨_, rfl, β', ?_, st⟩
    simpa using hv
theorem orderI_ok : IntrOk Try.prog 35 (orderD .num) :=
  ⟨fun _ _ _ _ h => order_frame h, fun X w => callFunc_run Try.func35 (by kernel_rfl) (by kernel_rfl) X w, fun _ _ _ _ h _ _ _ hargs hR hf => orderI_sound h hargs hR hf⟩
end Go.Dx
