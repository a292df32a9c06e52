/- A part. -/
import Derived.Test.YtffgmngdgkpflaaGreatDxTab
import Derived.Test.YtffgmngdgkpflaaGreatDxSorted
import Derived.Test.YtffgmngdgkpflaaGreatDxOut
set_option linter.unusedVariables false
set_option linter.unusedSimpArgs false
set_option linter.unusedSectionVars false
namespace Go.Dx.Tab
open Go Go.Dx
structure TO (x : TR) : Prop where
 who : Who x.key x.num
 done : x.done = true → Xi x.rep ∧ x.rep.c = x.key ∧ x.rep.n = x.num
 rest : x.done = false → x.rep = Rp.zero
structure XJ (M : TRs) (clock : Nat) : Prop where
 keys : (M.map fun x => x.1.key).Nodup
 row : ∀ x, x ∈ M → TO x.1
 lt : ∀ x, x ∈ M → x.2 < clock
 born : (M.map fun x => x.2).Nodup
theorem XJ.nil {clock : Nat} : XJ [] clock := ⟨.nil, fun _ h => (nomatch h), fun _ h => (nomatch h), .nil⟩
theorem XJ.tail {M : TRs} {x : TR × Nat} {clock : Nat} (h : XJ (x :: M) clock) : XJ M clock :=
 ⟨(List.nodup_cons.1 h.keys).2, fun y hy => h.row y (List.mem_cons_of_mem _ hy), fun y hy => h.lt y (List.mem_cons_of_mem _ hy), (List.nodup_cons.1 h.born).2⟩
theorem C7 : ∀ {M : TRs} {clock : Nat}, XJ M clock → keysOf clock (M.map trE) = some (M.map fun x => x.1.key)
 | [], _, _ => rfl
 | x :: M, clock, h => by
  have ih := C7 h.tail
  have r := (h.row x (List.mem_cons_self ..)).who
  have hw : (Lit.int .i64 x.1.key).wf = true := by
   obtain ⟨r1, r2, _⟩ := r
   simp [Lit.wf, IntKind.min, IntKind.max, IntKind.signed, IntKind.bits]
   omega
  have hk : ((M.map fun x => x.1.key).any fun y => decide (y = x.1.key)) = false := by
   rw [List.any_eq_false]
   intro y hy e
   simp at e
   subst e
   exact (List.nodup_cons.1 h.keys).1 hy
  have hlt : Nat.blt x.2 clock = true := by
   have := h.lt x (List.mem_cons_self ..)
   exact Nat.ble_eq.mpr this
  have hb : ((M.map trE).any fun y => Nat.beq y.born x.2) = false := by
   rw [List.any_eq_false]
   intro y hy e
   obtain ⟨z, hz, rfl⟩ := List.mem_map.1 hy
   have e := Nat.eq_of_beq_eq_true e
   have e : z.2 = x.2 := e
   exact (List.nodup_cons.1 h.born).1 (List.mem_map.2 ⟨z, hz, e⟩)
  simp only [z4]
  unfold keysOf
  have e1 : (trE x).key = .int .i64 x.1.key := rfl
  rw [e1, ih]
  simp only [hw, hk, Bool.not_false, Bool.and_true, Bool.true_and]
  have e2 : (trE x).born = x.2 := rfl
  rw [e2, hlt, hb]
  rfl
theorem XJ.set {M : TRs} {clock : Nat} (h : XJ M clock) {j : Nat} {x : TR × Nat} (hj : M[j]? = some x) {y : TR} (hk : y.key = x.1.key) (hr : TO y) : XJ (M.set j (y, x.2)) clock := by
 obtain ⟨hl, hx⟩ := List.getElem?_eq_some_iff.1 hj
 have e1 : (M.set j (y, x.2)).map (fun x => x.1.key) = M.map fun x => x.1.key := by
  rw [List.map_set]
  refine List.ext_getElem? fun i => ?_
  rw [List.getElem?_set]
  split
  · rename_i e
    subst e
    rw [if_pos (by rw [List.length_map]; exact hl), List.getElem?_map, hj]
    simp [hk]
  · rfl
 have e2 : (M.set j (y, x.2)).map (fun x => x.2) = M.map fun x => x.2 := by
  rw [List.map_set]
  refine List.ext_getElem? fun i => ?_
  rw [List.getElem?_set]
  split
  · rename_i e
    subst e
    rw [if_pos (by rw [List.length_map]; exact hl), List.getElem?_map, hj]
    rfl
  · rfl
 refine ⟨by rw [e1]; exact h.keys, fun z hz => ?_, fun z hz => ?_, by rw [e2]; exact h.born⟩
 · rcases List.mem_or_eq_of_mem_set hz with hz | rfl
   · exact h.row z hz
   · exact hr
 · rcases List.mem_or_eq_of_mem_set hz with hz | rfl
   · exact h.lt z hz
   · exact h.lt x (List.mem_of_getElem? hj)
theorem XJ.drop {M : TRs} {clock : Nat} (h : XJ M clock) (j : Nat) : XJ (M.eraseIdx j) clock := by
 have hs := List.eraseIdx_sublist M j
 exact ⟨(hs.map _).nodup h.keys, fun x hx => h.row x (hs.subset hx), fun x hx => h.lt x (hs.subset hx), (hs.map _).nodup h.born⟩
def ZM (M : TRs) : List Int := KY (M.map fun x => x.1.key)
theorem Ql : ∀ {M : TRs} {k : Int} {x : TR}, rowOf M k = some x → ∃ b, (x, b) ∈ M
 | y :: M, k, x, h => by
  unfold rowOf at h
  split at h
  · cases h; exact ⟨y.2, List.mem_cons_self ..⟩
  · obtain ⟨b, hb⟩ := Ql h
    exact ⟨b, List.mem_cons_of_mem _ hb⟩
theorem GK : ∀ {M : TRs} {x : TR × Nat}, (M.map fun x => x.1.key).Nodup → x ∈ M → rowOf M x.1.key = some x.1
 | y :: M, x, h, hx => by
  unfold rowOf
  rcases List.mem_cons.1 hx with rfl | hx
  · rw [if_pos rfl]
  · rw [if_neg (fun e => (List.nodup_cons.1 h).1 (List.mem_map.2 ⟨x, hx, e⟩))]
    exact GK (List.nodup_cons.1 h).2 hx
theorem Kh {M : TRs} {clock : Nat} (h : XJ M clock) {k : Int} : k ∈ ZM M ↔ (rowOf M k).isSome = true := by
 unfold ZM
 rw [(Wn _).mem_iff, List.mem_map]
 constructor
 · rintro ⟨x, hx, rfl⟩
   rw [GK h.keys hx]
   rfl
 · intro e
   obtain ⟨x, hx⟩ := Option.isSome_iff_exists.1 e
   obtain ⟨b, hb⟩ := Ql hx
   exact ⟨_, hb, Q7 hx⟩
theorem PC {M : TRs} {clock : Nat} (h : XJ M clock) {k : Int} (hk : k ∈ ZM M) : 0 ≤ k ∧ k ≤ 63 := by
 obtain ⟨x, hx⟩ := Option.isSome_iff_exists.1 ((Kh h).1 hk)
 obtain ⟨b, hb⟩ := Ql hx
 have := (h.row _ hb).who
 have e := Q7 hx
 simp only at this
 rw [e] at this
 exact ⟨this.1, this.2.1⟩
theorem C8 {M : TRs} {clock : Nat} (h : XJ M clock) : (ZM M).Nodup := (Wn _).nodup_iff.2 h.keys
def QF (A : Int → Option TR) (i : Nat) : Bool := (A (i : Int)).isSome
def XL (A : Int → Option TR) : List Nat := (List.range 64).filter (QF A)
theorem W3 {M : TRs} {clock : Nat} (h : XJ M clock) : ZM M = (XL (rowOf M)).map fun i : Nat => (i : Int) := by
 refine List.Perm.eq_of_pairwise (le := fun a b : Int => a ≤ b) (fun a b _ _ h1 h2 => Int.le_antisymm h1 h2) (Qe _) ?_ ?_
 · rw [List.pairwise_map]
   exact ((List.pairwise_lt_range (n := 64)).filter _).imp fun {a b} h => by omega
 · have hn : ((XL (rowOf M)).map fun i : Nat => (i : Int)).Nodup := by
    unfold List.Nodup
    rw [List.pairwise_map]
    exact ((List.pairwise_lt_range (n := 64)).filter _).imp fun {a b} h => by omega
   refine (List.perm_ext_iff_of_nodup (C8 h) hn).2 fun k => ?_
   rw [Kh h, List.mem_map]
   constructor
   · intro e
     have r := PC h ((Kh h).2 e)
     refine ⟨k.toNat, ?_, Int.toNat_of_nonneg r.1⟩
     unfold XL
     rw [List.mem_filter, List.mem_range]
     refine ⟨by omega, ?_⟩
     unfold QF
     rw [Int.toNat_of_nonneg r.1]
     exact e
   · rintro ⟨i, hi, rfl⟩
     exact (List.mem_filter.1 hi).2
theorem Ja (A : Int → Option TR) : (XL A).length ≤ 64 := by
 have := List.length_filter_le (QF A) (List.range 64)
 rw [List.length_range] at this
 exact this
theorem D9 {A : Int → Option TR} {i j : Nat} {a b : Nat} (ha : (XL A)[i]? = some a) (hb : (XL A)[j]? = some b) (h : i < j) : a < b := by
 have hp : (XL A).Pairwise (· < ·) := (List.pairwise_lt_range (n := 64)).filter _
 obtain ⟨hi, rfl⟩ := List.getElem?_eq_some_iff.1 ha
 obtain ⟨hj, rfl⟩ := List.getElem?_eq_some_iff.1 hb
 exact List.pairwise_iff_getElem.1 hp i j hi hj h
theorem Le {A : Int → Option TR} {i a : Nat} (ha : (XL A)[i]? = some a) : a < 64 ∧ QF A a = true := by
 have := List.mem_filter.1 (List.mem_of_getElem? ha)
 exact ⟨List.mem_range.1 this.1, this.2⟩
theorem NZ {A : Int → Option TR} {i n : Nat} (hb : i ≤ (XL A).length) (hn : n < 64) (h1 : ∀ a, i ≠ 0 → (XL A)[i - 1]? = some a → a < n) (h2 : ∀ a, (XL A)[i]? = some a → n < a) : QF A n = false := by
 cases h : QF A n with
 | false => rfl
 | true =>
  have hm : n ∈ XL A := List.mem_filter.2 ⟨List.mem_range.2 hn, h⟩
  obtain ⟨j, hj⟩ := List.mem_iff_getElem?.1 hm
  have hjl := (List.getElem?_eq_some_iff.1 hj).1
  by_cases c : j < i
  · by_cases c2 : i - 1 < (XL A).length
    · have hp : (XL A)[i - 1]? = some (XL A)[i - 1] := List.getElem?_eq_getElem c2
      have := h1 _ (by omega) hp
      by_cases c3 : j = i - 1
      · rw [c3, hp] at hj
        have := Option.some.inj hj
        omega
      · have := D9 hj hp (by omega)
        omega
    · have : i - 1 = j ∨ j < i - 1 := by omega
      omega
  · by_cases c2 : j = i
    · subst c2
      have := h2 _ hj
      omega
    · have hi : (XL A)[i]? = some (XL A)[i] := List.getElem?_eq_getElem (by omega)
      have := h2 _ hi
      have := D9 hi hj (by omega)
      omega
def rrC : Option TR → List Value
 | none => [.bool false, .int .i64 0, .bool false, .int .i64 0, .int .i64 0, .bool false, .int .i64 0, .int .i64 0, .int .i64 0]
 | some x => .bool true :: .int .i64 x.num :: .bool x.done :: x.rep.cells
theorem J6 (x : Option TR) : (rrC x).length = 9 := by cases x <;> rfl
def Pr (A : Int → Option TR) : List (List Value) := (List.range 64).map fun i : Nat => rrC (A (i : Int))
def Jl (A : Int → Option TR) : List Value := (Pr A).flatten
theorem K3 (A : Int → Option TR) : ∀ x, x ∈ Pr A → x.length = 9 := fun x hx => by
 obtain ⟨i, _, rfl⟩ := List.mem_map.1 hx
 exact J6 _
theorem Q9 (A : Int → Option TR) {i : Nat} (hi : i < 64) : (Pr A)[i]? = some (rrC (A (i : Int))) := by
 unfold Pr
 rw [List.getElem?_map, List.getElem?_range hi]
 rfl
theorem Vu (A : Int → Option TR) : (Pr A).length = 64 := by unfold Pr; rw [List.length_map, List.length_range]
theorem GO (A : Int → Option TR) : (Jl A).length = 576 := by
 unfold Jl
 rw [JV (K3 A), Vu]
theorem J9 (A : Int → Option TR) {i j : Nat} {y : Value} (hi : i < 64) (hy : (rrC (A (i : Int)))[j]? = some y) : getN (Jl A) (i * 9 + j) = some y :=
 W5 (K3 A) (Q9 A hi) hy
theorem Dr (A : Int → Option TR) {i j n : Nat} (hi : i < 64) (hj : j + n ≤ 9) : (Cells.list (Jl A)).take (i * 9 + j) n = some (((rrC (A (i : Int))).drop j).take n) := by
 refine Jj (by rw [List.length_take, List.length_drop, J6]; omega) fun k hk => ?_
 have hl : j + k < (rrC (A (i : Int))).length := by rw [J6]; omega
 have := J9 A hi (List.getElem?_eq_getElem hl)
 show getN _ _ = _
 rw [Nat.add_assoc, this, List.getElem?_take_of_lt hk, List.getElem?_drop, List.getElem?_eq_getElem hl]
theorem CO (A : Int → Option TR) {i : Nat} (hi : i < 64) (y : Option TR) : (Cells.list (Jl A)).fillFrom (i * 9) (rrC y) = .list (Jl fun k => if k = (i : Int) then y else A k) := by
 rw [VA _ _ _ (by rw [J6, GO]; omega), J6]
 congr 1
 unfold Jl
 rw [Js i (K3 A), show i * 9 + 9 = (i + 1) * 9 by omega, Qh (i + 1) (K3 A), ← List.flatten_cons, ← List.flatten_append]
 congr 1
 refine List.ext_getElem? fun k => ?_
 by_cases h1 : k < i
 · rw [List.getElem?_append_left (by rw [List.length_take, Vu]; omega), List.getElem?_take_of_lt h1, Q9 _ (by omega), Q9 _ (by omega), if_neg (by omega)]
 · rw [List.getElem?_append_right (by rw [List.length_take, Vu]; omega), List.length_take, Vu, show min i 64 = i by omega]
   by_cases h2 : k = i
   · subst h2
     rw [Nat.sub_self, List.getElem?_cons_zero, Q9 _ hi, if_pos rfl]
   · obtain ⟨j, hj⟩ : ∃ j, k - i = j + 1 := ⟨k - i - 1, by omega⟩
     rw [hj, List.getElem?_cons_succ, List.getElem?_drop]
     by_cases h3 : k < 64
     · rw [show i + 1 + j = k by omega, Q9 _ h3, Q9 _ h3, if_neg (by omega)]
     · rw [List.getElem?_eq_none (by rw [Vu]; omega), List.getElem?_eq_none (by rw [Vu]; omega)]
end Go.Dx.Tab
