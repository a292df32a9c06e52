/- A part. -/
import Derived.Test.YtffgmngdgkpflaaGreatDxTab
import Derived.Test.YtffgmngdgkpflaaGreatDxSorted
import Derived.Test.YtffgmngdgkpflaaGreatDxOut
set_option linter.unusedVariables false
set_option linter.unusedSimpArgs false
set_option linter.unusedSectionVars false
namespace Go.Dx.Tab
open Go Go.Dx
structure Kx (x : TR) : Prop where
 who : Who x.key x.num
 done : x.done = true → ZR x.rep ∧ x.rep.c = x.key ∧ x.rep.n = x.num
 rest : x.done = false → x.rep = Rp.zero
structure Zn (M : TRs) (clock : Nat) : Prop where
 keys : (M.map fun x => x.1.key).Nodup
 row : ∀ x, x ∈ M → Kx x.1
 lt : ∀ x, x ∈ M → x.2 < clock
 born : (M.map fun x => x.2).Nodup
theorem Zn.nil {clock : Nat} : Zn [] clock := ⟨.nil, fun _ h => (nomatch h), fun _ h => (nomatch h), .nil⟩
theorem Zn.tail {M : TRs} {x : TR × Nat} {clock : Nat} (h : Zn (x :: M) clock) : Zn M clock :=
 ⟨(List.nodup_cons.1 h.keys).2, fun y hy => h.row y (List.mem_cons_of_mem _ hy), fun y hy => h.lt y (List.mem_cons_of_mem _ hy), (List.nodup_cons.1 h.born).2⟩
theorem Ca : ∀ {M : TRs} {clock : Nat}, Zn M clock → keysOf clock (M.map trE) = some (M.map fun x => x.1.key)
 | [], _, _ => rfl
 | x :: M, clock, h => by
  have ih := Ca h.tail
  have r := (h.row x (List.mem_cons_self ..)).who
  have hw : (Lit.int .i64 x.1.key).wf = true := by
   obtain ⟨r1, r2, _⟩ := r
   simp [Lit.wf, IntKind.min, IntKind.max, IntKind.signed, IntKind.bits]
   omega
  have hk : ((M.map fun x => x.1.key).any fun y => decide (y = x.1.key)) = false := by
   rw [List.any_eq_false]
   intro y hy e
   simp at e
   subst e
   exact (List.nodup_cons.1 h.keys).1 hy
  have hlt : Nat.blt x.2 clock = true := by
   have := h.lt x (List.mem_cons_self ..)
   exact Nat.ble_eq.mpr this
  have hb : ((M.map trE).any fun y => Nat.beq y.born x.2) = false := by
   rw [List.any_eq_false]
   intro y hy e
   obtain ⟨z, hz, rfl⟩ := List.mem_map.1 hy
   have e := Nat.eq_of_beq_eq_true e
   have e : z.2 = x.2 := e
   exact (List.nodup_cons.1 h.born).1 (List.mem_map.2 ⟨z, hz, e⟩)
  simp only [z4]
  unfold keysOf
  have e1 : (trE x).key = .int .i64 x.1.key := rfl
  rw [e1, ih]
  simp only [hw, hk, Bool.not_false, Bool.and_true, Bool.true_and]
  have e2 : (trE x).born = x.2 := rfl
  rw [e2, hlt, hb]
  rfl
theorem Zn.app {M : TRs} {clock : Nat} (h : Zn M clock) {y : TR} (hn : rowOf M y.key = none) (hr : Kx y) : Zn (M ++ [(y, clock)]) (clock + 1) := by
 refine ⟨?_, fun x hx => ?_, fun x hx => ?_, ?_⟩
 · rw [List.map_append, List.nodup_append]
   refine ⟨h.keys, by simp, fun a ha b hb e => ?_⟩
   obtain ⟨x, hx, rfl⟩ := List.mem_map.1 ha
   simp at hb
   rw [hb] at e
   have hno : ∀ (M : TRs), (∀ x, x ∈ M → x.1.key = y.key → rowOf M y.key ≠ none) := fun M => by
    induction M with
    | nil => exact fun _ h => (nomatch h)
    | cons z M ih =>
     intro x hx he hn
     unfold rowOf at hn
     split at hn
     · cases hn
     · rename_i hne
       rcases List.mem_cons.1 hx with rfl | hx
       · exact hne he.symm
       · exact ih x hx he hn
   exact hno M x hx e hn
 · rcases List.mem_append.1 hx with hx | hx
   · exact h.row x hx
   · rw [List.mem_singleton.1 hx]; exact hr
 · rcases List.mem_append.1 hx with hx | hx
   · exact Nat.lt_succ_of_lt (h.lt x hx)
   · rw [List.mem_singleton.1 hx]; exact Nat.lt_succ_self _
 · rw [List.map_append, List.nodup_append]
   refine ⟨h.born, by simp, fun a ha b hb e => ?_⟩
   obtain ⟨x, hx, rfl⟩ := List.mem_map.1 ha
   simp at hb
   rw [hb] at e
   have := h.lt x hx
   omega
theorem Zn.set {M : TRs} {clock : Nat} (h : Zn M clock) {j : Nat} {x : TR × Nat} (hj : M[j]? = some x) {y : TR} (hk : y.key = x.1.key) (hr : Kx y) : Zn (M.set j (y, x.2)) clock := by
 obtain ⟨hl, hx⟩ := List.getElem?_eq_some_iff.1 hj
 have e1 : (M.set j (y, x.2)).map (fun x => x.1.key) = M.map fun x => x.1.key := by
  rw [List.map_set]
  refine List.ext_getElem? fun i => ?_
  rw [List.getElem?_set]
  split
  · rename_i e
    subst e
    rw [if_pos (by rw [List.length_map]; exact hl), List.getElem?_map, hj]
    simp [hk]
  · rfl
 have e2 : (M.set j (y, x.2)).map (fun x => x.2) = M.map fun x => x.2 := by
  rw [List.map_set]
  refine List.ext_getElem? fun i => ?_
  rw [List.getElem?_set]
  split
  · rename_i e
    subst e
    rw [if_pos (by rw [List.length_map]; exact hl), List.getElem?_map, hj]
    rfl
  · rfl
 refine ⟨by rw [e1]; exact h.keys, fun z hz => ?_, fun z hz => ?_, by rw [e2]; exact h.born⟩
 · rcases List.mem_or_eq_of_mem_set hz with hz | rfl
   · exact h.row z hz
   · exact hr
 · rcases List.mem_or_eq_of_mem_set hz with hz | rfl
   · exact h.lt z hz
   · exact h.lt x (List.mem_of_getElem? hj)
theorem Zn.drop {M : TRs} {clock : Nat} (h : Zn M clock) (j : Nat) : Zn (M.eraseIdx j) clock := by
 have hs := List.eraseIdx_sublist M j
 exact ⟨(hs.map _).nodup h.keys, fun x hx => h.row x (hs.subset hx), fun x hx => h.lt x (hs.subset hx), (hs.map _).nodup h.born⟩
theorem DF : ∀ (M : TRs) (j : Nat), JF (M.map trE) j = (M.eraseIdx j).map trE
 | [], _ => by simp [JF]
 | y :: M, 0 => by simp [JF]
 | y :: M, j + 1 => by simp only [z4, JF, List.eraseIdx_cons_succ]; rw [DF M j]
theorem VP : ∀ {M : TRs} {j : Nat} {x : TR × Nat}, (M.map fun x => x.1.key).Nodup → M[j]? = some x → ∀ k, rowOf (M.eraseIdx j) k = if k = x.1.key then none else rowOf M k
 | y :: M, 0, x, h, hj, k => by
  simp at hj
  subst hj
  rw [List.eraseIdx_cons_zero]
  by_cases c : k = y.1.key
  · rw [if_pos c]
    subst c
    have : ∀ (N : TRs), y.1.key ∉ N.map (fun x => x.1.key) → rowOf N y.1.key = none := fun N => by
     induction N with
     | nil => exact fun _ => rfl
     | cons z N ih =>
      intro hn
      simp only [z4, List.mem_cons, not_or] at hn
      unfold rowOf
      rw [if_neg hn.1]
      exact ih hn.2
    exact this M (List.nodup_cons.1 h).1
  · rw [if_neg c]
    conv => rhs; unfold rowOf
    rw [if_neg c]
 | y :: M, j + 1, x, h, hj, k => by
  have hj' : M[j]? = some x := by simpa using hj
  rw [List.eraseIdx_cons_succ]
  have ih := VP (List.nodup_cons.1 h).2 hj' k
  unfold rowOf
  by_cases c : k = y.1.key
  · rw [if_pos c, if_pos c, if_neg]
    intro e
    exact (List.nodup_cons.1 h).1 (List.mem_map.2 ⟨x, List.mem_of_getElem? hj', e.symm.trans c⟩)
  · rw [if_neg c, if_neg c, ih]
def zL (M : TRs) : List Int := J1 (M.map fun x => x.1.key)
theorem Xj : ∀ {M : TRs} {k : Int} {x : TR}, rowOf M k = some x → ∃ b, (x, b) ∈ M
 | y :: M, k, x, h => by
  unfold rowOf at h
  split at h
  · cases h; exact ⟨y.2, List.mem_cons_self ..⟩
  · obtain ⟨b, hb⟩ := Xj h
    exact ⟨b, List.mem_cons_of_mem _ hb⟩
theorem VO : ∀ {M : TRs} {x : TR × Nat}, (M.map fun x => x.1.key).Nodup → x ∈ M → rowOf M x.1.key = some x.1
 | y :: M, x, h, hx => by
  unfold rowOf
  rcases List.mem_cons.1 hx with rfl | hx
  · rw [if_pos rfl]
  · rw [if_neg (fun e => (List.nodup_cons.1 h).1 (List.mem_map.2 ⟨x, hx, e⟩))]
    exact VO (List.nodup_cons.1 h).2 hx
theorem Jo {M : TRs} {clock : Nat} (h : Zn M clock) {k : Int} : k ∈ zL M ↔ (rowOf M k).isSome = true := by
 unfold zL
 rw [(Xh _).mem_iff, List.mem_map]
 constructor
 · rintro ⟨x, hx, rfl⟩
   rw [VO h.keys hx]
   rfl
 · intro e
   obtain ⟨x, hx⟩ := Option.isSome_iff_exists.1 e
   obtain ⟨b, hb⟩ := Xj hx
   exact ⟨_, hb, Yy hx⟩
theorem RJ {M : TRs} {clock : Nat} (h : Zn M clock) {k : Int} (hk : k ∈ zL M) : 0 ≤ k ∧ k ≤ 63 := by
 obtain ⟨x, hx⟩ := Option.isSome_iff_exists.1 ((Jo h).1 hk)
 obtain ⟨b, hb⟩ := Xj hx
 have := (h.row _ hb).who
 have e := Yy hx
 simp only at this
 rw [e] at this
 exact ⟨this.1, this.2.1⟩
theorem Cb {M : TRs} {clock : Nat} (h : Zn M clock) : (zL M).Nodup := (Xh _).nodup_iff.2 h.keys
def isAt (A : Int → Option TR) (i : Nat) : Bool := (A (i : Int)).isSome
def Yl (A : Int → Option TR) : List Nat := (List.range 64).filter (isAt A)
theorem Wj {M : TRs} {clock : Nat} (h : Zn M clock) : zL M = (Yl (rowOf M)).map fun i : Nat => (i : Int) := by
 refine List.Perm.eq_of_pairwise (le := fun a b : Int => a ≤ b) (fun a b _ _ h1 h2 => Int.le_antisymm h1 h2) (Qh _) ?_ ?_
 · rw [List.pairwise_map]
   exact ((List.pairwise_lt_range (n := 64)).filter _).imp fun {a b} h => by omega
 · have hn : ((Yl (rowOf M)).map fun i : Nat => (i : Int)).Nodup := by
    unfold List.Nodup
    rw [List.pairwise_map]
    exact ((List.pairwise_lt_range (n := 64)).filter _).imp fun {a b} h => by omega
   refine (List.perm_ext_iff_of_nodup (Cb h) hn).2 fun k => ?_
   rw [Jo h, List.mem_map]
   constructor
   · intro e
     have r := RJ h ((Jo h).2 e)
     refine ⟨k.toNat, ?_, Int.toNat_of_nonneg r.1⟩
     unfold Yl
     rw [List.mem_filter, List.mem_range]
     refine ⟨by omega, ?_⟩
     unfold isAt
     rw [Int.toNat_of_nonneg r.1]
     exact e
   · rintro ⟨i, hi, rfl⟩
     exact (List.mem_filter.1 hi).2
theorem W1 (A : Int → Option TR) : (Yl A).length ≤ 64 := by
 have := List.length_filter_le (isAt A) (List.range 64)
 rw [List.length_range] at this
 exact this
theorem Vv {A : Int → Option TR} {i j : Nat} {a b : Nat} (ha : (Yl A)[i]? = some a) (hb : (Yl A)[j]? = some b) (h : i < j) : a < b := by
 have hp : (Yl A).Pairwise (· < ·) := (List.pairwise_lt_range (n := 64)).filter _
 obtain ⟨hi, rfl⟩ := List.getElem?_eq_some_iff.1 ha
 obtain ⟨hj, rfl⟩ := List.getElem?_eq_some_iff.1 hb
 exact List.pairwise_iff_getElem.1 hp i j hi hj h
theorem Da {A : Int → Option TR} {i a : Nat} (ha : (Yl A)[i]? = some a) : a < 64 ∧ isAt A a = true := by
 have := List.mem_filter.1 (List.mem_of_getElem? ha)
 exact ⟨List.mem_range.1 this.1, this.2⟩
theorem PX {A : Int → Option TR} {i n : Nat} (hb : i ≤ (Yl A).length) (hn : n < 64) (h1 : ∀ a, i ≠ 0 → (Yl A)[i - 1]? = some a → a < n) (h2 : ∀ a, (Yl A)[i]? = some a → n < a) : isAt A n = false := by
 cases h : isAt A n with
 | false => rfl
 | true =>
  have hm : n ∈ Yl A := List.mem_filter.2 ⟨List.mem_range.2 hn, h⟩
  obtain ⟨j, hj⟩ := List.mem_iff_getElem?.1 hm
  have hjl := (List.getElem?_eq_some_iff.1 hj).1
  by_cases c : j < i
  · by_cases c2 : i - 1 < (Yl A).length
    · have hp : (Yl A)[i - 1]? = some (Yl A)[i - 1] := List.getElem?_eq_getElem c2
      have := h1 _ (by omega) hp
      by_cases c3 : j = i - 1
      · rw [c3, hp] at hj
        have := Option.some.inj hj
        omega
      · have := Vv hj hp (by omega)
        omega
    · have : i - 1 = j ∨ j < i - 1 := by omega
      omega
  · by_cases c2 : j = i
    · subst c2
      have := h2 _ hj
      omega
    · have hi : (Yl A)[i]? = some (Yl A)[i] := List.getElem?_eq_getElem (by omega)
      have := h2 _ hi
      have := Vv hi hj (by omega)
      omega
def rrC : Option TR → List Value
 | none => [.bool false, .int .i64 0, .bool false, .int .i64 0, .int .i64 0, .bool false, .int .i64 0, .int .i64 0, .int .i64 0]
 | some x => .bool true :: .int .i64 x.num :: .bool x.done :: x.rep.cells
theorem Qi (x : Option TR) : (rrC x).length = 9 := by cases x <;> rfl
def Tn (A : Int → Option TR) : List (List Value) := (List.range 64).map fun i : Nat => rrC (A (i : Int))
def Ql (A : Int → Option TR) : List Value := (Tn A).flatten
theorem J6 (A : Int → Option TR) : ∀ x, x ∈ Tn A → x.length = 9 := fun x hx => by
 obtain ⟨i, _, rfl⟩ := List.mem_map.1 hx
 exact Qi _
theorem WX (A : Int → Option TR) {i : Nat} (hi : i < 64) : (Tn A)[i]? = some (rrC (A (i : Int))) := by
 unfold Tn
 rw [List.getElem?_map, List.getElem?_range hi]
 rfl
theorem KF (A : Int → Option TR) : (Tn A).length = 64 := by unfold Tn; rw [List.length_map, List.length_range]
theorem QW (A : Int → Option TR) : (Ql A).length = 576 := by
 unfold Ql
 rw [WE (J6 A), KF]
theorem Qk (A : Int → Option TR) {i j : Nat} {y : Value} (hi : i < 64) (hy : (rrC (A (i : Int)))[j]? = some y) : getN (Ql A) (i * 9 + j) = some y :=
 Q2 (J6 A) (WX A hi) hy
theorem KG (A : Int → Option TR) {i j n : Nat} (hi : i < 64) (hj : j + n ≤ 9) : (Cells.list (Ql A)).take (i * 9 + j) n = some (((rrC (A (i : Int))).drop j).take n) := by
 refine Qg (by rw [List.length_take, List.length_drop, Qi]; omega) fun k hk => ?_
 have hl : j + k < (rrC (A (i : Int))).length := by rw [Qi]; omega
 have := Qk A hi (List.getElem?_eq_getElem hl)
 show getN _ _ = _
 rw [Nat.add_assoc, this, List.getElem?_take_of_lt hk, List.getElem?_drop, List.getElem?_eq_getElem hl]
theorem VW (A : Int → Option TR) {i : Nat} (hi : i < 64) (y : Option TR) : (Cells.list (Ql A)).fillFrom (i * 9) (rrC y) = .list (Ql fun k => if k = (i : Int) then y else A k) := by
 rw [ZC _ _ _ (by rw [Qi, QW]; omega), Qi]
 congr 1
 unfold Ql
 rw [Qu i (J6 A), show i * 9 + 9 = (i + 1) * 9 by omega, XV (i + 1) (J6 A), ← List.flatten_cons, ← List.flatten_append]
 congr 1
 refine List.ext_getElem? fun k => ?_
 by_cases h1 : k < i
 · rw [List.getElem?_append_left (by rw [List.length_take, KF]; omega), List.getElem?_take_of_lt h1, WX _ (by omega), WX _ (by omega), if_neg (by omega)]
 · rw [List.getElem?_append_right (by rw [List.length_take, KF]; omega), List.length_take, KF, show min i 64 = i by omega]
   by_cases h2 : k = i
   · subst h2
     rw [Nat.sub_self, List.getElem?_cons_zero, WX _ hi, if_pos rfl]
   · obtain ⟨j, hj⟩ : ∃ j, k - i = j + 1 := ⟨k - i - 1, by omega⟩
     rw [hj, List.getElem?_cons_succ, List.getElem?_drop]
     by_cases h3 : k < 64
     · rw [show i + 1 + j = k by omega, WX _ h3, WX _ h3, if_neg (by omega)]
     · rw [List.getElem?_eq_none (by rw [KF]; omega), List.getElem?_eq_none (by rw [KF]; omega)]
end Go.Dx.Tab
