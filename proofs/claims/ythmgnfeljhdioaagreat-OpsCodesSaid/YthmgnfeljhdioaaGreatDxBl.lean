/- A part. -/
import Derived.Test.YthmgnfeljhdioaaGreatDxStir
import Derived.Test.YthmgnfeljhdioaaGreatDxOut
set_option linter.unusedVariables false
set_option linter.unusedSimpArgs false
set_option linter.unusedSectionVars false
set_option maxRecDepth 100000
set_option maxHeartbeats 4000000
namespace Go.Dx
open Go
def DO : Option Value → Int
 | some (.int _ n) => n
 | _ => 0
def nAt (l : List Value) (i : Nat) : Int := DO (getN l i)
def U (k : IntKind) (n : Nat) (l : List Value) : Prop := l.length = n ∧ ∀ i, i < n → getN l i = some (.int k (nAt l i))
def UA (k : IntKind) (o n : Nat) (l : List Value) : Prop := o + n ≤ l.length ∧ ∀ i, i < n → getN l (o + i) = some (.int k (nAt l (o + i)))
section
variable {k : IntKind} {n o : Nat} {l : List Value}
theorem U.at (h : U k n l) {i : Nat} (hi : i < n) : getN l i = some (.int k (nAt l i)) := h.2 i hi
theorem UA.at (h : UA k o n l) {i : Nat} (hi : i < n) : getN l (o + i) = some (.int k (nAt l (o + i))) := h.2 i hi
theorem Xl {i : Nat} {x : Int} (h : getN l i = some (.int k x)) : getN l i = some (.int k (nAt l i)) := by
 rw [h]; unfold nAt; rw [h]; rfl
theorem Xn {i j : Nat} {v : Value} : getN (zA l i v) j = if j = i ∧ i < l.length then some v else getN l j := by
 by_cases hi : i < l.length
 · rw [Qf _ _ _ _ hi]
   simp [hi]
 · rw [if_neg (fun h => hi h.2), QM, List.set_eq_of_length_le (by omega)]
theorem U.set (h : U k n l) (i : Nat) (x : Int) : U k n (zA l i (.int k x)) := by
 refine ⟨by rw [Yr]; exact h.1, fun j hj => ?_⟩
 by_cases e : j = i ∧ i < l.length
 · exact Xl (x := x) (by rw [Xn, if_pos e])
 · exact Xl (x := nAt l j) (by rw [Xn, if_neg e]; exact h.2 j hj)
theorem UA.set (h : UA k o n l) (i : Nat) (x : Int) : UA k o n (zA l i (.int k x)) := by
 refine ⟨by rw [Yr]; exact h.1, fun j hj => ?_⟩
 by_cases e : o + j = i ∧ i < l.length
 · exact Xl (x := x) (by rw [Xn, if_pos e])
 · exact Xl (x := nAt l (o + j)) (by rw [Xn, if_neg e]; exact h.2 j hj)
theorem UA.other (h : UA k o n l) {i : Nat} {v : Value} (hi : i < o ∨ o + n ≤ i) : UA k o n (zA l i v) := by
 refine ⟨by rw [Yr]; exact h.1, fun j hj => ?_⟩
 exact Xl (x := nAt l (o + j)) (by rw [Xn, if_neg (by omega)]; exact h.2 j hj)
theorem UA.all (h : UA k 0 n l) (hl : l.length = n) : U k n l := ⟨hl, fun i hi => by have := h.2 i hi; rwa [Nat.zero_add] at this⟩
theorem U.part (h : U k n l) {m : Nat} (hm : m ≤ n) : UA k 0 m l := ⟨by rw [h.1]; omega, fun i hi => by rw [Nat.zero_add]; exact h.2 i (by omega)⟩
theorem QA {l' : List Value} {i : Nat} (hi : i < l.length) : getN (l ++ l') i = getN l i := by rw [Ze, Ze, List.getElem?_append_left hi]
theorem Xq {l' : List Value} {i : Nat} (hi : l.length ≤ i) : getN (l ++ l') i = getN l' (i - l.length) := by rw [Ze, Ze, List.getElem?_append_right hi]
def cut (o n : Nat) (l : List Value) : List Value := (l.drop o).take n
theorem UA.sub (h : UA k o n l) {m : Nat} (hm : m ≤ n) : UA k o m l := ⟨by have := h.1; omega, fun i hi => h.2 i (by omega)⟩
theorem U.one (h : U k n l) : ∀ x, x ∈ l → zg x = true := fun x hx => by
 obtain ⟨i, hi, e⟩ := List.getElem_of_mem hx
 have := h.2 i (by rw [← h.1]; exact hi)
 rw [Ze, List.getElem?_eq_getElem hi] at this
 rw [← e, Option.some.inj this]; rfl
def Km (l : List Value) : List (List Value) := l.map fun v => [v]
theorem Vr : (Km l).length = l.length := List.length_map ..
theorem Wj : ∀ {l : List Value}, (Km l).flatten = l
 | [] => rfl
 | x :: l => by show [x] ++ (Km l).flatten = _; rw [Wj]; rfl
end
def Qm (a b c d : Nat) (x y : Int) (l : List Value) : List Value := N1 a b c d x y (nAt l a) (nAt l b) (nAt l c) (nAt l d) l
theorem U.stir {l : List Value} (h : U .u32 16 l) (a b c d : Nat) (x y : Int) : U .u32 16 (Qm a b c d x y l) := by
 unfold Qm N1
 exact (((((((h.set _ _).set _ _).set _ _).set _ _).set _ _).set _ _).set _ _).set _ _
def MN (r : Nat → Nat) (m v : List Value) : List Value :=
 Qm 3 4 9 14 (nAt m (r 14)) (nAt m (r 15)) (Qm 2 7 8 13 (nAt m (r 12)) (nAt m (r 13)) (Qm 1 6 11 12 (nAt m (r 10)) (nAt m (r 11)) (Qm 0 5 10 15 (nAt m (r 8)) (nAt m (r 9))
  (Qm 3 7 11 15 (nAt m (r 6)) (nAt m (r 7)) (Qm 2 6 10 14 (nAt m (r 4)) (nAt m (r 5)) (Qm 1 5 9 13 (nAt m (r 2)) (nAt m (r 3)) (Qm 0 4 8 12 (nAt m (r 0)) (nAt m (r 1)) v)))))))
theorem U.round {r : Nat → Nat} {m v : List Value} (h : U .u32 16 v) : U .u32 16 (MN r m v) := (((((((h.stir ..).stir ..).stir ..).stir ..).stir ..).stir ..).stir ..).stir ..
def nOf (H : List Value) : Nat := (nAt H 72).toNat
structure HOk (H : List Value) (n : Nat) : Prop where
 len : H.length = 74
 hw : UA .u32 0 8 H
 hb : UA .u8 8 64 H
 hn : getN H 72 = some (.int .i64 ((n : Nat) : Int))
 ha : getN H 73 = some (.int .u64 (nAt H 73))
 le : n ≤ 64
def u8s (r : List Int) : List Value := r.map fun n => .int .u8 n
theorem Lf (r : List Int) : U .u8 r.length (u8s r) := ⟨List.length_map .., fun i hi => Xl (x := r[i]) (by unfold u8s; rw [Ze, List.getElem?_map, List.getElem?_eq_getElem hi]; rfl)⟩
def P7 (H : List Value) (r : List Int) : List Value :=
 zA (H.take (8 + nOf H) ++ ((u8s r).take (min (64 - nOf H) (u8s r).length) ++ H.drop (8 + nOf H + min (64 - nOf H) (u8s r).length))) 72 (.int .i64 ((nOf H + min (64 - nOf H) r.length : Nat) : Int))
theorem HOk.cnt {H : List Value} {n : Nat} (h : HOk H n) : nOf H = n := by
 unfold nOf nAt
 rw [h.hn]; rfl
theorem CN {H : List Value} {n : Nat} (h : HOk H n) (r : List Int) : (H.take (8 + nOf H) ++ ((u8s r).take (min (64 - nOf H) (u8s r).length) ++ H.drop (8 + nOf H + min (64 - nOf H) (u8s r).length))).length = 74 := by
 have hl := h.len
 have hle := h.le
 rw [h.cnt]
 simp only [List.length_append, List.length_take, List.length_drop, hl]
 omega
theorem CO {H : List Value} {n : Nat} (h : HOk H n) (r : List Int) {i : Nat} (hi : i < 8 + n ∨ 72 ≤ i) : getN (H.take (8 + nOf H) ++ ((u8s r).take (min (64 - nOf H) (u8s r).length) ++ H.drop (8 + nOf H + min (64 - nOf H) (u8s r).length))) i = getN H i := by
 have hl := h.len
 have hle := h.le
 rw [h.cnt]
 have hl1 : (H.take (8 + n)).length = 8 + n := by rw [List.length_take, hl]; omega
 have hl2 : ((u8s r).take (min (64 - n) (u8s r).length)).length = min (64 - n) (u8s r).length := by rw [List.length_take]; omega
 by_cases h1 : i < 8 + n
 · rw [QA (by rw [hl1]; exact h1), Ze, Ze, List.getElem?_take, if_pos h1]
 · rw [Xq (by rw [hl1]; omega), Xq (by rw [hl1, hl2]; omega), Ze, Ze, List.getElem?_drop, hl1, hl2]
   congr 1
   omega
theorem HOk.put {H : List Value} {n : Nat} (h : HOk H n) (r : List Int) : HOk (P7 H r) (n + min (64 - n) r.length) := by
 have hl := h.len
 have hle := h.le
 have hpl := CN h r
 have hlen : (u8s r).length = r.length := List.length_map ..
 refine ⟨by unfold P7; rw [Yr]; exact hpl, ?_, ?_, ?_, ?_, by omega⟩
 · refine UA.other ⟨by rw [hpl]; decide, fun i hi => ?_⟩ (.inr (by omega))
   exact Xl (x := nAt H (0 + i)) (by rw [CO h r (by omega)]; exact h.hw.2 i hi)
 · refine UA.other ⟨by rw [hpl]; decide, fun i hi => ?_⟩ (.inr (by omega))
   rw [h.cnt]
   have hl1 : (H.take (8 + n)).length = 8 + n := by rw [List.length_take, hl]; omega
   have hl2 : ((u8s r).take (min (64 - n) (u8s r).length)).length = min (64 - n) (u8s r).length := by rw [List.length_take]; omega
   by_cases h1 : 8 + i < 8 + n
   · refine Xl (x := nAt H (8 + i)) ?_
     rw [QA (by rw [hl1]; exact h1), Ze, List.getElem?_take, if_pos h1, ← Ze]
     exact h.hb.2 i hi
   · by_cases h2 : 8 + i - (8 + n) < min (64 - n) (u8s r).length
     · refine Xl (x := nAt (u8s r) (8 + i - (8 + n))) ?_
       rw [Xq (by rw [hl1]; omega), QA (by rw [hl1, hl2]; exact h2), hl1, Ze, List.getElem?_take, if_pos h2, ← Ze]
       exact (Lf r).2 _ (by rw [hlen] at h2; omega)
     · refine Xl (x := nAt H (8 + i)) ?_
       rw [Xq (by rw [hl1]; omega), Xq (by rw [hl1, hl2]; omega), Ze, List.getElem?_drop, hl1, hl2, ← Ze, show 8 + n + min (64 - n) (u8s r).length + (8 + i - (8 + n) - min (64 - n) (u8s r).length) = 8 + i by omega]
       exact h.hb.2 i hi
 · unfold P7
   rw [Xn, if_pos ⟨rfl, by rw [hpl]; decide⟩, h.cnt]
 · refine Xl (x := nAt H 73) ?_
   unfold P7
   rw [Xn, if_neg (by omega), CO h r (by omega)]
   exact h.ha
def SlR (s : DS) (v : Value) (r : List Int) : Prop :=
 (v = .slice none 0 0 ∧ r = []) ∨ ∃ b off sp c, v = .slice (some ⟨b, off, sp⟩) r.length c ∧ (sp = none ∨ sp = some 1) ∧ r.length ≤ c ∧ s.read b off r.length = some (u8s r)
theorem YV (r : List Int) : zI r = Km (u8s r) := by unfold zI Km u8s; rw [List.map_map]; rfl
theorem SlR.view {s : DS} {v : Value} {r : List Int} (h : SlR s v r) : SlV s 1 v (Km (u8s r)) := by
 have hl : (Km (u8s r)).length = r.length := by rw [Vr]; exact List.length_map ..
 rcases h with ⟨rfl, rfl⟩ | ⟨b, off, sp, c, rfl, _, _, h3⟩
 · exact .inl ⟨rfl, rfl⟩
 · exact .inr ⟨b, off, sp, c, by rw [hl], by rw [hl, Nat.mul_one, Wj]; exact h3⟩
theorem SlR.keep {s s' : DS} {v : Value} {r : List Int} {F : List Nat} (h : SlR s v r) (e : Ext F s s') (hd : ∀ k, k ∈ blk v → k ∉ F) : SlR s' v r := by
 rcases h with h | ⟨b, off, sp, c, rfl, h1, h2, h3⟩
 · exact .inl h
 · refine .inr ⟨b, off, sp, c, rfl, h1, h2, ?_⟩
   unfold DS.read at h3 ⊢
   split at h3
   · rename_i cc ro hg
     rw [e.keep hg (hd b (by simp [blk]))]
     exact h3
   · cases h3
theorem SlR.len {s : DS} {v : Value} {r : List Int} (h : SlR s v r) : ∃ a c, v = .slice a r.length c := by
 rcases h with ⟨rfl, rfl⟩ | ⟨b, off, sp, c, rfl, _⟩
 · exact ⟨_, _, rfl⟩
 · exact ⟨_, _, rfl⟩
theorem SlR.drop {s : DS} {v : Value} {r : List Int} (h : SlR s v r) {i : Nat} (hi : i ≤ r.length) : ∃ w, slV 1 v (some (.int .i64 (i : Int))) none none = some w ∧ SlR s w (r.drop i) ∧ ∀ k, k ∈ blk w → k ∈ blk v := by
 rcases h with ⟨rfl, rfl⟩ | ⟨b, off, sp, c, rfl, h1, h2, h3⟩
 · obtain rfl : i = 0 := by simpa using hi
   exact ⟨.slice none 0 0, rfl, .inl ⟨rfl, rfl⟩, fun k hk => hk⟩
 · refine ⟨.slice (some ⟨b, off + i * 1, sp⟩) (r.length - i) (c - i), ?_, .inr ⟨b, off + i * 1, sp, c - i, by rw [List.length_drop], h1, by rw [List.length_drop]; omega, ?_⟩, fun k hk => by simpa [blk] using hk⟩
   · unfold slV ZS
     simp only [Z8, Nat.ble_eq.mpr hi, if_true, Option.isSome_none]
     rcases h1 with rfl | rfl
     · rfl
     · simp only [Yd, z3, if_false, Nat.beq_refl, if_true]
   · unfold DS.read at h3 ⊢
     split at h3
     · obtain ⟨_, h4⟩ := QJ h3
       refine JX (by simp [u8s]) fun j hj => ?_
       rw [List.length_drop] at hj
       rw [show off + i * 1 + j = off + (i + j) by omega, h4 (i + j) (by omega)]
       unfold u8s
       rw [List.getElem?_map, List.getElem?_map, List.getElem?_drop]
     · cases h3
theorem SlR.lt {s : DS} {v : Value} {r : List Int} (h : SlR s v r) : ∀ k, k ∈ blk v → k < s.next := by
 rcases h with ⟨rfl, rfl⟩ | ⟨b, off, sp, c, rfl, _, _, h3⟩
 · exact fun k hk => by simp [blk] at hk
 · intro k hk
   simp [blk] at hk
   subst hk
   unfold DS.read at h3
   split at h3
   · rename_i cc ro hg
     exact DS.get_lt' hg
   · cases h3
theorem SlR.of {s : DS} {v : Value} {r : List Int} (h : SlV s 1 v (zI r)) (hv : ∃ a, v = .slice a r.length r.length ∧ ∀ x, a = some x → x.spot = none) : SlR s v r := by
 rcases h with ⟨rfl, h0⟩ | ⟨b, off, sp, c, rfl, h1⟩
 · exact .inl ⟨rfl, by simpa [zI] using h0⟩
 · obtain ⟨a, ha, hs⟩ := hv
   injection ha with ha1 ha2 ha3
   have hsp : sp = none := hs ⟨b, off, sp⟩ ha1.symm
   refine .inr ⟨b, off, sp, r.length, by rw [ha2, ha3], .inl hsp, Nat.le_refl _, ?_⟩
   rw [YV, Wj, Vr, Nat.mul_one] at h1
   have hl : (u8s r).length = r.length := List.length_map ..
   rwa [hl] at h1
end Go.Dx
