/- A part. -/
import Derived.Test.YthmgnfeljhdioaaGreatDxStir
import Derived.Test.YthmgnfeljhdioaaGreatDxOut
set_option linter.unusedVariables false
set_option linter.unusedSimpArgs false
set_option linter.unusedSectionVars false
set_option maxRecDepth 100000
set_option maxHeartbeats 4000000
namespace Go.Dx
open Go
def GY : Option Value → Int
 | some (.int _ n) => n
 | _ => 0
def nAt (l : List Value) (i : Nat) : Int := GY (getN l i)
def U (k : IntKind) (n : Nat) (l : List Value) : Prop := l.length = n ∧ ∀ i, i < n → getN l i = some (.int k (nAt l i))
def UA (k : IntKind) (o n : Nat) (l : List Value) : Prop := o + n ≤ l.length ∧ ∀ i, i < n → getN l (o + i) = some (.int k (nAt l (o + i)))
section
variable {k : IntKind} {n o : Nat} {l : List Value}
theorem U.at (h : U k n l) {i : Nat} (hi : i < n) : getN l i = some (.int k (nAt l i)) := h.2 i hi
theorem UA.at (h : UA k o n l) {i : Nat} (hi : i < n) : getN l (o + i) = some (.int k (nAt l (o + i))) := h.2 i hi
theorem YA {i : Nat} {x : Int} (h : getN l i = some (.int k x)) : getN l i = some (.int k (nAt l i)) := by
 rw [h]; unfold nAt; rw [h]; rfl
theorem YC {i j : Nat} {v : Value} : getN (Zq l i v) j = if j = i ∧ i < l.length then some v else getN l j := by
 by_cases hi : i < l.length
 · rw [We _ _ _ _ hi]
   simp [hi]
 · rw [if_neg (fun h => hi h.2), WP, List.set_eq_of_length_le (by omega)]
theorem U.set (h : U k n l) (i : Nat) (x : Int) : U k n (Zq l i (.int k x)) := by
 refine ⟨by rw [ZR]; exact h.1, fun j hj => ?_⟩
 by_cases e : j = i ∧ i < l.length
 · exact YA (x := x) (by rw [YC, if_pos e])
 · exact YA (x := nAt l j) (by rw [YC, if_neg e]; exact h.2 j hj)
theorem UA.set (h : UA k o n l) (i : Nat) (x : Int) : UA k o n (Zq l i (.int k x)) := by
 refine ⟨by rw [ZR]; exact h.1, fun j hj => ?_⟩
 by_cases e : o + j = i ∧ i < l.length
 · exact YA (x := x) (by rw [YC, if_pos e])
 · exact YA (x := nAt l (o + j)) (by rw [YC, if_neg e]; exact h.2 j hj)
theorem UA.other (h : UA k o n l) {i : Nat} {v : Value} (hi : i < o ∨ o + n ≤ i) : UA k o n (Zq l i v) := by
 refine ⟨by rw [ZR]; exact h.1, fun j hj => ?_⟩
 exact YA (x := nAt l (o + j)) (by rw [YC, if_neg (by omega)]; exact h.2 j hj)
theorem UA.all (h : UA k 0 n l) (hl : l.length = n) : U k n l := ⟨hl, fun i hi => by have := h.2 i hi; rwa [Nat.zero_add] at this⟩
theorem U.part (h : U k n l) {m : Nat} (hm : m ≤ n) : UA k 0 m l := ⟨by rw [h.1]; omega, fun i hi => by rw [Nat.zero_add]; exact h.2 i (by omega)⟩
theorem WB {l' : List Value} {i : Nat} (hi : i < l.length) : getN (l ++ l') i = getN l i := by rw [zU, zU, List.getElem?_append_left hi]
theorem YG {l' : List Value} {i : Nat} (hi : l.length ≤ i) : getN (l ++ l') i = getN l' (i - l.length) := by rw [zU, zU, List.getElem?_append_right hi]
def cut (o n : Nat) (l : List Value) : List Value := (l.drop o).take n
theorem UA.sub (h : UA k o n l) {m : Nat} (hm : m ≤ n) : UA k o m l := ⟨by have := h.1; omega, fun i hi => h.2 i (by omega)⟩
theorem U.one (h : U k n l) : ∀ x, x ∈ l → zB x = true := fun x hx => by
 obtain ⟨i, hi, e⟩ := List.getElem_of_mem hx
 have := h.2 i (by rw [← h.1]; exact hi)
 rw [zU, List.getElem?_eq_getElem hi] at this
 rw [← e, Option.some.inj this]; rfl
def Jn (l : List Value) : List (List Value) := l.map fun v => [v]
theorem Kl : (Jn l).length = l.length := List.length_map ..
theorem Xe : ∀ {l : List Value}, (Jn l).flatten = l
 | [] => rfl
 | x :: l => by show [x] ++ (Jn l).flatten = _; rw [Xe]; rfl
end
def Wj (a b c d : Nat) (x y : Int) (l : List Value) : List Value := SY a b c d x y (nAt l a) (nAt l b) (nAt l c) (nAt l d) l
theorem U.stir {l : List Value} (h : U .u32 16 l) (a b c d : Nat) (x y : Int) : U .u32 16 (Wj a b c d x y l) := by
 unfold Wj SY
 exact (((((((h.set _ _).set _ _).set _ _).set _ _).set _ _).set _ _).set _ _).set _ _
def R1 (r : Nat → Nat) (m v : List Value) : List Value :=
 Wj 3 4 9 14 (nAt m (r 14)) (nAt m (r 15)) (Wj 2 7 8 13 (nAt m (r 12)) (nAt m (r 13)) (Wj 1 6 11 12 (nAt m (r 10)) (nAt m (r 11)) (Wj 0 5 10 15 (nAt m (r 8)) (nAt m (r 9))
  (Wj 3 7 11 15 (nAt m (r 6)) (nAt m (r 7)) (Wj 2 6 10 14 (nAt m (r 4)) (nAt m (r 5)) (Wj 1 5 9 13 (nAt m (r 2)) (nAt m (r 3)) (Wj 0 4 8 12 (nAt m (r 0)) (nAt m (r 1)) v)))))))
theorem U.round {r : Nat → Nat} {m v : List Value} (h : U .u32 16 v) : U .u32 16 (R1 r m v) := (((((((h.stir ..).stir ..).stir ..).stir ..).stir ..).stir ..).stir ..).stir ..
def nOf (H : List Value) : Nat := (nAt H 72).toNat
structure HOk (H : List Value) (n : Nat) : Prop where
 len : H.length = 74
 hw : UA .u32 0 8 H
 hb : UA .u8 8 64 H
 hn : getN H 72 = some (.int .i64 ((n : Nat) : Int))
 ha : getN H 73 = some (.int .u64 (nAt H 73))
 le : n ≤ 64
def u8s (r : List Int) : List Value := r.map fun n => .int .u8 n
theorem Pm (r : List Int) : U .u8 r.length (u8s r) := ⟨List.length_map .., fun i hi => YA (x := r[i]) (by unfold u8s; rw [zU, List.getElem?_map, List.getElem?_eq_getElem hi]; rfl)⟩
def Sf (H : List Value) (r : List Int) : List Value :=
 Zq (H.take (8 + nOf H) ++ ((u8s r).take (min (64 - nOf H) (u8s r).length) ++ H.drop (8 + nOf H + min (64 - nOf H) (u8s r).length))) 72 (.int .i64 ((nOf H + min (64 - nOf H) r.length : Nat) : Int))
theorem HOk.cnt {H : List Value} {n : Nat} (h : HOk H n) : nOf H = n := by
 unfold nOf nAt
 rw [h.hn]; rfl
theorem FG {H : List Value} {n : Nat} (h : HOk H n) (r : List Int) : (H.take (8 + nOf H) ++ ((u8s r).take (min (64 - nOf H) (u8s r).length) ++ H.drop (8 + nOf H + min (64 - nOf H) (u8s r).length))).length = 74 := by
 have hl := h.len
 have hle := h.le
 rw [h.cnt]
 simp only [List.length_append, List.length_take, List.length_drop, hl]
 omega
theorem FH {H : List Value} {n : Nat} (h : HOk H n) (r : List Int) {i : Nat} (hi : i < 8 + n ∨ 72 ≤ i) : getN (H.take (8 + nOf H) ++ ((u8s r).take (min (64 - nOf H) (u8s r).length) ++ H.drop (8 + nOf H + min (64 - nOf H) (u8s r).length))) i = getN H i := by
 have hl := h.len
 have hle := h.le
 rw [h.cnt]
 have hl1 : (H.take (8 + n)).length = 8 + n := by rw [List.length_take, hl]; omega
 have hl2 : ((u8s r).take (min (64 - n) (u8s r).length)).length = min (64 - n) (u8s r).length := by rw [List.length_take]; omega
 by_cases h1 : i < 8 + n
 · rw [WB (by rw [hl1]; exact h1), zU, zU, List.getElem?_take, if_pos h1]
 · rw [YG (by rw [hl1]; omega), YG (by rw [hl1, hl2]; omega), zU, zU, List.getElem?_drop, hl1, hl2]
   congr 1
   omega
theorem HOk.put {H : List Value} {n : Nat} (h : HOk H n) (r : List Int) : HOk (Sf H r) (n + min (64 - n) r.length) := by
 have hl := h.len
 have hle := h.le
 have hpl := FG h r
 have hlen : (u8s r).length = r.length := List.length_map ..
 refine ⟨by unfold Sf; rw [ZR]; exact hpl, ?_, ?_, ?_, ?_, by omega⟩
 · refine UA.other ⟨by rw [hpl]; decide, fun i hi => ?_⟩ (.inr (by omega))
   exact YA (x := nAt H (0 + i)) (by rw [FH h r (by omega)]; exact h.hw.2 i hi)
 · refine UA.other ⟨by rw [hpl]; decide, fun i hi => ?_⟩ (.inr (by omega))
   rw [h.cnt]
   have hl1 : (H.take (8 + n)).length = 8 + n := by rw [List.length_take, hl]; omega
   have hl2 : ((u8s r).take (min (64 - n) (u8s r).length)).length = min (64 - n) (u8s r).length := by rw [List.length_take]; omega
   by_cases h1 : 8 + i < 8 + n
   · refine YA (x := nAt H (8 + i)) ?_
     rw [WB (by rw [hl1]; exact h1), zU, List.getElem?_take, if_pos h1, ← zU]
     exact h.hb.2 i hi
   · by_cases h2 : 8 + i - (8 + n) < min (64 - n) (u8s r).length
     · refine YA (x := nAt (u8s r) (8 + i - (8 + n))) ?_
       rw [YG (by rw [hl1]; omega), WB (by rw [hl1, hl2]; exact h2), hl1, zU, List.getElem?_take, if_pos h2, ← zU]
       exact (Pm r).2 _ (by rw [hlen] at h2; omega)
     · refine YA (x := nAt H (8 + i)) ?_
       rw [YG (by rw [hl1]; omega), YG (by rw [hl1, hl2]; omega), zU, List.getElem?_drop, hl1, hl2, ← zU, show 8 + n + min (64 - n) (u8s r).length + (8 + i - (8 + n) - min (64 - n) (u8s r).length) = 8 + i by omega]
       exact h.hb.2 i hi
 · unfold Sf
   rw [YC, if_pos ⟨rfl, by rw [hpl]; decide⟩, h.cnt]
 · refine YA (x := nAt H 73) ?_
   unfold Sf
   rw [YC, if_neg (by omega), FH h r (by omega)]
   exact h.ha
def SlR (s : DS) (v : Value) (r : List Int) : Prop :=
 (v = .slice none 0 0 ∧ r = []) ∨ ∃ b off sp c, v = .slice (some ⟨b, off, sp⟩) r.length c ∧ (sp = none ∨ sp = some 1) ∧ r.length ≤ c ∧ s.read b off r.length = some (u8s r)
theorem XN (r : List Int) : zH r = Jn (u8s r) := by unfold zH Jn u8s; rw [List.map_map]; rfl
theorem SlR.view {s : DS} {v : Value} {r : List Int} (h : SlR s v r) : SlV s 1 v (Jn (u8s r)) := by
 have hl : (Jn (u8s r)).length = r.length := by rw [Kl]; exact List.length_map ..
 rcases h with ⟨rfl, rfl⟩ | ⟨b, off, sp, c, rfl, _, _, h3⟩
 · exact .inl ⟨rfl, rfl⟩
 · exact .inr ⟨b, off, sp, c, by rw [hl], by rw [hl, Nat.mul_one, Xe]; exact h3⟩
theorem SlR.keep {s s' : DS} {v : Value} {r : List Int} {F : List Nat} (h : SlR s v r) (e : Ext F s s') (hd : ∀ k, k ∈ blk v → k ∉ F) : SlR s' v r := by
 rcases h with h | ⟨b, off, sp, c, rfl, h1, h2, h3⟩
 · exact .inl h
 · refine .inr ⟨b, off, sp, c, rfl, h1, h2, ?_⟩
   unfold DS.read at h3 ⊢
   split at h3
   · rename_i cc ro hg
     rw [e.keep hg (hd b (by simp [blk]))]
     exact h3
   · cases h3
theorem SlR.len {s : DS} {v : Value} {r : List Int} (h : SlR s v r) : ∃ a c, v = .slice a r.length c := by
 rcases h with ⟨rfl, rfl⟩ | ⟨b, off, sp, c, rfl, _⟩
 · exact ⟨_, _, rfl⟩
 · exact ⟨_, _, rfl⟩
theorem SlR.drop {s : DS} {v : Value} {r : List Int} (h : SlR s v r) {i : Nat} (hi : i ≤ r.length) : ∃ w, slV 1 v (some (.int .i64 (i : Int))) none none = some w ∧ SlR s w (r.drop i) ∧ ∀ k, k ∈ blk w → k ∈ blk v := by
 rcases h with ⟨rfl, rfl⟩ | ⟨b, off, sp, c, rfl, h1, h2, h3⟩
 · obtain rfl : i = 0 := by simpa using hi
   exact ⟨.slice none 0 0, rfl, .inl ⟨rfl, rfl⟩, fun k hk => hk⟩
 · refine ⟨.slice (some ⟨b, off + i * 1, sp⟩) (r.length - i) (c - i), ?_, .inr ⟨b, off + i * 1, sp, c - i, by rw [List.length_drop], h1, by rw [List.length_drop]; omega, ?_⟩, fun k hk => by simpa [blk] using hk⟩
   · unfold slV Zw
     simp only [ZF, Nat.ble_eq.mpr hi, if_true, Option.isSome_none]
     rcases h1 with rfl | rfl
     · rfl
     · simp only [ZK, z3, if_false, Nat.beq_refl, if_true]
   · unfold DS.read at h3 ⊢
     split at h3
     · obtain ⟨_, h4⟩ := WL h3
       refine QV (by simp [u8s]) fun j hj => ?_
       rw [List.length_drop] at hj
       rw [show off + i * 1 + j = off + (i + j) by omega, h4 (i + j) (by omega)]
       unfold u8s
       rw [List.getElem?_map, List.getElem?_map, List.getElem?_drop]
     · cases h3
theorem SlR.lt {s : DS} {v : Value} {r : List Int} (h : SlR s v r) : ∀ k, k ∈ blk v → k < s.next := by
 rcases h with ⟨rfl, rfl⟩ | ⟨b, off, sp, c, rfl, _, _, h3⟩
 · exact fun k hk => by simp [blk] at hk
 · intro k hk
   simp [blk] at hk
   subst hk
   unfold DS.read at h3
   split at h3
   · rename_i cc ro hg
     exact DS.get_lt' hg
   · cases h3
theorem SlR.of {s : DS} {v : Value} {r : List Int} (h : SlV s 1 v (zH r)) (hv : ∃ a, v = .slice a r.length r.length ∧ ∀ x, a = some x → x.spot = none) : SlR s v r := by
 rcases h with ⟨rfl, h0⟩ | ⟨b, off, sp, c, rfl, h1⟩
 · exact .inl ⟨rfl, by simpa [zH] using h0⟩
 · obtain ⟨a, ha, hs⟩ := hv
   injection ha with ha1 ha2 ha3
   have hsp : sp = none := hs ⟨b, off, sp⟩ ha1.symm
   refine .inr ⟨b, off, sp, r.length, by rw [ha2, ha3], .inl hsp, Nat.le_refl _, ?_⟩
   rw [XN, Xe, Kl, Nat.mul_one] at h1
   have hl : (u8s r).length = r.length := List.length_map ..
   rwa [hl] at h1
end Go.Dx
