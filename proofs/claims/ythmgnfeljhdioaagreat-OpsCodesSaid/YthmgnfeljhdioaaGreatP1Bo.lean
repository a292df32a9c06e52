/- A part. -/
import Derived.Test.YthmgnfeljhdioaaGreatP1Cg
set_option linter.unusedVariables false
set_option linter.unusedSimpArgs false
set_option linter.unusedSectionVars false
set_option maxRecDepth 100000
set_option maxHeartbeats 4000000
namespace Go.Dx.TbA
open Go Go.Dx Go.Proofs.YthmgnfeljhdioaaGreat
theorem Vs {size : Nat} {most : Int} (st : RS) (hB : IsB st.1) (h8 : size < 8) (hm : 0 ≤ most) : 0 ≤ (rdN size most st).1 ∧ (rdN size most st).1 ≤ most := by
 cases h : (rdN size most st).2.2 with
 | false =>
  obtain ⟨_, h2, h3, h4⟩ := P2 h
  have hr := Qc (hB.take size)
  have hl : (st.1.take size).length = size := by rw [List.length_take]; omega
  rw [hl] at hr
  have h7 := CP (j := size) (by omega)
  rw [h3]
  have h4 := h4 h8
  show 0 ≤ zt .i64 _ ∧ zt .i64 _ ≤ most
  rw [zW (by omega) (by omega)]
  exact ⟨hr.1, h4⟩
 | true =>
  unfold rdN at h ⊢
  split
  · exact ⟨Int.le_refl _, hm⟩
  · rename_i h1
    rw [if_neg h1] at h
    split
    · exact ⟨Int.le_refl _, hm⟩
    · rename_i h2
      rw [if_neg h2] at h
      exact absurd h h1
def FC (n : Nat) (s : DS) (v : Value) (x : List Int) : Prop := SlR s v x ∧ ∀ k, k ∈ blk v → n ≤ k
theorem J4 : Yi FC :=
 ⟨fun n s s' v x F h X hF => ⟨h.1.keep X fun k hk hf => by have := h.2 k hk; have := hF k hf; omega, h.2⟩, fun n n' s v x h hn => ⟨h.1, fun k hk => Nat.le_trans hn (h.2 k hk)⟩⟩
theorem Nr (n : Nat) (s s' : DS) (v : Value) (x : List Int) (h : FC n s v x) (e : ∀ k, n ≤ k → s'.get k = s.get k) : FC n s' v x := ⟨SlR.of' h.1 fun k hk => e k (h.2 k hk), h.2⟩
def rdB (st : RS) : List Int × RS := tk (rdN 4 65536 st).1.toNat (rdN 4 65536 st).2
theorem Ro : XQ rdB := by
 refine ⟨fun st => ?_, fun st h => ?_⟩
 · obtain ⟨k, hk⟩ := (zT 4 65536).suf st
   obtain ⟨k2, hk2⟩ := SA (rdN 4 65536 st).1.toNat (rdN 4 65536 st).2
   exact ⟨k + k2, by show (tk _ _).2.1 = _; rw [hk2, hk, List.drop_drop]⟩
 · have := (zT 4 65536).bad st h
   unfold rdB tk
   rw [if_pos (.inl this)]
section
variable {E : Env} {s : DS} {d : Nat} {v : Value} {l : List Int}
theorem SlX.bytes (h : SlX s 1 v (zI l)) : SlR s v l := by
 have hl := zr l
 rcases h with ⟨rfl, h0⟩ | ⟨b, sp, rfl, h1, h2, h3⟩
 · exact .inl ⟨rfl, by simpa [zI] using h0⟩
 · refine .inr ⟨b, 0, sp, l.length, by rw [hl], h1, Nat.le_refl _, ?_⟩
   have hf : (zI l).flatten = u8s l := by rw [YV, Wj]
   rw [hf] at h2
   unfold DS.read
   simp only [h2]
   have hul : (u8s l).length = l.length := List.length_map ..
   rw [Y9 _ _ _ (by rw [hul]; omega)]
   simp only [List.drop_zero]
   rw [List.take_of_length_le (by rw [hul]; exact Nat.le_refl _)]
theorem Sd (hcode : E.fn 90 = some d90) (hintr : E.intr 90 = none) (h : SlR s v l) (hG : s.Good) (hl : l.length ≤ 1048576) : W (dcall E (d + 1) (.func (.func 90) #[] #[]) [v] s) fun r => SlR r.2 r.1 l ∧ Ext [] s r.2 ∧ ∀ k, k ∈ blk r.1 → s.next ≤ k := by
 refine zp fun Q hQ => ?_
 rw [zj hintr hcode rfl]
 have hv := h.view
 rw [← YV] at hv
 have hlt := h.lt
 have hil := zr l
 rcases h with ⟨rfl, rfl⟩ | ⟨b, off, sp, c, rfl, h1, h2, h3⟩
 · simp only [sA, zH, za, ze, reduceCtorEq, pp, pv, d90]
   exact hQ _ ⟨.inl ⟨rfl, rfl⟩, .refl, by simp [blk]⟩
 · simp only [sA, zH, Nat.reduceEqDiff, Nat.reduceLeDiff, reduceCtorEq, zi, pp, pv, repeatZ, d90]
   refine W.mono (Qj (lx := []) (ly := zI l) (.inr ⟨s.next, none, rfl, .inl rfl, DS.new_get_self hG, (hG _ (Nat.le_refl _)).2⟩) (hv.of fun j hj => DS.new_get_lt (hlt j hj)) Za.nil (ZQ l) (DS.new_good hG) (by simp; omega) (by simp; omega)) ?_
   rintro ⟨w3, s3⟩ ⟨x3, X3, b3⟩
   simp only [blk, List.nil_append] at x3 X3 b3
   simp only [sA, za, ze]
   refine hQ _ ⟨SlX.bytes x3, (Ext.new (F := [])).trans X3 (by simp), fun k hk => ?_⟩
   rcases b3 k hk with h | h
   · simp at h; omega
   · have : s.next + 1 ≤ k := h
     omega
theorem Pm (hC : GF E) {c1 : Nat} {cp cg : Value} {n : Nat} {D : List (Nat × DObj)} (ha : Zh E n cg D ZY (rdN 4 65536)) (hn : 1 ≤ n) (hcode : E.fn 89 = some d89) (hintr : E.intr 89 = none) (hc : E.fn 90 = some d90) (ic : E.intr 90 = none) :
 Zh E (n + 1) (.func (.func 89) #[] #[.pointer (some ⟨c1, 0, none⟩)]) ((c1, .cells (.list [cp, cg]) false) :: D) FC rdB := by
 intro d s r bv bs bad hD hb2 h hB hl hG
 have g1 := hD _ (List.mem_cons_self ..)
 simp only at g1
 have hDf : Zo s D := hD.sub fun p hp => List.mem_cons_of_mem _ hp
 have lf : ∀ p, p ∈ D → p.1 ≠ r := fun p hp => hb2 p (List.mem_cons_of_mem _ hp)
 refine zp fun Q hQ => ?_
 obtain ⟨n, rfl⟩ : ∃ n', n = n' + 1 := ⟨n - 1, by omega⟩
 show W (dcall E ((d + n + 1) + 1) _ _ _) Q
 rw [zZ hintr hcode rfl]
 simp only [sA, zb, Nat.reduceEqDiff, Cells.get, getN, reduceCtorEq, pp, pv, d89, g1]
 refine W.mono (ha d s r bv bs bad hDf lf h hB hl hG) ?_
 rintro ⟨v2, s2⟩ ⟨bv2, R2, I2, X2, b2⟩
 simp only at R2 I2 X2 b2
 have R2 : v2 = _ := R2
 subst R2
 have G2 := X2.good hG
 obtain ⟨k, hk⟩ := (zT 4 65536).suf (bs, bad)
 have hrg := Vs (size := 4) (most := 65536) (bs, bad) hB (by decide) (by decide)
 have hB2 : IsB (rdN 4 65536 (bs, bad)).2.1 := by rw [hk]; exact hB.drop k
 have hl2 : (rdN 4 65536 (bs, bad)).2.1.length ≤ 1048576 := by rw [hk]; simp; omega
 obtain ⟨N, hN⟩ : ∃ N : Nat, ((N : Nat) : Int) = (rdN 4 65536 (bs, bad)).1 := ⟨_, Int.toNat_of_nonneg hrg.1⟩
 rw [← hN] at hrg ⊢
 simp only [sA, Nat.reduceEqDiff]
 refine W.mono (CA hC (d := d + n) I2 G2 hl2 N (by omega)) ?_
 rintro ⟨v3, s3⟩ ⟨bv3, R3, I3, X3, b3, c3⟩
 simp only at R3 I3 X3 b3 c3
 have G3 := X3.good G2
 simp only [sA]
 have htl : (tk N ((rdN 4 65536 (bs, bad)).2.1, (rdN 4 65536 (bs, bad)).2.2)).1.length ≤ 1048576 := by
  unfold tk
  split
  · simp
  · simp; omega
 refine W.mono (Sd (d := d + n) hc ic R3 G3 htl) ?_
 rintro ⟨v4, s4⟩ ⟨R4, X4, b4⟩
 simp only at R4 X4 b4
 have le3 := X3.le
 have le2 := X2.le
 have hE : rdB (bs, bad) = tk N ((rdN 4 65536 (bs, bad)).2.1, (rdN 4 65536 (bs, bad)).2.2) := by
  unfold rdB
  rw [← hN, Int.toNat_natCast]
 rw [← hE] at R4 I3
 simp only [sA, za, ze]
 exact hQ _ ⟨bv3, ⟨R4, fun k hk => by have := b4 k hk; omega⟩, I3.keep X4 (by simp) (by simp), (X2.trans' X3).trans X4 (by simp), fun k hk => b2 k (b3 k hk)⟩
end
end Go.Dx.TbA
