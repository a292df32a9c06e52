/- A part. -/
import Derived.Test.YtffgmngdgkpflaaGreatT1Cg
import Derived.Test.YtffgmngdgkpflaaGreatT1Tab
set_option linter.unusedVariables false
set_option linter.unusedSimpArgs false
set_option linter.unusedSectionVars false
set_option maxRecDepth 100000
set_option maxHeartbeats 4000000
namespace Go.Dx.TbA
open Go Go.Dx Go.Proofs.YtffgmngdgkpflaaGreat
theorem Wa {size : Nat} {most : Int} (st : RS) (hB : IsB st.1) (h8 : size < 8) (hm : 0 ≤ most) : 0 ≤ (rdN size most st).1 ∧ (rdN size most st).1 ≤ most := by
 cases h : (rdN size most st).2.2 with
 | false =>
  obtain ⟨_, h2, h3, h4⟩ := F5 h
  have hr := Wb (hB.take size)
  have hl : (st.1.take size).length = size := by rw [List.length_take]; omega
  rw [hl] at hr
  have h7 := Sn (j := size) (by omega)
  rw [h3]
  have h4 := h4 h8
  show 0 ≤ zf .i64 _ ∧ zf .i64 _ ≤ most
  rw [zi (by omega) (by omega)]
  exact ⟨hr.1, h4⟩
 | true =>
  unfold rdN at h ⊢
  split
  · exact ⟨Int.le_refl _, hm⟩
  · rename_i h1
    rw [if_neg h1] at h
    split
    · exact ⟨Int.le_refl _, hm⟩
    · rename_i h2
      rw [if_neg h2] at h
      exact absurd h h1
def Dl (n : Nat) (s : DS) (v : Value) (x : List Int) : Prop := SlR s v x ∧ ∀ k, k ∈ blk v → n ≤ k
theorem SB : Xe Dl :=
 ⟨fun n s s' v x F h X hF => ⟨h.1.keep X fun k hk hf => by have := h.2 k hk; have := hF k hf; omega, h.2⟩, fun n n' s v x h hn => ⟨h.1, fun k hk => Nat.le_trans hn (h.2 k hk)⟩⟩
theorem MN (n : Nat) (s s' : DS) (v : Value) (x : List Int) (h : Dl n s v x) (e : ∀ k, n ≤ k → s'.get k = s.get k) : Dl n s' v x := ⟨SlR.of' h.1 fun k hk => e k (h.2 k hk), h.2⟩
def rdB (st : RS) : List Int × RS := tk (rdN 4 65536 st).1.toNat (rdN 4 65536 st).2
theorem Tp : XM rdB := by
 refine ⟨fun st => ?_, fun st h => ?_⟩
 · obtain ⟨k, hk⟩ := (zA 4 65536).suf st
   obtain ⟨k2, hk2⟩ := Pl (rdN 4 65536 st).1.toNat (rdN 4 65536 st).2
   exact ⟨k + k2, by show (tk _ _).2.1 = _; rw [hk2, hk, List.drop_drop]⟩
 · have := (zA 4 65536).bad st h
   unfold rdB tk
   rw [if_pos (.inl this)]
section
variable {E : Env} {s : DS} {d : Nat} {v : Value} {l : List Int}
theorem SlX.bytes (h : SlX s 1 v (zC l)) : SlR s v l := by
 have hl := zt l
 rcases h with ⟨rfl, h0⟩ | ⟨b, sp, rfl, h1, h2, h3⟩
 · exact .inl ⟨rfl, by simpa [zC] using h0⟩
 · refine .inr ⟨b, 0, sp, l.length, by rw [hl], h1, Nat.le_refl _, ?_⟩
   have hf : (zC l).flatten = u8s l := by rw [YP, Yf]
   rw [hf] at h2
   unfold DS.read
   simp only [h2]
   have hul : (u8s l).length = l.length := List.length_map ..
   rw [zQ _ _ _ (by rw [hul]; omega)]
   simp only [List.drop_zero]
   rw [List.take_of_length_le (by rw [hul]; exact Nat.le_refl _)]
theorem RY (hcode : E.fn 93 = some d93) (hintr : E.intr 93 = none) (h : SlR s v l) (hG : s.Good) (hl : l.length ≤ 1048576) : W (dcall E (d + 1) (.func (.func 93) #[] #[]) [v] s) fun r => SlR r.2 r.1 l ∧ Ext [] s r.2 ∧ ∀ k, k ∈ blk r.1 → s.next ≤ k := by
 refine zr fun Q hQ => ?_
 rw [zh hintr hcode rfl]
 have hv := h.view
 rw [← YP] at hv
 have hlt := h.lt
 have hil := zt l
 rcases h with ⟨rfl, rfl⟩ | ⟨b, off, sp, c, rfl, h1, h2, h3⟩
 · simp only [sA, zJ, za, zd, reduceCtorEq, pp, pv, d93]
   exact hQ _ ⟨.inl ⟨rfl, rfl⟩, .refl, by simp [blk]⟩
 · simp only [sA, zJ, Nat.reduceEqDiff, Nat.reduceLeDiff, reduceCtorEq, zg, pp, pv, repeatZ, d93]
   refine W.mono (Jw (lx := []) (ly := zC l) (.inr ⟨s.next, none, rfl, .inl rfl, DS.new_get_self hG, (hG _ (Nat.le_refl _)).2⟩) (hv.of fun j hj => DS.new_get_lt (hlt j hj)) zW.nil (ZK l) (DS.new_good hG) (by simp; omega) (by simp; omega)) ?_
   rintro ⟨w3, s3⟩ ⟨x3, X3, b3⟩
   simp only [blk, List.nil_append] at x3 X3 b3
   simp only [sA, za, zd]
   refine hQ _ ⟨SlX.bytes x3, (Ext.new (F := [])).trans X3 (by simp), fun k hk => ?_⟩
   rcases b3 k hk with h | h
   · simp at h; omega
   · have : s.next + 1 ≤ k := h
     omega
theorem NO (hC : GM E) {c1 : Nat} {cp cg : Value} {n : Nat} {D : List (Nat × DObj)} (ha : ZE E n cg D YA (rdN 4 65536)) (hn : 1 ≤ n) (hcode : E.fn 92 = some d92) (hintr : E.intr 92 = none) (hc : E.fn 93 = some d93) (ic : E.intr 93 = none) :
 ZE E (n + 1) (.func (.func 92) #[] #[.pointer (some ⟨c1, 0, none⟩)]) ((c1, .cells (.list [cp, cg]) false) :: D) Dl rdB := by
 intro d s r bv bs bad hD hb2 h hB hl hG
 have g1 := hD _ (List.mem_cons_self ..)
 simp only at g1
 have hDf : ZI s D := hD.sub fun p hp => List.mem_cons_of_mem _ hp
 have lf : ∀ p, p ∈ D → p.1 ≠ r := fun p hp => hb2 p (List.mem_cons_of_mem _ hp)
 refine zr fun Q hQ => ?_
 obtain ⟨n, rfl⟩ : ∃ n', n = n' + 1 := ⟨n - 1, by omega⟩
 show W (dcall E ((d + n + 1) + 1) _ _ _) Q
 rw [Zo hintr hcode rfl]
 simp only [sA, zb, Nat.reduceEqDiff, Cells.get, getN, reduceCtorEq, pp, pv, d92, g1]
 refine W.mono (ha d s r bv bs bad hDf lf h hB hl hG) ?_
 rintro ⟨v2, s2⟩ ⟨bv2, R2, I2, X2, b2⟩
 simp only at R2 I2 X2 b2
 have R2 : v2 = _ := R2
 subst R2
 have G2 := X2.good hG
 obtain ⟨k, hk⟩ := (zA 4 65536).suf (bs, bad)
 have hrg := Wa (size := 4) (most := 65536) (bs, bad) hB (by decide) (by decide)
 have hB2 : IsB (rdN 4 65536 (bs, bad)).2.1 := by rw [hk]; exact hB.drop k
 have hl2 : (rdN 4 65536 (bs, bad)).2.1.length ≤ 1048576 := by rw [hk]; simp; omega
 obtain ⟨N, hN⟩ : ∃ N : Nat, ((N : Nat) : Int) = (rdN 4 65536 (bs, bad)).1 := ⟨_, Int.toNat_of_nonneg hrg.1⟩
 rw [← hN] at hrg ⊢
 simp only [sA, Nat.reduceEqDiff]
 refine W.mono (Sc hC (d := d + n) I2 G2 hl2 N (by omega)) ?_
 rintro ⟨v3, s3⟩ ⟨bv3, R3, I3, X3, b3, c3⟩
 simp only at R3 I3 X3 b3 c3
 have G3 := X3.good G2
 simp only [sA]
 have htl : (tk N ((rdN 4 65536 (bs, bad)).2.1, (rdN 4 65536 (bs, bad)).2.2)).1.length ≤ 1048576 := by
  unfold tk
  split
  · simp
  · simp; omega
 refine W.mono (RY (d := d + n) hc ic R3 G3 htl) ?_
 rintro ⟨v4, s4⟩ ⟨R4, X4, b4⟩
 simp only at R4 X4 b4
 have le3 := X3.le
 have le2 := X2.le
 have hE : rdB (bs, bad) = tk N ((rdN 4 65536 (bs, bad)).2.1, (rdN 4 65536 (bs, bad)).2.2) := by
  unfold rdB
  rw [← hN, Int.toNat_natCast]
 rw [← hE] at R4 I3
 simp only [sA, za, zd]
 exact hQ _ ⟨bv3, ⟨R4, fun k hk => by have := b4 k hk; omega⟩, I3.keep X4 (by simp) (by simp), (X2.trans' X3).trans X4 (by simp), fun k hk => b2 k (b3 k hk)⟩
end
end Go.Dx.TbA
namespace Go.Dx.TbA
open Go Go.Dx Go.Proofs.YtffgmngdgkpflaaGreat
theorem TL {E : Env} {f1 f2 : Nat} {fp fg gp gg : Value} {α β : Type} {n : Nat} {Df Dg : List (Nat × DObj)} {Ra : Nat → DS → Value → α → Prop} {Rb : Nat → DS → Value → β → Prop} {ra : RS → α × RS} {rb : RS → β × RS}
 (ha : ZE E n fg Df Ra ra) (hb : ZE E n gg Dg Rb rb) (sa : Xe Ra) (sb : Xe Rb) (oa : XM ra) (ca : ∀ o s v x, Ra o s v x → (∃ q, v = .bool q)) (cb : ∀ o s v x, Rb o s v x → (∃ b n c, v = .slice b n c)) (hcode : E.fn 86 = some d86) (hintr : E.intr 86 = none) :
 ZE E (n + 1) (.func (.func 86) #[] #[.pointer (some ⟨f1, 0, none⟩), .pointer (some ⟨f2, 0, none⟩)]) ((f1, .cells (.list [fp, fg]) false) :: (f2, .cells (.list [gp, gg]) false) :: (Df ++ Dg)) (YF Ra Rb) (rdP ra rb) := by
 intro d s r bv bs bad hD hb2 h hB hl hG
 have g1 := hD _ (List.mem_cons_self ..)
 have g2 := hD (f2, _) (List.mem_cons_of_mem _ (List.mem_cons_self ..))
 have l1 := hb2 _ (List.mem_cons_self ..)
 have l2 := hb2 (f2, _) (List.mem_cons_of_mem _ (List.mem_cons_self ..))
 simp only at g1 g2 l1 l2
 have hDf : ZI s Df := hD.sub fun p hp => List.mem_cons_of_mem _ (List.mem_cons_of_mem _ (List.mem_append_left _ hp))
 have hDg : ZI s Dg := hD.sub fun p hp => List.mem_cons_of_mem _ (List.mem_cons_of_mem _ (List.mem_append_right _ hp))
 have lf : ∀ p, p ∈ Df → p.1 ≠ r := fun p hp => hb2 p (List.mem_cons_of_mem _ (List.mem_cons_of_mem _ (List.mem_append_left _ hp)))
 have lg : ∀ p, p ∈ Dg → p.1 ≠ r := fun p hp => hb2 p (List.mem_cons_of_mem _ (List.mem_cons_of_mem _ (List.mem_append_right _ hp)))
 have hrl := DS.get_lt' h.gr
 have l1s := DS.get_lt' g1
 have l2s := DS.get_lt' g2
 refine zr fun Q hQ => ?_
 show W (dcall E ((d + n) + 1) _ _ _) Q
 rw [Zo hintr hcode rfl]
 simp (maxDischargeDepth := 8) only [sA, sM, zb, Cells.get, getN, pp, pv, Nat.reduceLT, d86, g1, g2, hG, l1s, l2s]
 obtain ⟨S1, hS1⟩ : ∃ S1 : DS, S1 = s.new (.cells (.list [.bool false, .slice none 0 0]) false) := ⟨_, rfl⟩
 rw [← hS1]
 have X1 : ∀ F, Ext F s S1 := fun F => by rw [hS1]; exact Ext.new
 have nS : S1.next = s.next + 1 := by rw [hS1]; rfl
 have gS : S1.get s.next = some (.cells (.list [.bool false, .slice none 0 0]) false) := by rw [hS1]; exact DS.new_get_self hG
 have wS : S1.wr s.next = true := (X1 []).wrs (hG _ (Nat.le_refl _)).2
 have I1 : XW S1 r bv bs bad := h.keep (X1 []) (by simp) (by simp)
 have GS := (X1 []).good hG
 refine W.mono (ha d S1 r bv bs bad (hDf.keep (X1 []) (by simp)) lf I1 hB hl GS) ?_
 rintro ⟨v2, s2⟩ ⟨bv2, R2, I2, X2, b2⟩
 simp only at R2 I2 X2 b2
 have G2 := X2.good GS
 have le2 := X2.le
 obtain ⟨k, hk⟩ := oa.suf (bs, bad)
 have g22 := X2.keep ((X1 []).keep g2 (by simp)) (by simp; exact l2)
 have gS2 := X2.keep gS (by simp; omega)
 have wS2 := X2.wrs wS
 have hca := ca _ _ _ _ R2
 obtain ⟨a, rfl⟩ := hca
 simp only [sA, zb, Nat.reduceEqDiff, Cells.get, getN, reduceCtorEq, g22]
 refine W.mono (hb d s2 r bv2 _ _ ((hDg.keep (X1 []) (by simp)).keep X2 fun p hp => by simp; exact lg p hp) lg I2 (by rw [hk]; exact hB.drop k) (by rw [hk]; simp; omega) G2) ?_
 rintro ⟨v3, s3⟩ ⟨bv3, R3, I3, X3, b3⟩
 simp only at R3 I3 X3 b3
 have le3 := X3.le
 have gS3 := X3.keep gS2 (by simp; omega)
 have wS3 := X3.wrs wS2
 have hcb := cb _ _ _ _ R3
 obtain ⟨y1, y2, y3, rfl⟩ := hcb
 have hblt : ∀ k, k ∈ blk bv3 → k < s.next := fun k hk => h.sl.lt k (b2 k (b3 k hk))
 have U : ∀ o F, Ext (s.next :: F) s3 (s3.upd s.next o) := fun o F => Ext.upd (.inl (by simp))
 have lo : s.next < s3.next := by omega
 simp (maxDischargeDepth := 8) only [sA, sM, zo, za, zd, Cells.get, getN, Nat.reduceAdd, allOne, ze, Nat.reduceLeDiff, DS.wrC, Cells.size, Cells.fillFrom, Cells.set, zk, zg, DS.read, Cells.take, Nat.reduceLT, gS3, wS3, lo, X3.good G2]
 refine hQ _ ⟨bv3, ⟨_, _, rfl, sa.mono _ _ _ _ _ (sa.stab _ _ _ _ _ _ (sa.stab _ _ _ _ _ _ R2 X3 (by simp; omega)) (U _ []) (by simp; omega)) (by omega), sb.mono _ _ _ _ _ (sb.stab _ _ _ _ _ _ R3 (U _ []) (by simp; omega)) (by omega)⟩, I3.keep (U _ []) (by simp; omega) (fun k hk => by have := hblt k hk; simp; omega), ?_, fun k hk => b2 k (b3 k hk)⟩
 exact ((X1 _).trans' (X2.trans' X3)).trans (U _ []) (by simp)
theorem TN {E : Env} {f1 f2 : Nat} {fp fg gp gg : Value} {α β : Type} {n : Nat} {Df Dg : List (Nat × DObj)} {Ra : Nat → DS → Value → α → Prop} {Rb : Nat → DS → Value → β → Prop} {ra : RS → α × RS} {rb : RS → β × RS}
 (ha : ZE E n fg Df Ra ra) (hb : ZE E n gg Dg Rb rb) (sa : Xe Ra) (sb : Xe Rb) (oa : XM ra) (ca : ∀ o s v x, Ra o s v x → (∃ n1 n2, v = .agg ⟨[.int .i64 n1, .int .i64 n2]⟩)) (cb : ∀ o s v x, Rb o s v x → (∃ q b n c, v = .agg ⟨[.bool q, .slice b n c]⟩)) (fb : ∀ n s s' v x, Rb n s v x → (∀ k, n ≤ k → s'.get k = s.get k) → Rb n s' v x) (hfr : ∀ d, zG (dcall E d)) (hcode : E.fn 82 = some d82) (hintr : E.intr 82 = none) :
 ZE E (n + 1) (.func (.func 82) #[] #[.pointer (some ⟨f1, 0, none⟩), .pointer (some ⟨f2, 0, none⟩)]) ((f1, .cells (.list [fp, fg]) false) :: (f2, .cells (.list [gp, gg]) false) :: (Df ++ Dg)) (YF Ra Rb) (rdP ra rb) := by
 intro d s r bv bs bad hD hb2 h hB hl hG
 have g1 := hD _ (List.mem_cons_self ..)
 have g2 := hD (f2, _) (List.mem_cons_of_mem _ (List.mem_cons_self ..))
 have l1 := hb2 _ (List.mem_cons_self ..)
 have l2 := hb2 (f2, _) (List.mem_cons_of_mem _ (List.mem_cons_self ..))
 simp only at g1 g2 l1 l2
 have hDf : ZI s Df := hD.sub fun p hp => List.mem_cons_of_mem _ (List.mem_cons_of_mem _ (List.mem_append_left _ hp))
 have hDg : ZI s Dg := hD.sub fun p hp => List.mem_cons_of_mem _ (List.mem_cons_of_mem _ (List.mem_append_right _ hp))
 have lf : ∀ p, p ∈ Df → p.1 ≠ r := fun p hp => hb2 p (List.mem_cons_of_mem _ (List.mem_cons_of_mem _ (List.mem_append_left _ hp)))
 have lg : ∀ p, p ∈ Dg → p.1 ≠ r := fun p hp => hb2 p (List.mem_cons_of_mem _ (List.mem_cons_of_mem _ (List.mem_append_right _ hp)))
 have hrl := DS.get_lt' h.gr
 have l1s := DS.get_lt' g1
 have l2s := DS.get_lt' g2
 refine zr fun Q hQ => ?_
 show W (dcall E ((d + n) + 1) _ _ _) Q
 rw [Zo hintr hcode rfl]
 simp (maxDischargeDepth := 8) only [sA, sM, zb, Cells.get, getN, pp, pv, Nat.reduceLT, d82, g1, g2, hG, l1s, l2s]
 obtain ⟨S1, hS1⟩ : ∃ S1 : DS, S1 = s.new (.cells (.list [.int .i64 0, .int .i64 0, .bool false, .slice none 0 0]) false) := ⟨_, rfl⟩
 rw [← hS1]
 have X1 : ∀ F, Ext F s S1 := fun F => by rw [hS1]; exact Ext.new
 have nS : S1.next = s.next + 1 := by rw [hS1]; rfl
 have gS : S1.get s.next = some (.cells (.list [.int .i64 0, .int .i64 0, .bool false, .slice none 0 0]) false) := by rw [hS1]; exact DS.new_get_self hG
 have wS : S1.wr s.next = true := (X1 []).wrs (hG _ (Nat.le_refl _)).2
 have I1 : XW S1 r bv bs bad := h.keep (X1 []) (by simp) (by simp)
 have GS := (X1 []).good hG
 refine W.mono (ha d S1 r bv bs bad (hDf.keep (X1 []) (by simp)) lf I1 hB hl GS) ?_
 rintro ⟨v2, s2⟩ ⟨bv2, R2, I2, X2, b2⟩
 simp only at R2 I2 X2 b2
 have G2 := X2.good GS
 have le2 := X2.le
 obtain ⟨k, hk⟩ := oa.suf (bs, bad)
 have g22 := X2.keep ((X1 []).keep g2 (by simp)) (by simp; exact l2)
 have gS2 := X2.keep gS (by simp; omega)
 have wS2 := X2.wrs wS
 have hca := ca _ _ _ _ R2
 obtain ⟨x1, x2, rfl⟩ := hca
 obtain ⟨S2, hS2⟩ : ∃ S2 : DS, S2 = (s2.new (.cells (.list [.int .i64 0, .int .i64 0]) false)).upd s2.next (.cells (.list [.int .i64 x1, .int .i64 x2]) false) := ⟨_, rfl⟩
 have XF : ∀ F, Ext F s2 S2 := fun F => by
  have e1 : Ext F s2 (s2.new (.cells (.list [.int .i64 0, .int .i64 0]) false)) := Ext.new
  have e2 : Ext (s2.next :: F) (s2.new (.cells (.list [.int .i64 0, .int .i64 0]) false)) ((s2.new (.cells (.list [.int .i64 0, .int .i64 0]) false)).upd s2.next (.cells (.list [.int .i64 x1, .int .i64 x2]) false)) := Ext.upd (.inl (by simp))
  rw [hS2]
  exact e1.trans e2 (by simp; intro a ha; exact .inl ha)
 have XA := XF [s2.next]
 have nA : S2.next = s2.next + 1 := by rw [hS2, DS.upd_next]; rfl
 have gA : S2.get s2.next = some (.cells (.list [.int .i64 x1, .int .i64 x2]) false) := by rw [hS2, DS.upd_get_self, DS.new_get_self G2]; rfl
 have GA := XA.good G2
 have rlt : r < s2.next := DS.get_lt' I2.gr
 have g2A := XA.keep g22 (by simp; omega)
 have IA : XW S2 r bv2 _ _ := I2.keep XA (by simp; omega) (fun k hk => by have := I2.sl.lt k hk; simp; omega)
 have DA := ((hDg.keep (X1 []) (by simp)).keep X2 fun p hp => by simp; exact lg p hp).keep XA fun p hp => by
  have := DS.get_lt' (((hDg.keep (X1 []) (by simp)).keep X2 fun p hp => by simp; exact lg p hp) p hp)
  simp
  omega
 have gSA := XA.keep gS2 (by simp; omega)
 have wSA := XA.wrs wS2
 simp (maxDischargeDepth := 8) only [sA, sM, zb, Cells.get, getN, Nat.reduceAdd, allOne, ze, DS.wrC, Cells.size, Cells.fillFrom, Cells.set, zk, ldA, foot, DS.read, Cells.take, Nat.reduceLT, G2, g22, ← hS2, g2A, gA]
 refine W.masked (hfr _) (hb d (mask S2 _ _) r bv2 (ra (bs, bad)).2.1 (ra (bs, bad)).2.2 (fun p hp => (Zg ?_).trans (DA p hp)) lg ⟨(Zg ?_).trans IA.gr, Qq IA.wr ?_ ?_, SlR.of' IA.sl fun k hk => Zg ?_, IA.ne⟩ (by rw [hk]; exact hB.drop k) (by rw [hk]; simp; omega) (Zq GA fun k hk => ?_)) ?_
 · (simp only [hidden, shielded, noteAt, zx, Bool.or_false, Bool.or_eq_false_iff, Bool.and_eq_false_iff, zD, zM, zH, true_and, and_true, true_or, or_true] <;> omega)
 · (simp only [hidden, shielded, noteAt, zx, Bool.or_false, Bool.or_eq_false_iff, Bool.and_eq_false_iff, zD, zM, zH, true_and, and_true, true_or, or_true] <;> omega)
 · (simp only [hidden, shielded, noteAt, zx, Bool.or_false, Bool.or_eq_false_iff, Bool.and_eq_false_iff, zD, zM, zH, true_and, and_true, true_or, or_true] <;> omega)
 · (simp only [hidden, shielded, noteAt, zx, Bool.or_false, Bool.or_eq_false_iff, Bool.and_eq_false_iff, zD, zM, zH, true_and, and_true, true_or, or_true] <;> omega)
 · (simp only [hidden, shielded, noteAt, zx, Bool.or_false, Bool.or_eq_false_iff, Bool.and_eq_false_iff, zD, zM, zH, true_and, and_true, true_or, or_true] <;> omega)
 · exact ⟨by (simp only [hidden, shielded, noteAt, zx, Bool.or_false, Bool.or_eq_false_iff, Bool.and_eq_false_iff, zD, zM, zH, true_and, and_true, true_or, or_true] <;> omega), by (simp only [hidden, shielded, noteAt, zx, Bool.or_false, Bool.or_eq_false_iff, Bool.and_eq_false_iff, zD, zM, zH, true_and, and_true, true_or, or_true] <;> omega)⟩
 rintro v3 s3' ⟨bv3, R3', I3', X3', b3⟩ df
 simp only at R3' I3' X3' b3
 have hsame : ∀ k, (unmask S2 s3').get k = s3'.get k := fun k => Yn (by (simp only [hidden, shielded, noteAt, zx, Bool.or_false, Bool.or_eq_false_iff, Bool.and_eq_false_iff, zD, zM, zH, true_and, and_true, true_or, or_true] <;> omega)) X3'
 have X3u := Ext.unmask' X3' df
 obtain ⟨s3, hs3⟩ : ∃ s3 : DS, s3 = unmask S2 s3' := ⟨_, rfl⟩
 have n3 : s3'.next = s3.next := by rw [hs3]; rfl
 have R3 : Rb S2.next s3 v3 _ := fb _ _ _ _ _ R3' fun k _ => by rw [hs3]; exact hsame k
 have I3 : XW s3 r bv3 _ _ := ⟨by rw [hs3, hsame]; exact I3'.gr, by rw [hs3, Je]; exact IA.wr, SlR.of' I3'.sl fun k _ => by rw [hs3]; exact hsame k, I3'.ne⟩
 rw [← hs3] at X3u
 have X3 : Ext [r] s2 s3 := (XF [r]).trans' X3u
 have le3 := X3.le
 have gS3 := X3.keep gS2 (by simp; omega)
 have wS3 := X3.wrs wS2
 have hcb := cb _ _ _ _ R3
 obtain ⟨y1, y2, y3, y4, rfl⟩ := hcb
 have hblt : ∀ k, k ∈ blk bv3 → k < s.next := fun k hk => h.sl.lt k (b2 k (b3 k hk))
 have U : ∀ o F, Ext (s.next :: F) s3 (s3.upd s.next o) := fun o F => Ext.upd (.inl (by simp))
 have lo : s.next < s3.next := by omega
 simp (maxDischargeDepth := 8) only [sA, sM, zo, za, zd, Cells.get, getN, Nat.reduceAdd, allOne, ze, Nat.reduceLeDiff, DS.wrC, Cells.size, Cells.fillFrom, Cells.set, zk, zg, foot, DS.read, Cells.take, Nat.reduceLT, ← hs3, n3, gS3, wS3, lo, X3.good G2]
 refine hQ _ ⟨bv3, ⟨_, _, rfl, sa.mono _ _ _ _ _ (sa.stab _ _ _ _ _ _ (sa.stab _ _ _ _ _ _ R2 X3 (by simp; omega)) (U _ []) (by simp; omega)) (by omega), sb.mono _ _ _ _ _ (sb.stab _ _ _ _ _ _ R3 (U _ []) (by simp; omega)) (by omega)⟩, I3.keep (U _ []) (by simp; omega) (fun k hk => by have := hblt k hk; simp; omega), ?_, fun k hk => b2 k (b3 k hk)⟩
 exact ((X1 _).trans' (X2.trans' X3)).trans (U _ []) (by simp)
abbrev Ci := YF Fl Dl
theorem Ni (n : Nat) (s s' : DS) (v : Value) (x : Bool × List Int) (h : Ci n s v x) (e : ∀ k, n ≤ k → s'.get k = s.get k) : Ci n s' v x := by
 obtain ⟨a, b, h0, h1, h2⟩ := h
 exact ⟨a, b, h0, h1, MN _ _ _ _ _ h2 e⟩
theorem Jr (o : Nat) (s : DS) (v : Value) (x : List Int) (h : Dl o s v x) : ∃ b n c, v = .slice b n c := by
 obtain ⟨a, c, e⟩ := h.1.len
 exact ⟨_, _, _, e⟩
theorem Ng (o : Nat) (s : DS) (v : Value) (x : Bool × List Int) (h : Ci o s v x) : ∃ q b n c, v = .agg ⟨[.bool q, .slice b n c]⟩ := by
 obtain ⟨a, b, h0, h1, h2⟩ := h
 have h1 : a = _ := h1
 obtain ⟨b', n', c', h2⟩ := Jr _ _ _ _ h2
 subst h1 h2
 exact ⟨_, _, _, _, h0⟩
section
variable {E : Env} (hC : GM E) (hP : QE E) {s : DS} {d : Nat}
include hC hP
theorem GY {α β : Type} {n m : Nat} (hm : m ≤ s.next) {va vb : Value} {Ra : Nat → DS → Value → α → Prop} {Rb : Nat → DS → Value → β → Prop} {ra : RS → α × RS} {rb : RS → β × RS}
 (hG : s.Good) (ha : zO E n m s va Ra ra) (hb : zO E n m s vb Rb rb) (hcode : E.fn 51 = some d51) (hintr : E.intr 51 = none)
 (hget : ∀ {f1 f2 : Nat} {fp fg gp gg : Value} {Df Dg : List (Nat × DObj)}, ZE E n fg Df Ra ra → ZE E n gg Dg Rb rb → ZE E (n + 1) (.func (.func 86) #[] #[.pointer (some ⟨f1, 0, none⟩), .pointer (some ⟨f2, 0, none⟩)]) ((f1, .cells (.list [fp, fg]) false) :: (f2, .cells (.list [gp, gg]) false) :: (Df ++ Dg)) (YF Ra Rb) (rdP ra rb)) :
 W (dcall E (d + 1) (.func (.func 51) #[] #[]) [va, vb] s) fun r => zO E (n + 1) m r.2 r.1 (YF Ra Rb) (rdP ra rb) ∧ Ext [] s r.2 := by
 obtain ⟨f1, a1, b1, g1, p1, q1, D1, rfl, h2, h3, h4⟩ := ha
 obtain ⟨f2, a2, b2, g2, p2, q2, D2, rfl, k2, k3, k4⟩ := hb
 refine zr fun Q hQ => ?_
 rw [zh hintr hcode rfl]
 simp (maxDischargeDepth := 8) only [sA, sM, zb, zo, zJ, za, zd, Cells.get, getN, Nat.reduceAdd, allOne, ze, Nat.reduceLeDiff, DS.wrC, Cells.size, Cells.fillFrom, Cells.set, zk, zg, pp, pv, pg, DS.read, Cells.take, Nat.reduceLT, d51, hG]
 have X : ∀ o1 o2 o3 o4, Ext [] s ((((s.new o1).new o2).new o3).upd (s.next + 2) o4) := fun _ _ _ _ => (Ext.new.trans' (Ext.new.trans' Ext.new)).trans (Ext.upd (F := [s.next + 2]) (.inl (by simp))) (by simp)
 refine hQ _ ⟨⟨_, _, _, _, _, _, _, rfl, ?_, ?_, hget (f1 := s.next) (f2 := s.next + 1) (fp := .func (.func f1) a1 b1) (gp := .func (.func f2) a2 b2) h4 k4⟩, X _ _ _ _⟩
 · intro p hp
   rcases List.mem_cons.1 hp with rfl | hp
   · simp (maxDischargeDepth := 8) only [sA, sM, Nat.reduceAdd, hG]
   · rcases List.mem_cons.1 hp with rfl | hp
     · simp (maxDischargeDepth := 8) only [sA, sM, Nat.reduceAdd, hG]
     · rcases List.mem_append.1 hp with hp | hp
       · exact (X _ _ _ _).keep (h2 p hp) (by simp)
       · exact (X _ _ _ _).keep (k2 p hp) (by simp)
 · intro p hp
   have hn : ∀ o1 o2 o3 o4, ((((s.new o1).new o2).new o3).upd (s.next + 2) o4).next = s.next + 3 := fun _ _ _ _ => by simp (maxDischargeDepth := 8) only [sA, Nat.reduceAdd, Nat.add_assoc]
   rw [hn]
   rcases List.mem_cons.1 hp with rfl | hp
   · show m ≤ s.next ∧ s.next < s.next + 3; omega
   · rcases List.mem_cons.1 hp with rfl | hp
     · show m ≤ s.next + 1 ∧ s.next + 1 < s.next + 3; omega
     · rcases List.mem_append.1 hp with hp | hp
       · have := h3 p hp; omega
       · have := k3 p hp; omega
theorem GZ {α β : Type} {n m : Nat} (hm : m ≤ s.next) {va vb : Value} {Ra : Nat → DS → Value → α → Prop} {Rb : Nat → DS → Value → β → Prop} {ra : RS → α × RS} {rb : RS → β × RS}
 (hG : s.Good) (ha : zO E n m s va Ra ra) (hb : zO E n m s vb Rb rb) (hcode : E.fn 47 = some d47) (hintr : E.intr 47 = none)
 (hget : ∀ {f1 f2 : Nat} {fp fg gp gg : Value} {Df Dg : List (Nat × DObj)}, ZE E n fg Df Ra ra → ZE E n gg Dg Rb rb → ZE E (n + 1) (.func (.func 82) #[] #[.pointer (some ⟨f1, 0, none⟩), .pointer (some ⟨f2, 0, none⟩)]) ((f1, .cells (.list [fp, fg]) false) :: (f2, .cells (.list [gp, gg]) false) :: (Df ++ Dg)) (YF Ra Rb) (rdP ra rb)) :
 W (dcall E (d + 1) (.func (.func 47) #[] #[]) [va, vb] s) fun r => zO E (n + 1) m r.2 r.1 (YF Ra Rb) (rdP ra rb) ∧ Ext [] s r.2 := by
 obtain ⟨f1, a1, b1, g1, p1, q1, D1, rfl, h2, h3, h4⟩ := ha
 obtain ⟨f2, a2, b2, g2, p2, q2, D2, rfl, k2, k3, k4⟩ := hb
 refine zr fun Q hQ => ?_
 rw [zh hintr hcode rfl]
 simp (maxDischargeDepth := 8) only [sA, sM, zb, zo, zJ, za, zd, Cells.get, getN, Nat.reduceAdd, allOne, ze, Nat.reduceLeDiff, DS.wrC, Cells.size, Cells.fillFrom, Cells.set, zk, zg, pp, pv, pg, DS.read, Cells.take, Nat.reduceLT, d47, hG]
 have X : ∀ o1 o2 o3 o4, Ext [] s ((((s.new o1).new o2).new o3).upd (s.next + 2) o4) := fun _ _ _ _ => (Ext.new.trans' (Ext.new.trans' Ext.new)).trans (Ext.upd (F := [s.next + 2]) (.inl (by simp))) (by simp)
 refine hQ _ ⟨⟨_, _, _, _, _, _, _, rfl, ?_, ?_, hget (f1 := s.next) (f2 := s.next + 1) (fp := .func (.func f1) a1 b1) (gp := .func (.func f2) a2 b2) h4 k4⟩, X _ _ _ _⟩
 · intro p hp
   rcases List.mem_cons.1 hp with rfl | hp
   · simp (maxDischargeDepth := 8) only [sA, sM, Nat.reduceAdd, hG]
   · rcases List.mem_cons.1 hp with rfl | hp
     · simp (maxDischargeDepth := 8) only [sA, sM, Nat.reduceAdd, hG]
     · rcases List.mem_append.1 hp with hp | hp
       · exact (X _ _ _ _).keep (h2 p hp) (by simp)
       · exact (X _ _ _ _).keep (k2 p hp) (by simp)
 · intro p hp
   have hn : ∀ o1 o2 o3 o4, ((((s.new o1).new o2).new o3).upd (s.next + 2) o4).next = s.next + 3 := fun _ _ _ _ => by simp (maxDischargeDepth := 8) only [sA, Nat.reduceAdd, Nat.add_assoc]
   rw [hn]
   rcases List.mem_cons.1 hp with rfl | hp
   · show m ≤ s.next ∧ s.next < s.next + 3; omega
   · rcases List.mem_cons.1 hp with rfl | hp
     · show m ≤ s.next + 1 ∧ s.next + 1 < s.next + 3; omega
     · rcases List.mem_append.1 hp with hp | hp
       · have := h3 p hp; omega
       · have := k3 p hp; omega
theorem CT (hG : s.Good) {m : Nat} (hm : m ≤ s.next) (hblob : E.fn 53 = some d53) (iblob : E.intr 53 = none) (h2 : E.fn 92 = some d92) (i2 : E.intr 92 = none) (hc : E.fn 93 = some d93) (ic : E.intr 93 = none) :
 W (dcall E (d + 2) (.func (.func 53) #[] #[]) [] s) fun r => zO E 4 m r.2 r.1 Dl rdB ∧ Ext [] s r.2 := by
 refine zr fun Q hQ => ?_
 rw [zh iblob hblob rfl]
 simp (maxDischargeDepth := 8) only [sA, pp, d53, hG]
 obtain ⟨S, hS⟩ : ∃ S : DS, S = s.new (.cells (.list [.nilFunc, .nilFunc]) false) := ⟨_, rfl⟩
 rw [← hS]
 have XS : Ext [] s S := by rw [hS]; exact Ext.new
 have nS : S.next = s.next + 1 := by rw [hS]; simp (maxDischargeDepth := 8) only [zU]
 have hGS := XS.good hG
 have S0 : S.get s.next = some (.cells (.list [.nilFunc, .nilFunc]) false) := by rw [hS]; simp (maxDischargeDepth := 8) only [zR, hG]
 have wS : S.wr s.next = true := XS.wrs (hG _ (Nat.le_refl _)).2
 clear hS
 refine W.mono (WK hP (d := d) hGS 4 65536) ?_
 rintro ⟨v2, s2⟩ ⟨hv2, n1, n2, X2, hn2⟩
 simp only at hv2 n1 n2 X2 hn2
 subst hv2
 have hG2 := X2.good hGS
 have T0 := X2.keep S0 (by simp)
 have wT := X2.wrs wS
 rw [nS] at n1 n2 hn2 ⊢
 have hlt : s.next < s2.next := by omega
 simp (maxDischargeDepth := 8) only [sA, sM, zo, za, zd, Cells.get, getN, Nat.reduceAdd, allOne, ze, Nat.reduceLeDiff, DS.wrC, Cells.size, Cells.fillFrom, Cells.set, zk, zg, DS.read, Cells.take, Nat.reduceLT, hG2, T0, wT, hlt]
 have X4 : ∀ o1 o2 o3, Ext [] s (((s2.new o1).upd s2.next o2).upd s.next o3) := fun o1 o2 o3 => by
  have e1 : Ext [] s2 (s2.new o1) := Ext.new
  have e2 : Ext [s2.next] (s2.new o1) ((s2.new o1).upd s2.next o2) := Ext.upd (.inl (by simp))
  have e3 : Ext [s.next] ((s2.new o1).upd s2.next o2) (((s2.new o1).upd s2.next o2).upd s.next o3) := Ext.upd (.inl (by simp))
  exact ((XS.trans' X2).trans' (e1.trans e2 (by simp))).trans e3 (by simp)
 refine hQ _ ⟨⟨_, _, _, _, _, _, (s2.next, .cells (.list [.func (.func 112) #[] #[.pointer (some ⟨s.next + 1, 0, none⟩), .pointer (some ⟨s.next + 1 + 1, 0, none⟩)], .func (.func 114) #[] #[.pointer (some ⟨s.next + 1, 0, none⟩), .pointer (some ⟨s.next + 1 + 1, 0, none⟩)]]) false) :: [(s.next + 1, .cells (.list [.int .i64 ((4 : Nat) : Int)]) false), (s.next + 1 + 1, .cells (.list [.int .i64 65536]) false)], rfl, ?_, ?_, NO hC (Ka hC (b1 := s.next + 1) (b2 := s.next + 1 + 1) (size := 4) (most := 65536) (by omega) (by omega)) (by omega) h2 i2 hc ic⟩, X4 _ _ _⟩
 · intro p hp
   rcases List.mem_cons.1 hp with rfl | hp
   · simp (maxDischargeDepth := 8) only [sA, sM, Nat.reduceAdd, hG2, show ¬ s2.next = s.next by omega]
   · rcases List.mem_cons.1 hp with rfl | hp
     · simp (maxDischargeDepth := 8) only [sA, Xo, n1, show ¬ s.next + 1 = s.next by omega, show ¬ s.next + 1 = s2.next by omega, show s.next + 1 < s2.next by omega]
       rfl
     · rcases List.mem_cons.1 hp with rfl | hp
       · simp (maxDischargeDepth := 8) only [sA, sM, Nat.reduceAdd, n2, show ¬ s.next + 1 + 1 = s.next by omega, show ¬ s.next + 1 + 1 = s2.next by omega, show s.next + 1 + 1 < s2.next by omega]
       · cases hp
 · intro p hp
   have hfin : m ≤ p.1 ∧ p.1 < s2.next + 1 := by
    rcases List.mem_cons.1 hp with rfl | hp
    · show m ≤ s2.next ∧ s2.next < s2.next + 1; omega
    · rcases List.mem_cons.1 hp with rfl | hp
      · show m ≤ s.next + 1 ∧ s.next + 1 < s2.next + 1; omega
      · rcases List.mem_cons.1 hp with rfl | hp
        · show m ≤ s.next + 1 + 1 ∧ s.next + 1 + 1 < s2.next + 1; omega
        · cases hp
   simp (maxDischargeDepth := 8) only [sA]
   exact hfin
end
end Go.Dx.TbA
namespace Go.Dx.TbA
open Go Go.Dx Go.Proofs.YtffgmngdgkpflaaGreat
structure KP {α : Type} (R : Nat → DS → Value → α → Prop) (n : Nat) (s : DS) (lv : Value) (vs : List (List Value)) (xs : List α) : Prop where
 len : vs.length = xs.length
 at_ : ∀ (i : Nat) (row : List Value) (x : α), vs[i]? = some row → xs[i]? = some x → R n s (.agg ⟨row⟩) x ∧ ∀ k, k ∈ row.flatMap blk → k ∉ blk lv ∧ n ≤ k ∧ k < s.next
def Mg {α : Type} (R : Nat → DS → Value → α → Prop) : Prop := ∀ n s s' row x, R n s (.agg ⟨row⟩) x → (∀ k, k ∈ row.flatMap blk → s'.get k = s.get k) → R n s' (.agg ⟨row⟩) x
theorem KP.step {α : Type} {R : Nat → DS → Value → α → Prop} {n : Nat} {s s' : DS} {lv lv' : Value} {vs : List (List Value)} {xs : List α} (h : KP R n s lv vs xs) (hl : Mg R) (hg : ∀ k, n ≤ k → k < s.next → k ∉ blk lv → s'.get k = s.get k) (hle : s.next ≤ s'.next) (hb : ∀ k, k < s.next → k ∉ blk lv → k ∉ blk lv') : KP R n s' lv' vs xs := by
 refine ⟨h.len, fun i row x h1 h2 => ?_⟩
 obtain ⟨h3, h4⟩ := h.at_ i row x h1 h2
 refine ⟨hl _ _ _ _ _ h3 fun k hk => ?_, fun k hk => ?_⟩
 · obtain ⟨a, b, c⟩ := h4 k hk
   exact hg k b c a
 · obtain ⟨a, b, c⟩ := h4 k hk
   exact ⟨hb k c a, b, by omega⟩
theorem KP.snoc {α : Type} {R : Nat → DS → Value → α → Prop} {n : Nat} {s : DS} {lv : Value} {vs : List (List Value)} {xs : List α} {row : List Value} {x : α} (h : KP R n s lv vs xs) (h1 : R n s (.agg ⟨row⟩) x) (h2 : ∀ k, k ∈ row.flatMap blk → k ∉ blk lv ∧ n ≤ k ∧ k < s.next) : KP R n s lv (vs ++ [row]) (xs ++ [x]) := by
 refine ⟨by simp [h.len], fun i row' x' h3 h4 => ?_⟩
 by_cases hi : i < vs.length
 · rw [List.getElem?_append_left hi] at h3
   rw [List.getElem?_append_left (by rw [← h.len]; exact hi)] at h4
   exact h.at_ i row' x' h3 h4
 · rw [List.getElem?_append_right (by omega)] at h3
   rw [List.getElem?_append_right (by rw [← h.len]; omega), ← h.len] at h4
   have h0 : i - vs.length = 0 := by
    have := (List.getElem?_eq_some_iff.1 h3).1
    simp at this
    exact this
   rw [h0] at h3 h4
   simp at h3 h4
   subst h3 h4
   exact ⟨h1, h2⟩
theorem KP.nil {α : Type} {R : Nat → DS → Value → α → Prop} {n : Nat} {s : DS} {lv : Value} : KP R n s lv [] ([] : List α) := ⟨rfl, fun i row x h => by simp at h⟩
def MM {α : Type} (sz : Nat) (R : Nat → DS → Value → α → Prop) (n : Nat) (s : DS) (v : Value) (xs : List α) : Prop := ∃ vs, SlC s sz v vs ∧ zW sz vs ∧ KP R n s v vs xs ∧ ∀ k, k ∈ blk v → n ≤ k
structure HW {α : Type} (R : Nat → DS → Value → α → Prop) (s0 : DS) (r f1 : Nat) (bv : Value) (rd : RS → α × RS) (L : Nat) (tot : List α × RS) (n : Nat) (y : St) : Prop where
 ex : ∃ (l : List α) (st : RS) (lv bv' : Value) (vs : List (List Value)), y.defers = [] ∧ (y.t.get 0 = some (.pointer (some ⟨r, 0, none⟩)) ∧ y.t.get 2 = some (.pointer (some ⟨f1, 0, none⟩)) ∧ y.t.get 5 = some lv ∧ y.t.get 6 = some (.int .i64 (n : Int))) ∧
  SlC y.s 4 lv vs ∧ zW 4 vs ∧ KP R s0.next y.s lv vs l ∧ (∀ k, k ∈ blk lv → s0.next ≤ k) ∧ XW y.s r bv' st.1 st.2 ∧ (∀ k, k ∈ blk bv' → k ∈ blk bv) ∧ Ext [r] s0 y.s ∧ y.s.Good ∧ IsB st.1 ∧ st.1.length ≤ L ∧ Ze rd n l st = tot ∧ l.length + n ≤ 4096
theorem RG {E : Env} {c1 f1 : Nat} {cp cg fp fg : Value} {α : Type} {n : Nat} {Dc Df : List (Nat × DObj)} {R : Nat → DS → Value → α → Prop} {rd : RS → α × RS}
 (hc : ZE E n cg Dc YA (rdN 2 4096)) (hf : ZE E n fg Df R rd) (oR : XM rd) (hloc : Mg R) (hmono : ∀ n n' s v x, R n s v x → n' ≤ n → R n' s v x) (hblk : ∀ n s row x, R n s (.agg ⟨row⟩) x → ∀ k, k ∈ row.flatMap blk → n ≤ k ∧ k < s.next) (hsh : ∀ n s v x, R n s v x → ∃ a b q b' n' c, v = .agg ⟨[.int .i64 a, .int .i64 b, .bool q, .slice b' n' c]⟩) (hlf : 5000 ≤ E.lf) (hcode : E.fn 80 = some d80) (hintr : E.intr 80 = none) :
 ZE E (n + 1) (.func (.func 80) #[] #[.pointer (some ⟨c1, 0, none⟩), .pointer (some ⟨f1, 0, none⟩)]) ((c1, .cells (.list [cp, cg]) false) :: (f1, .cells (.list [fp, fg]) false) :: (Dc ++ Df)) (MM 4 R) (rdL rd) := by
 intro d s r bv bs bad hD hb2 h hB hl hG
 have g1 := hD _ (List.mem_cons_self ..)
 have g2 := hD (f1, _) (List.mem_cons_of_mem _ (List.mem_cons_self ..))
 have l1 := hb2 _ (List.mem_cons_self ..)
 have l2 := hb2 (f1, _) (List.mem_cons_of_mem _ (List.mem_cons_self ..))
 simp only at g1 g2 l1 l2
 have hDc : ZI s Dc := hD.sub fun p hp => List.mem_cons_of_mem _ (List.mem_cons_of_mem _ (List.mem_append_left _ hp))
 have hDf : ZI s Df := hD.sub fun p hp => List.mem_cons_of_mem _ (List.mem_cons_of_mem _ (List.mem_append_right _ hp))
 have lc : ∀ p, p ∈ Dc → p.1 ≠ r := fun p hp => hb2 p (List.mem_cons_of_mem _ (List.mem_cons_of_mem _ (List.mem_append_left _ hp)))
 have lf : ∀ p, p ∈ Df → p.1 ≠ r := fun p hp => hb2 p (List.mem_cons_of_mem _ (List.mem_cons_of_mem _ (List.mem_append_right _ hp)))
 have hrl := DS.get_lt' h.gr
 have l2s := DS.get_lt' g2
 refine zr fun Q hQ => ?_
 show W (dcall E ((d + n) + 1) _ _ _) Q
 rw [Zo hintr hcode rfl]
 simp only [sA, zb, Nat.reduceEqDiff, Cells.get, getN, reduceCtorEq, pp, pv, pw, pg, d80, g1]
 refine W.mono (hc d s r bv bs bad hDc lc h hB hl hG) ?_
 rintro ⟨v1, s1⟩ ⟨bv1, R1, I1, X1, b1⟩
 simp only at R1 I1 X1 b1
 have R1 : v1 = _ := R1
 subst R1
 have hrg := Wa (size := 2) (most := 4096) (bs, bad) hB (by decide) (by decide)
 obtain ⟨k, hk⟩ := (zA 2 4096).suf (bs, bad)
 obtain ⟨st1, hst1⟩ : ∃ st1, st1 = (rdN 2 4096 (bs, bad)).2 := ⟨_, rfl⟩
 obtain ⟨N, hN⟩ : ∃ N : Nat, ((N : Nat) : Int) = (rdN 2 4096 (bs, bad)).1 := ⟨(rdN 2 4096 (bs, bad)).1.toNat, Int.toNat_of_nonneg hrg.1⟩
 have htot : Ze rd N [] st1 = rdL rd (bs, bad) := by
  unfold rdL
  rw [← hN, Int.toNat_natCast, hst1]
 rw [← hN] at hrg ⊢
 rw [← hst1] at I1 hk
 simp only [sA]
 refine zY (HW R s r f1 bv rd bs.length (rdL rd (bs, bad))) N (by omega) ⟨[], st1, .slice none 0 0, bv1, [], rfl, ?_, SlC.nil, zW.nil, KP.nil, by simp [blk], I1, b1, X1, X1.good hG, by rw [hk]; exact hB.drop k, by rw [hk]; simp, htot, by simp; omega⟩ ?_
 · simp only [sA, Nat.reduceEqDiff, reduceCtorEq]
 rintro m ⟨t, S, ds⟩ hm ⟨l, st, lv, bv2, vs, hds, ⟨t0, t2, t5, t6⟩, sk, ok, rr, bk, I2, b2, X2, G2, hB2, hL2, htot2, hlen⟩
 simp only at hds t0 t2 t5 t6 sk rr bk I2 X2 G2
 subst hds
 have gr := I2.gr
 have le2 := X2.le
 have g2S := X2.keep g2 (by simp; exact l2)
 have done : Ze rd m l st = (l, st) → Q (lv, S) := fun he => by
  rw [← htot2, he] at hQ
  exact hQ _ ⟨bv2, ⟨vs, sk, ok, rr, bk⟩, I2, X2, b2⟩
 cases m with
 | zero =>
  have := done rfl
  have e0 : ¬ (0 : Int) < ((0 : Nat) : Int) := by omega
  simp only [sA, zb, zl, zm, Nat.reduceEqDiff, za, zd, t0, t2, t5, t6, e0]
  exact this
 | succ m =>
  have e1 : (0 : Int) < ((m + 1 : Nat) : Int) := by omega
  cases hst : st.2 with
  | true =>
   have := done (Qm _ _ _ hst)
   rw [hst] at gr
   simp only [sA, zb, zl, zm, Nat.reduceEqDiff, za, zd, Cells.get, getN, reduceCtorEq, t0, t2, t5, t6, gr, e1]
   exact this
  | false =>
   rw [hst] at gr I2
   have hl2 := DS.get_lt' gr
   simp only [sA, zb, zl, zm, Nat.reduceEqDiff, Cells.get, getN, reduceCtorEq, t0, t2, t5, t6, gr, e1, g2S]
   refine W.mono (hf d S r bv2 st.1 false (hDf.keep X2 fun p hp => by simp; exact lf p hp) lf I2 hB2 (by omega) G2) ?_
   rintro ⟨v3, s3⟩ ⟨bv3, R3, I3, X3, b3⟩
   simp only at R3 I3 X3 b3
   have hstE : (st.1, false) = st := Prod.ext rfl hst.symm
   rw [hstE] at R3 I3
   obtain ⟨x, hx⟩ : ∃ x, x = (rd st).1 := ⟨_, rfl⟩
   rw [← hx] at R3
   have hv3 := hsh _ _ _ _ R3
   obtain ⟨xa, xb, xq, xs, xn, xc, hv3⟩ := hv3
   subst hv3
   have le3 := X3.le
   have G3 := X3.good G2
   obtain ⟨k3, hk3⟩ := oR.suf st
   obtain ⟨alv, clv, hlv⟩ := sk.shape
   simp (maxDischargeDepth := 8) only [sA, sM, Nat.reduceAdd, Nat.reduceLeDiff, zg, repeatZ, Nat.reduceMul, Nat.reduceLT, G3]
   obtain ⟨row, hrow⟩ : ∃ row : List Value, row = [.int .i64 xa, .int .i64 xb, .bool xq, .slice xs xn xc] := ⟨_, rfl⟩
   rw [← hrow] at R3 ⊢
   obtain ⟨S1, hS1⟩ : ∃ S1 : DS, S1 = s3.new (.cells (.list row) false) := ⟨_, rfl⟩
   rw [← hS1]
   have X4 : ∀ F, Ext F s3 S1 := fun F => by rw [hS1]; exact Ext.new
   have n4 : S1.next = s3.next + 1 := by rw [hS1]; rfl
   have g4 : S1.get s3.next = some (.cells (.list row) false) := by rw [hS1]; exact DS.new_get_self G3
   have hw : SlV S1 4 (.slice (some ⟨s3.next, 0, none⟩) 1 1) [row] := .inr ⟨s3.next, 0, none, 1, rfl, by unfold DS.read; rw [g4, hrow]; simp only [List.length_cons, List.length_nil, List.flatten_cons, List.flatten_nil, List.append_nil]; rfl⟩
   have ok1 : zW 4 [row] := ⟨fun y hy => by rw [List.mem_singleton.1 hy, hrow]; rfl, fun y hy => by rw [List.mem_singleton.1 hy, hrow]; rfl⟩
   have hvl := rr.len
   have hblk3 := hblk _ _ _ _ R3
   have bkS : ∀ k, k ∈ blk lv → k < S.next := fun k hk => sk.lt k hk
   refine W.mono (VB ((sk.keep X3 fun k hk => by have := bk k hk; simp; omega).keep (X4 []) (by simp)) hw ok ok1 ((X4 []).good G3) (by rw [hvl]; simp; omega) (by rw [hvl]; simp; omega)) ?_
   rintro ⟨lv4, S4⟩ ⟨sk4, X5, b5, _⟩
   simp only at sk4 X5 b5
   have w2 : zf .i64 (((m + 1 : Nat) : Int) - 1) = (m : Int) := by rw [zi (by omega) (by omega)]; omega
   simp only [sA, zl, zm, Nat.reduceEqDiff, t0, t2, t5, t6, w2]
   have X6 : Ext [r] s S4 := ((X2.trans' X3).trans' (X4 _)).trans X5 fun k hk => .inr (bk k hk)
   have hblt : ∀ k, k ∈ blk bv3 → k < s.next := fun k hk => h.sl.lt k (b2 k (b3 k hk))
   refine ⟨m, by omega, ⟨l ++ [x], (rd st).2, lv4, bv3, vs ++ [row], rfl, by simp only [sA, Nat.reduceEqDiff, reduceCtorEq, t0, t2], sk4, ok.append ok1, ?_, fun k hk => ?_, (I3.keep (X4 []) (by simp) (by simp)).keep X5 (fun hk => by have := bk _ hk; omega) (fun k hk hk2 => by have := bk _ hk2; have := hblt _ hk; omega), fun k hk => b2 k (b3 k hk), X6, X6.good hG, by rw [hk3]; exact hB2.drop k3, by rw [hk3]; simp; omega, ?_, by simp; omega⟩⟩
   · have h3 := rr.step (s' := s3) (lv' := lv) hloc (fun k k1 k2 _ => X3.get k k2 (by simp; omega)) le3 (fun k _ h => h)
     have hb4 : ∀ k, k < s3.next → k ∉ blk lv → k ∉ blk lv4 := fun k k1 k2 hk => by
      rcases b5 k hk with h | h
      · exact k2 h
      · omega
     have h4 := h3.step (s' := S4) (lv' := lv4) hloc (fun k k1 k2 k3 => (X5.get k (by omega) k3).trans ((X4 []).get k k2 (by simp))) (by have := X5.le; omega) hb4
     refine h4.snoc (hmono _ _ _ _ _ (hloc _ _ _ _ _ R3 fun k hk => ?_) (by omega)) fun k hk => ?_
     · obtain ⟨k1, k2⟩ := hblk3 k hk
       exact (X5.get k (by omega) (fun h => by have := bkS k h; omega)).trans ((X4 []).get k k2 (by simp))
     · obtain ⟨k1, k2⟩ := hblk3 k hk
       exact ⟨hb4 k k2 (fun h => by have := bkS k h; omega), by omega, by have := X5.le; omega⟩
   · rcases b5 k hk with h | h
     · exact bk k h
     · omega
   · rw [← htot2, Ze, if_neg (by rw [hst]; simp), hx]
end Go.Dx.TbA
namespace Go.Dx.TbA
open Go Go.Dx Go.Proofs.YtffgmngdgkpflaaGreat
structure Vh (E : Env) : Prop where
 fbyte : E.fn 49 = some d49
 ibyte : E.intr 49 = none
 fint : E.fn 50 = some d50
 iint : E.intr 50 = none
 fbII : E.fn 48 = some d48
 ibII : E.intr 48 = none
 fbII2 : E.fn 84 = some d84
 ibII2 : E.intr 84 = none
 fbHB : E.fn 102 = some d102
 ibHB : E.intr 102 = none
 fbHB2 : E.fn 122 = some d122
 ibHB2 : E.intr 122 = none
 fbIH : E.fn 103 = some d103
 ibIH : E.intr 103 = none
 fbIH2 : E.fn 124 = some d124
 ibIH2 : E.intr 124 = none
 fbTT : E.fn 101 = some d101
 ibTT : E.intr 101 = none
 fbTT2 : E.fn 120 = some d120
 ibTT2 : E.intr 120 = none
 fflag : E.fn 52 = some d52
 iflag : E.intr 52 = none
 fflag2 : E.fn 89 = some d89
 iflag2 : E.intr 89 = none
 fturn : E.fn 87 = some d87
 iturn : E.intr 87 = none
 fturn2 : E.fn 117 = some d117
 iturn2 : E.intr 117 = none
 fform : E.fn 66 = some d66
 iform : E.intr 66 = none
 fFirstR : E.fn 118 = some d118
 iFirstR : E.intr 118 = none
 fDecR : E.fn 95 = some d95
 iDecR : E.intr 95 = none
 fDecRep : E.fn 54 = some d54
 iDecRep : E.intr 54 = none
 fmayR : E.fn 64 = some d64
 imayR : E.intr 64 = none
 fr : ∀ d, zG (dcall E d)
abbrev FT := ((Int × Int) × Bool) × (Int × (Int × Int))
def Cg : Nat → DS → Value → FT → Prop := YF (YF (YF YA YA) Fl) (YF YA (YF YA YA))
def Xz : RS → FT × RS := rdP (rdP (rdP (rdN 1 255) (rdN 8 0)) rdF) (rdP (rdN 1 255) (rdP (rdN 8 0) (rdN 8 0)))
theorem Sg : XM Xz := ZV (ZV (ZV (zA _ _) (zA _ _)) Qn) (ZV (zA _ _) (ZV (zA _ _) (zA _ _)))
def tdV (x : FT) : List Value := [.int .i64 x.1.1.1, .int .i64 x.1.1.2, .bool x.1.2, .int .i64 x.2.1, .int .i64 x.2.2.1, .int .i64 x.2.2.2]
theorem Ru (o : Nat) (s : DS) (v : Value) (x : Int × Int) (h : YF YA YA o s v x) : v = .agg ⟨[.int .i64 x.1, .int .i64 x.2]⟩ := by
 obtain ⟨a, b, e, h1, h2⟩ := h
 have h1 : a = _ := h1
 have h2 : b = _ := h2
 subst h1 h2
 exact e
theorem Ho (o : Nat) (s : DS) (v : Value) (x : (Int × Int) × Bool) (h : YF (YF YA YA) Fl o s v x) : v = .agg ⟨[.int .i64 x.1.1, .int .i64 x.1.2, .bool x.2]⟩ := by
 obtain ⟨a, b, e, h1, h2⟩ := h
 have h1 := Ru _ _ _ _ h1
 have h2 : b = _ := h2
 subst h1 h2
 exact e
theorem Hn (o : Nat) (s : DS) (v : Value) (x : Int × (Int × Int)) (h : YF YA (YF YA YA) o s v x) : v = .agg ⟨[.int .i64 x.1, .int .i64 x.2.1, .int .i64 x.2.2]⟩ := by
 obtain ⟨a, b, e, h1, h2⟩ := h
 have h1 : a = _ := h1
 have h2 := Ru _ _ _ _ h2
 subst h1 h2
 exact e
theorem H9 (o : Nat) (s : DS) (v : Value) (x : FT) (h : Cg o s v x) : v = .agg ⟨tdV x⟩ := by
 obtain ⟨a, b, e, h1, h2⟩ := h
 have h1 := Ho _ _ _ _ h1
 have h2 := Hn _ _ _ _ h2
 subst h1 h2
 exact e
section
variable {E : Env} (hC : QE E) (hG' : GM E) (hR : Vh E) {s : DS} {d : Nat}
include hC hG' hR
theorem No (hG : s.Good) : W (dcall E (d + 3) (.func (.func 66) #[] #[]) [] s) fun r => zO E 6 s.next r.2 r.1 Cg Xz ∧ Ext [] s r.2 := by
 refine zr fun Q hQ => ?_
 rw [zh hR.iform hR.fform rfl]
 simp (maxDischargeDepth := 8) only [sA, pp, d66, hG]
 have h0 : ∀ o, (s.new o).get s.next = some o := fun o => DS.new_get_self hG
 have w0 : (s.new (.cells (.list [.nilFunc, .nilFunc]) false)).wr s.next = true := (hG _ (Nat.le_refl _)).2
 refine W.mono (Qp hG' hC (m := s.next + 1) (DS.new_good hG) (Nat.le_refl _) hR.fbyte hR.ibyte) ?_
 rintro ⟨v1, s1⟩ ⟨q1, X1⟩
 simp only at q1 X1
 have hG1 := X1.good (DS.new_good hG)
 have l1 : s.next + 1 ≤ s1.next := X1.le
 simp only [sA]
 refine W.mono (XT hG' hC (m := s.next + 1) hG1 l1 hR.fint hR.iint) ?_
 rintro ⟨v2, s2⟩ ⟨q2, X2⟩
 simp only at q2 X2
 have hG2 := X2.good hG1
 have l2 := Nat.le_trans l1 X2.le
 simp only [sA, Nat.reduceEqDiff]
 refine W.mono (WP hG' hC l2 hG2 (q1.keep X2) q2 hR.fbII hR.ibII fun ha hb => JS ha hb Zp Zp (zA _ _) (fun _ _ _ x h => ⟨x, h⟩) (fun _ _ _ x h => ⟨x, h⟩) hR.fbII2 hR.ibII2) ?_
 rintro ⟨v3, s3⟩ ⟨q3, X3⟩
 simp only at q3 X3
 have hG3 := X3.good hG2
 have l3 := Nat.le_trans l2 X3.le
 simp only [sA]
 refine W.mono (K3 hG' hC hG3 l3 hR.fflag hR.iflag hR.fturn hR.iturn hR.fturn2 hR.iturn2 hR.fflag2 hR.iflag2 hR.fr) ?_
 rintro ⟨v4, s4⟩ ⟨q4, X4⟩
 simp only at q4 X4
 have hG4 := X4.good hG3
 have l4 := Nat.le_trans l3 X4.le
 simp only [sA, Nat.reduceEqDiff]
 refine W.mono (GG hG' hC l4 hG4 (q3.keep X4) q4 hR.fbHB hR.ibHB fun ha hb => CQ ha hb (WB Zp Zp) J5 (ZV (zA _ _) (zA _ _)) (fun _ _ _ x h => ⟨_, _, Ru _ _ _ _ h⟩) (fun _ _ _ x h => ⟨x, h⟩) (fun _ _ _ _ _ h _ => h) hR.fr hR.fbHB2 hR.ibHB2) ?_
 rintro ⟨v5, s5⟩ ⟨q5, X5⟩
 simp only at q5 X5
 have hG5 := X5.good hG4
 have l5 := Nat.le_trans l4 X5.le
 simp only [sA]
 refine W.mono (Qp hG' hC (m := s.next + 1) hG5 l5 hR.fbyte hR.ibyte) ?_
 rintro ⟨v6, s6⟩ ⟨q6, X6⟩
 simp only at q6 X6
 have hG6 := X6.good hG5
 have l6 := Nat.le_trans l5 X6.le
 simp only [sA]
 refine W.mono (XT hG' hC (m := s.next + 1) hG6 l6 hR.fint hR.iint) ?_
 rintro ⟨v7, s7⟩ ⟨q7, X7⟩
 simp only at q7 X7
 have hG7 := X7.good hG6
 have l7 := Nat.le_trans l6 X7.le
 simp only [sA]
 refine W.mono (XT hG' hC (m := s.next + 1) hG7 l7 hR.fint hR.iint) ?_
 rintro ⟨v8, s8⟩ ⟨q8, X8⟩
 simp only at q8 X8
 have hG8 := X8.good hG7
 have l8 := Nat.le_trans l7 X8.le
 simp only [sA, Nat.reduceEqDiff]
 refine W.mono (WP hG' hC l8 hG8 (q7.keep X8) q8 hR.fbII hR.ibII fun ha hb => JS ha hb Zp Zp (zA _ _) (fun _ _ _ x h => ⟨x, h⟩) (fun _ _ _ x h => ⟨x, h⟩) hR.fbII2 hR.ibII2) ?_
 rintro ⟨v9, s9⟩ ⟨q9, X9⟩
 simp only at q9 X9
 have hG9 := X9.good hG8
 have l9 := Nat.le_trans l8 X9.le
 simp only [sA, Nat.reduceEqDiff]
 refine W.mono (GF hG' hC l9 hG9 ((q6.keep (X7.trans' (X8.trans' X9))).mono (show 3 ≤ 4 by omega)) q9 hR.fbIH hR.ibIH fun ha hb => CO ha hb Zp (WB Zp Zp) (zA _ _) (fun _ _ _ x h => ⟨x, h⟩) (fun _ _ _ x h => ⟨_, _, Ru _ _ _ _ h⟩) hR.fbIH2 hR.ibIH2) ?_
 rintro ⟨va, sa⟩ ⟨qa, Xa⟩
 simp only at qa Xa
 have hGa := Xa.good hG9
 have la := Nat.le_trans l9 Xa.le
 have X5a := X6.trans' (X7.trans' (X8.trans' (X9.trans' Xa)))
 simp only [sA, Nat.reduceEqDiff]
 refine W.mono (GH hG' hC la hGa (q5.keep X5a) qa hR.fbTT hR.ibTT fun ha hb => CS ha hb (WB (WB Zp Zp) J5) (WB Zp (WB Zp Zp)) (ZV (ZV (zA _ _) (zA _ _)) Qn) (fun _ _ _ x h => ⟨_, _, _, Ho _ _ _ _ h⟩) (fun _ _ _ x h => ⟨_, _, _, Hn _ _ _ _ h⟩) (fun _ _ _ _ _ h _ => h) hR.fr hR.fbTT2 hR.ibTT2) ?_
 rintro ⟨vb, sb⟩ ⟨qb, Xb⟩
 simp only at qb Xb
 have X0b := (X1.trans' (X2.trans' (X3.trans' (X4.trans' X5)))).trans' (X5a.trans' Xb)
 have g6 := X0b.keep (h0 _) (by simp)
 have w6 := X0b.wrs w0
 obtain ⟨f, a, b, g, a', b', D, rfl, k2, k3, k4⟩ := qb
 simp (maxDischargeDepth := 8) only [sA, sM, zo, za, zd, Cells.get, getN, Nat.reduceAdd, allOne, ze, DS.wrC, Cells.size, Cells.fillFrom, Cells.set, zk, DS.read, Cells.take, g6, w6]
 have XF : ∀ o, Ext [] s (sb.upd s.next o) := fun o => (Ext.new.trans' X0b).trans (Ext.upd (F := [s.next]) (.inl (by simp))) (by simp)
 refine hQ _ ⟨⟨f, a, b, g, a', b', D, rfl, fun p hp => ?_, fun p hp => ?_, k4⟩, XF _⟩
 · have := (k3 p hp).1
   simp (maxDischargeDepth := 8) only [sA, k2 p hp, show ¬ p.1 = s.next by omega]
 · have := k3 p hp
   simp (maxDischargeDepth := 8) only [DS.upd_next]
   omega
end
section
variable {E : Env} (hR : Vh E) {s : DS} {d : Nat} {bv : Value} {bs : List Int}
include hR
def nRd (bs : List Int) : Int := (bs.length : Int) - ((Xz (bs, false)).2.1.length : Int)
theorem Pb {m : Nat} {fv : Value} (hf : zO E 6 m s fv Cg Xz) (hv : SlR s bv bs) (hB : IsB bs) (hl : bs.length ≤ 1048576) (hG : s.Good) :
 W (dcall E (d + 7) (.func (.func 118) #[] #[]) [fv, bv] s) fun p => Ext [] s p.2 ∧ if (Xz (bs, false)).2.2 = true then p.1 = .tuple ⟨[.agg ⟨[.int .i64 0, .int .i64 0, .bool false, .int .i64 0, .int .i64 0, .int .i64 0]⟩, .int .i64 0, .int .i64 10]⟩
  else p.1 = .tuple ⟨[.agg ⟨tdV (Xz (bs, false)).1⟩, .int .i64 (nRd bs), .int .i64 0]⟩ := by
 obtain ⟨f, a, b, g, a', b', D, rfl, hD, hDb, hget⟩ := hf
 obtain ⟨ba, bc, hbv⟩ := hv.len
 have hvl := hv.lt
 refine zr fun Q hQ => ?_
 rw [zh hR.iFirstR hR.fFirstR rfl]
 subst hbv
 simp (maxDischargeDepth := 8) only [sA, sM, zb, zJ, Cells.get, getN, Nat.reduceAdd, Nat.reduceLeDiff, zg, pp, pv, pw, pg, Nat.reduceLT, d118, hG]
 obtain ⟨S1, hS1⟩ : ∃ S1 : DS, S1 = ((((s.new (.cells (.list [.func (.func f) a b, .func (.func g) a' b']) false)).new (.cells (.list [.int .i64 0, .int .i64 0, .bool false, .int .i64 0, .int .i64 0, .int .i64 0]) false)).new (.cells (.list [.int .i64 0, .int .i64 0, .bool false, .int .i64 0, .int .i64 0, .int .i64 0]) false)).new (.cells (.list [.slice ba bs.length bc, .bool false]) false)) := ⟨_, rfl⟩
 rw [← hS1]
 have X1 : ∀ F, Ext F s S1 := fun F => by rw [hS1]; exact Ext.new.trans' (Ext.new.trans' (Ext.new.trans' Ext.new))
 have n1 : S1.next = s.next + 4 := by rw [hS1]; rfl
 have gB : S1.get (s.next + 1) = some (.cells (.list [.int .i64 0, .int .i64 0, .bool false, .int .i64 0, .int .i64 0, .int .i64 0]) false) := by rw [hS1]; simp (maxDischargeDepth := 8) only [sM, Nat.reduceAdd, zU, Nat.reduceLT, hG]
 have gC : S1.get (s.next + 2) = some (.cells (.list [.int .i64 0, .int .i64 0, .bool false, .int .i64 0, .int .i64 0, .int .i64 0]) false) := by rw [hS1]; simp (maxDischargeDepth := 8) only [sM, Nat.reduceAdd, zU, hG]
 have gI : S1.get (s.next + 3) = some (.cells (.list [.slice ba bs.length bc, .bool false]) false) := by rw [hS1]; simp (maxDischargeDepth := 8) only [sM, Nat.reduceAdd, zU, hG]
 have G1 := (X1 []).good hG
 have w1 : ∀ k, S1.wr (s.next + k) = true := fun k => by rw [(X1 []).wr]; exact (hG _ (by omega)).2
 have I1 : XW S1 (s.next + 3) (.slice ba bs.length bc) bs false := ⟨gI, w1 3, hv.keep (X1 []) (by simp), fun h => by have := hvl _ h; omega⟩
 refine W.mono (hget d S1 (s.next + 3) _ bs false (hD.keep (X1 []) (by simp)) (fun p hp => by have := hDb p hp; omega) I1 hB hl G1) ?_
 rintro ⟨v2, s2⟩ ⟨bv2, R2, I2, X2, b2⟩
 simp only at R2 I2 X2 b2
 have R2 := H9 _ _ _ _ R2
 unfold tdV at R2 hQ
 subst R2
 have G2 := X2.good G1
 have le2 := X2.le
 have hB2 := X2.keep gB (by simp)
 have hC2 := X2.keep gC (by simp)
 have w2 : ∀ k, s2.wr (s.next + k) = true := fun k => X2.wrs (w1 k)
 have gr2 := I2.gr
 obtain ⟨a2, c2, hb2⟩ := I2.sl.len
 rw [hb2] at gr2
 obtain ⟨k, hk⟩ := Sg.suf (bs, false)
 have hrl : (Xz (bs, false)).2.1.length ≤ bs.length := by rw [hk]; simp
 have hn : zf .i64 ((bs.length : Int) - ((Xz (bs, false)).2.1.length : Int)) = nRd bs := zi (by omega) (by omega)
 have hn2 : ¬ (1048576 : Int) < nRd bs := by unfold nRd; omega
 have l1 : s.next + 1 < s2.next := by omega
 have l2 : s.next + 2 < s2.next := by omega
 have l3 : s.next + 3 < s2.next := by omega
 have U : ∀ o1 o2 o3 (F : List Nat), Ext ((s.next + 1) :: F) s2 (((s2.new o1).upd s2.next o2).upd (s.next + 1) o3) := fun o1 o2 o3 F => by
  have u1 : Ext ((s.next + 1) :: F) s2 (s2.new o1) := Ext.new
  have u2 : Ext [s2.next] (s2.new o1) ((s2.new o1).upd s2.next o2) := Ext.upd (.inl (by simp))
  have u3 : Ext ((s.next + 1) :: F) s2 ((s2.new o1).upd s2.next o2) := u1.trans u2 (by simp)
  have u4 : Ext ((s.next + 1) :: F) ((s2.new o1).upd s2.next o2) (((s2.new o1).upd s2.next o2).upd (s.next + 1) o3) := Ext.upd (.inl (List.mem_cons_self ..))
  exact u3.trans' u4
 have V : ∀ o1 o2 o3, Ext [] s (((s2.new o1).upd s2.next o2).upd (s.next + 1) o3) := fun o1 o2 o3 => ((X1 []).trans X2 (by simp)).trans (U o1 o2 o3 []) (by simp)
 simp only [sA, Nat.reduceEqDiff, Nat.reduceAdd, allOne, ze, DS.wrC, Cells.size, Cells.fillFrom, Cells.set]
 have hne : ¬ s2.next = s.next + 1 := by omega
 cases hbad : (Xz (bs, false)).2.2 with
 | true =>
  simp only [hbad, if_true] at hQ
  rw [hbad] at gr2
  simp (maxDischargeDepth := 8) only [sA, sM, zb, zl, zm, zo, za, zd, Cells.get, getN, Nat.reduceAdd, allOne, ze, DS.wrC, Cells.size, Cells.fillFrom, Cells.set, zk, ldA, DS.read, Cells.take, Nat.reduceLT, hB2, hC2, w2, gr2, hn, G2, l1, l2, l3]
  exact hQ _ ⟨V _ _ _, rfl⟩
 | false =>
  simp only [hbad, z3, if_false] at hQ
  rw [hbad] at gr2
  simp (maxDischargeDepth := 8) only [sA, sM, zb, zl, zm, zo, za, zd, Cells.get, getN, Nat.reduceAdd, allOne, ze, DS.wrC, Cells.size, Cells.fillFrom, Cells.set, zk, ldA, DS.read, Cells.take, Nat.reduceLT, hB2, hC2, w2, gr2, hn, hn2, G2, l1, l2, l3]
  exact hQ _ ⟨V _ _ _, rfl⟩
def GL (bs : List Int) : Prop := (Xz (bs, false)).2.2 = false ∧ (Xz (bs, false)).2.1 = []
theorem M7 {m : Nat} {fv : Value} (hf : zO E 6 m s fv Cg Xz) (hv : SlR s bv bs) (hB : IsB bs) (hl : bs.length ≤ 1048576) (hG : s.Good) :
 W (dcall E (d + 8) (.func (.func 95) #[] #[]) [fv, bv] s) fun p => Ext [] s p.2 ∧ ((¬ GL bs ∧ p.1 = .tuple ⟨[.agg ⟨[.int .i64 0, .int .i64 0, .bool false, .int .i64 0, .int .i64 0, .int .i64 0]⟩, .int .i64 10]⟩) ∨
  (GL bs ∧ p.1 = .tuple ⟨[.agg ⟨tdV (Xz (bs, false)).1⟩, .int .i64 0]⟩)) := by
 obtain ⟨f, a, b, g, a', b', D, rfl, hD, hDb, hget⟩ := hf
 obtain ⟨ba, bc, hbv⟩ := hv.len
 have hvl := hv.lt
 refine zr fun Q hQ => ?_
 rw [zh hR.iDecR hR.fDecR rfl]
 subst hbv
 simp (maxDischargeDepth := 8) only [sA, sM, Cells.get, getN, Nat.reduceAdd, pp, pv, ldA, DS.read, Cells.take, Nat.reduceLT, d95, hG]
 obtain ⟨S1, hS1⟩ : ∃ S1 : DS, S1 = (((s.new (.cells (.list [.func (.func f) a b, .func (.func g) a' b']) false)).new (.cells (.list [.int .i64 0, .int .i64 0, .bool false, .int .i64 0, .int .i64 0, .int .i64 0]) false)).new (.cells (.list [.int .i64 0, .int .i64 0, .bool false, .int .i64 0, .int .i64 0, .int .i64 0]) false)) := ⟨_, rfl⟩
 rw [← hS1]
 have X1 : ∀ F, Ext F s S1 := fun F => by rw [hS1]; exact Ext.new.trans' (Ext.new.trans' Ext.new)
 have n1 : S1.next = s.next + 3 := by rw [hS1]; rfl
 have gB : S1.get (s.next + 1) = some (.cells (.list [.int .i64 0, .int .i64 0, .bool false, .int .i64 0, .int .i64 0, .int .i64 0]) false) := by rw [hS1]; simp (maxDischargeDepth := 8) only [sM, Nat.reduceAdd, zU, hG]
 have gC : S1.get (s.next + 2) = some (.cells (.list [.int .i64 0, .int .i64 0, .bool false, .int .i64 0, .int .i64 0, .int .i64 0]) false) := by rw [hS1]; simp (maxDischargeDepth := 8) only [sM, Nat.reduceAdd, zU, hG]
 have G1 := (X1 []).good hG
 have w1 : ∀ k, S1.wr (s.next + k) = true := fun k => by rw [(X1 []).wr]; exact (hG _ (by omega)).2
 have hf1 : zO E 6 m S1 (.agg ⟨[.func (.func f) a b, .func (.func g) a' b']⟩) Cg Xz := zO.keep ⟨f, a, b, g, a', b', D, rfl, hD, hDb, hget⟩ (X1 [])
 refine W.mono (Pb hR (d := d) hf1 (hv.keep (X1 []) (by simp)) hB hl G1) ?_
 rintro ⟨v2, s2⟩ ⟨X2, hv2⟩
 simp only at X2 hv2
 have G2 := X2.good G1
 have le2 := X2.le
 have hB2 := X2.keep gB (by simp)
 have hC2 := X2.keep gC (by simp)
 have w2 : ∀ k, s2.wr (s.next + k) = true := fun k => X2.wrs (w1 k)
 obtain ⟨k, hk⟩ := Sg.suf (bs, false)
 have hrl : (Xz (bs, false)).2.1.length ≤ bs.length := by rw [hk]; simp
 have l1 : s.next + 1 < s2.next := by omega
 have l2 : s.next + 2 < s2.next := by omega
 have U : ∀ o1 o2 o3 (F : List Nat), Ext ((s.next + 1) :: F) s2 (((s2.new o1).upd s2.next o2).upd (s.next + 1) o3) := fun o1 o2 o3 F => by
  have u1 : Ext ((s.next + 1) :: F) s2 (s2.new o1) := Ext.new
  have u2 : Ext [s2.next] (s2.new o1) ((s2.new o1).upd s2.next o2) := Ext.upd (.inl (by simp))
  have u3 : Ext ((s.next + 1) :: F) s2 ((s2.new o1).upd s2.next o2) := u1.trans u2 (by simp)
  have u4 : Ext ((s.next + 1) :: F) ((s2.new o1).upd s2.next o2) (((s2.new o1).upd s2.next o2).upd (s.next + 1) o3) := Ext.upd (.inl (List.mem_cons_self ..))
  exact u3.trans' u4
 have V : ∀ o1 o2 o3, Ext [] s (((s2.new o1).upd s2.next o2).upd (s.next + 1) o3) := fun o1 o2 o3 => ((X1 []).trans' X2).trans (U o1 o2 o3 []) (by simp)
 have hne : ¬ s2.next = s.next + 1 := by omega
 cases hbad : (Xz (bs, false)).2.2 with
 | true =>
  simp only [hbad, if_true] at hv2
  subst hv2
  simp (maxDischargeDepth := 8) only [sA, sM, zb, zl, zm, zo, za, zd, Cells.get, getN, Nat.reduceAdd, allOne, ze, DS.wrC, Cells.size, Cells.fillFrom, Cells.set, zk, ldA, Int.reduceEq, DS.read, Cells.take, Nat.reduceLT, hB2, hC2, w2, G2, l1, l2]
  have hng : ¬ GL bs := fun h => by rw [h.1] at hbad; cases hbad
  exact hQ _ ⟨V _ _ _, .inl ⟨hng, rfl⟩⟩
 | false =>
  simp only [hbad, z3, if_false] at hv2
  unfold tdV at hv2 hQ
  subst hv2
  by_cases hr : (Xz (bs, false)).2.1 = []
  · have e1 : ¬ nRd bs < (bs.length : Int) := by unfold nRd; rw [hr]; simp
    simp (maxDischargeDepth := 8) only [sA, sM, zb, zl, zm, zo, za, zd, Cells.get, getN, Nat.reduceAdd, allOne, ze, DS.wrC, Cells.size, Cells.fillFrom, Cells.set, zk, ldA, DS.read, Cells.take, Nat.reduceLT, hB2, hC2, w2, G2, l1, l2, e1]
    exact hQ _ ⟨V _ _ _, .inr ⟨⟨hbad, hr⟩, rfl⟩⟩
  · have e1 : nRd bs < (bs.length : Int) := by
     have : 0 < (Xz (bs, false)).2.1.length := List.length_pos_iff.2 hr
     unfold nRd
     omega
    simp (maxDischargeDepth := 8) only [sA, sM, zb, zl, zm, zo, za, zd, Cells.get, getN, Nat.reduceAdd, allOne, ze, DS.wrC, Cells.size, Cells.fillFrom, Cells.set, zk, ldA, DS.read, Cells.take, Nat.reduceLT, hB2, hC2, w2, G2, l1, l2, e1]
    exact hQ _ ⟨V _ _ _, .inl ⟨fun h => hr h.2, rfl⟩⟩
end
end Go.Dx.TbA
namespace Go.Dx.TbA
open Go Go.Dx Go.Proofs.YtffgmngdgkpflaaGreat
abbrev zX := (Int × Int) × (Bool × List Int)
abbrev Kj : Nat → DS → Value → zX → Prop := YF (YF YA YA) Ci
def DU : RS → zX × RS := rdP (rdP (rdN 1 255) (rdN 8 0)) (rdP rdF rdB)
theorem Vs : XM DU := ZV (ZV (zA _ _) (zA _ _)) (ZV Qn Tp)
theorem W9 (n : Nat) (s : DS) (v : Value) (x : zX) (h : Kj n s v x) : ∃ w, v = .agg ⟨[.int .i64 x.1.1, .int .i64 x.1.2, .bool x.2.1, w]⟩ ∧ Dl n s w x.2.2 := by
 obtain ⟨a, b, e, h1, h2⟩ := h
 have h1 := Ru _ _ _ _ h1
 obtain ⟨p, q, e2, h3, h4⟩ := h2
 have h3 : p = _ := h3
 have hq := h4
 obtain ⟨b', n', c', h5⟩ := Jr _ _ _ _ h4
 subst h1 h3 h5
 subst e2
 exact ⟨_, e, hq⟩
theorem Ch (n : Nat) (s : DS) (w : Value) (x : zX) (h : Dl n s w x.2.2) : Kj n s (.agg ⟨[.int .i64 x.1.1, .int .i64 x.1.2, .bool x.2.1, w]⟩) x := by
 obtain ⟨b', n', c', h5⟩ := Jr _ _ _ _ h
 subst h5
 exact ⟨.agg ⟨[.int .i64 x.1.1, .int .i64 x.1.2]⟩, .agg ⟨[.bool x.2.1, .slice b' n' c']⟩, rfl, ⟨.int .i64 x.1.1, .int .i64 x.1.2, rfl, rfl, rfl⟩, ⟨.bool x.2.1, .slice b' n' c', rfl, rfl, h⟩⟩
theorem P7 (a b : Int) (q : Bool) (w : Value) : [Value.int .i64 a, .int .i64 b, .bool q, w].flatMap blk = blk w := by
 simp [blk]
theorem Fx : Mg Kj := by
 intro n s s' row x h e
 obtain ⟨w, h1, h2⟩ := W9 _ _ _ _ h
 injection h1 with h1
 injection h1 with h1
 subst h1
 rw [P7] at e
 exact Ch _ _ _ _ ⟨SlR.of' h2.1 e, h2.2⟩
theorem RN (n : Nat) (s : DS) (row : List Value) (x : zX) (h : Kj n s (.agg ⟨row⟩) x) : ∀ k, k ∈ row.flatMap blk → n ≤ k ∧ k < s.next := by
 obtain ⟨w, h1, h2⟩ := W9 _ _ _ _ h
 injection h1 with h1
 injection h1 with h1
 subst h1
 rw [P7]
 exact fun k hk => ⟨h2.2 k hk, h2.1.lt k hk⟩
theorem Gr (n n' : Nat) (s : DS) (v : Value) (x : zX) (h : Kj n s v x) (hn : n' ≤ n) : Kj n' s v x := by
 obtain ⟨w, h1, h2⟩ := W9 _ _ _ _ h
 subst h1
 exact Ch _ _ _ _ ⟨h2.1, fun k hk => Nat.le_trans hn (h2.2 k hk)⟩
theorem RM (n : Nat) (s : DS) (v : Value) (x : zX) (h : Kj n s v x) : ∃ a b q b' n' c, v = .agg ⟨[.int .i64 a, .int .i64 b, .bool q, .slice b' n' c]⟩ := by
 obtain ⟨w, h1, h2⟩ := W9 _ _ _ _ h
 obtain ⟨b', n', c', h5⟩ := Jr _ _ _ _ h2
 subst h5
 exact ⟨_, _, _, _, _, _, h1⟩
section
variable {E : Env} (hC : GM E) (hP : QE E) {s : DS} {d : Nat}
include hC hP
theorem Dh {α : Type} {n m : Nat} (hm : m ≤ s.next) {v : Value} {R : Nat → DS → Value → α → Prop} {rd : RS → α × RS}
 (hG : s.Good) (ha : zO E n m s v R rd) (hn : 3 ≤ n) (oR : XM rd) (hloc : Mg R) (hmono : ∀ n n' s v x, R n s v x → n' ≤ n → R n' s v x) (hblk : ∀ n s row x, R n s (.agg ⟨row⟩) x → ∀ k, k ∈ row.flatMap blk → n ≤ k ∧ k < s.next) (hsh : ∀ n s v x, R n s v x → ∃ a b q b' n' c, v = .agg ⟨[.int .i64 a, .int .i64 b, .bool q, .slice b' n' c]⟩) (hcode : E.fn 46 = some d46) (hintr : E.intr 46 = none) (hcode1 : E.fn 80 = some d80) (hintr1 : E.intr 80 = none) :
 W (dcall E (d + 2) (.func (.func 46) #[] #[]) [v] s) fun r => zO E (n + 1) m r.2 r.1 (MM 4 R) (rdL rd) ∧ Ext [] s r.2 := by
 obtain ⟨f1, a1, b1, g1, p1, q1, D1, rfl, h2, h3, h4⟩ := ha
 refine zr fun Q hQ => ?_
 rw [zh hintr hcode rfl]
 simp (maxDischargeDepth := 8) only [sA, sM, zb, zJ, Cells.get, getN, pp, d46, hG]
 obtain ⟨S, hS⟩ : ∃ S : DS, S = (s.new (.cells (.list [.func (.func f1) a1 b1, .func (.func g1) p1 q1]) false)).new (.cells (.list [.nilFunc, .nilFunc]) false) := ⟨_, rfl⟩
 rw [← hS]
 have XS : Ext [] s S := by rw [hS]; exact Ext.new.trans' Ext.new
 have nS : S.next = s.next + 2 := by rw [hS]; simp (maxDischargeDepth := 8) only [Nat.reduceAdd, zU, Nat.add_assoc]
 have hGS := XS.good hG
 have S0 : S.get s.next = some (.cells (.list [.func (.func f1) a1 b1, .func (.func g1) p1 q1]) false) := by rw [hS]; simp (maxDischargeDepth := 8) only [sM, zU, hG]
 have S1 : S.get (s.next + 1) = some (.cells (.list [.nilFunc, .nilFunc]) false) := by rw [hS]; simp (maxDischargeDepth := 8) only [sM, zU, hG]
 have wS : S.wr (s.next + 1) = true := XS.wrs (hG _ (by omega)).2
 refine W.mono (WK hP hGS 2 4096) ?_
 rintro ⟨v2, s2⟩ ⟨hv2, n1, n2, X2, hn2⟩
 simp only at hv2 n1 n2 X2 hn2
 subst hv2
 have hG2 := X2.good hGS
 have T1 := X2.keep S1 (by simp)
 have wT := X2.wrs wS
 have hlt : s.next + 1 < s2.next := by omega
 rw [nS] at n1 n2 hn2 ⊢
 simp (maxDischargeDepth := 8) only [sA, sM, zo, za, zd, Cells.get, getN, Nat.reduceAdd, allOne, ze, Nat.reduceLeDiff, DS.wrC, Cells.size, Cells.fillFrom, Cells.set, zk, zg, DS.read, Cells.take, Nat.reduceLT, hG2, T1, wT, hlt]
 refine hQ _ ⟨⟨_, _, _, _, _, _, (s2.next, .cells (.list [.func (.func 112) #[] #[.pointer (some ⟨s.next + 2, 0, none⟩), .pointer (some ⟨s.next + 3, 0, none⟩)], .func (.func 114) #[] #[.pointer (some ⟨s.next + 2, 0, none⟩), .pointer (some ⟨s.next + 3, 0, none⟩)]]) false) :: (s.next, .cells (.list [.func (.func f1) a1 b1, .func (.func g1) p1 q1]) false) :: ([(s.next + 2, .cells (.list [.int .i64 ((2 : Nat) : Int)]) false), (s.next + 3, .cells (.list [.int .i64 4096]) false)] ++ D1), rfl, ?_, ?_, RG ((Ka hC (b1 := s.next + 2) (b2 := s.next + 3) (size := 2) (most := 4096) (by omega) (by omega)).mono hn) h4 oR hloc hmono hblk hsh (by have := hC.lf; omega) hcode1 hintr1⟩, ?_⟩
 · intro p hp
   rcases List.mem_cons.1 hp with rfl | hp
   · simp (maxDischargeDepth := 8) only [sA, zR, hG2, show ¬ s2.next = s.next + 1 by omega]
   · rcases List.mem_cons.1 hp with rfl | hp
     · simp (maxDischargeDepth := 8) only [sA, sM, hG2, show ¬ s.next = s2.next by omega, show s.next < s2.next by omega, X2.keep S0 (by simp)]
     · rcases List.mem_append.1 hp with hp | hp
       · rcases List.mem_cons.1 hp with rfl | hp
         · simp (maxDischargeDepth := 8) only [sA, sM, hG2, show ¬ s.next + 2 = s2.next by omega, show s.next + 2 < s2.next by omega, n1]
           rfl
         · rcases List.mem_cons.1 hp with rfl | hp
           · simp (maxDischargeDepth := 8) only [sA, sM, Nat.reduceLT, hG2, show ¬ s.next + 3 = s2.next by omega, show s.next + 3 < s2.next by omega, n2]
           · cases hp
       · have h5 := h3 p hp
         have h6 := X2.keep (XS.keep (h2 p hp) (by simp)) (by simp)
         simp (maxDischargeDepth := 8) only [sA, Xo, hG2, show ¬ p.1 = s2.next by omega, show ¬ p.1 = s.next + 1 by omega, show p.1 < s2.next by omega, h6]
 · intro p hp
   have hfin : m ≤ p.1 ∧ p.1 < s2.next + 1 := by
    rcases List.mem_cons.1 hp with rfl | hp
    · show m ≤ s2.next ∧ s2.next < s2.next + 1; omega
    · rcases List.mem_cons.1 hp with rfl | hp
      · show m ≤ s.next ∧ s.next < s2.next + 1; omega
      · rcases List.mem_append.1 hp with hp | hp
        · rcases List.mem_cons.1 hp with rfl | hp
          · show m ≤ s.next + 2 ∧ s.next + 2 < s2.next + 1; omega
          · rcases List.mem_cons.1 hp with rfl | hp
            · show m ≤ s.next + 3 ∧ s.next + 3 < s2.next + 1; omega
            · cases hp
        · have h5 := h3 p hp; omega
   simp (maxDischargeDepth := 8) only [sA]
   exact hfin
 · have X3 := XS.trans' X2
   have X4 : Ext [s2.next, s.next + 1] s2 (((s2.new (.cells (.list [.nilFunc, .nilFunc]) false)).upd s2.next (.cells (.list [.func (.func 112) #[] #[.pointer (some ⟨s.next + 2, 0, none⟩), .pointer (some ⟨s.next + 3, 0, none⟩)], .func (.func 114) #[] #[.pointer (some ⟨s.next + 2, 0, none⟩), .pointer (some ⟨s.next + 3, 0, none⟩)]]) false)).upd (s.next + 1) (.cells (.list [.func (.func 79) #[] #[.pointer (some ⟨s2.next, 0, none⟩), .pointer (some ⟨s.next, 0, none⟩)], .func (.func 80) #[] #[.pointer (some ⟨s2.next, 0, none⟩), .pointer (some ⟨s.next, 0, none⟩)]]) false)) := Ext.new.trans' ((Ext.upd (.inl (by simp))).trans' (Ext.upd (.inl (by simp))))
   exact X3.trans X4 (by simp; omega)
structure Kw (E : Env) : Prop where
 fbFB : E.fn 51 = some d51
 ibFB : E.intr 51 = none
 fbFB2 : E.fn 86 = some d86
 ibFB2 : E.intr 86 = none
 fbLL : E.fn 47 = some d47
 ibLL : E.intr 47 = none
 fbLL2 : E.fn 82 = some d82
 ibLL2 : E.intr 82 = none
 fblob : E.fn 53 = some d53
 iblob : E.intr 53 = none
 fblob2 : E.fn 92 = some d92
 iblob2 : E.intr 92 = none
 fcloneB : E.fn 93 = some d93
 icloneB : E.intr 93 = none
 ftmany : E.fn 46 = some d46
 itmany : E.intr 46 = none
 ftmany2 : E.fn 80 = some d80
 itmany2 : E.intr 80 = none
 ftform : E.fn 24 = some d24
 itform : E.intr 24 = none
 fFirstT : E.fn 45 = some d45
 iFirstT : E.intr 45 = none
 fDecT : E.fn 23 = some d23
 iDecT : E.intr 23 = none
omit hC hP in
theorem Nh : Xe Ci := WB J5 SB
theorem Nn (hR : Vh E) (hF : Kw E) (hG : s.Good) : W (dcall E (d + 3) (.func (.func 24) #[] #[]) [] s) fun r => zO E 7 s.next r.2 r.1 (MM 4 Kj) (rdL DU) ∧ Ext [] s r.2 := by
 refine zr fun Q hQ => ?_
 rw [zh hF.itform hF.ftform rfl]
 simp (maxDischargeDepth := 8) only [sA, pp, d24, hG]
 have h0 : ∀ o, (s.new o).get s.next = some o := fun o => DS.new_get_self hG
 have w0 : (s.new (.cells (.list [.nilFunc, .nilFunc]) false)).wr s.next = true := (hG _ (Nat.le_refl _)).2
 refine W.mono (Qp hC hP (m := s.next + 1) (DS.new_good hG) (Nat.le_refl _) hR.fbyte hR.ibyte) ?_
 rintro ⟨v1, s1⟩ ⟨q1, X1⟩
 simp only at q1 X1
 have hG1 := X1.good (DS.new_good hG)
 have l1 : s.next + 1 ≤ s1.next := X1.le
 simp only [sA]
 refine W.mono (XT hC hP (m := s.next + 1) hG1 l1 hR.fint hR.iint) ?_
 rintro ⟨v2, s2⟩ ⟨q2, X2⟩
 simp only at q2 X2
 have hG2 := X2.good hG1
 have l2 := Nat.le_trans l1 X2.le
 simp only [sA, Nat.reduceEqDiff]
 refine W.mono (WP hC hP l2 hG2 (q1.keep X2) q2 hR.fbII hR.ibII fun ha hb => JS ha hb Zp Zp (zA _ _) (fun _ _ _ x h => ⟨x, h⟩) (fun _ _ _ x h => ⟨x, h⟩) hR.fbII2 hR.ibII2) ?_
 rintro ⟨v3, s3⟩ ⟨q3, X3⟩
 simp only at q3 X3
 have hG3 := X3.good hG2
 have l3 := Nat.le_trans l2 X3.le
 simp only [sA]
 refine W.mono (K3 hC hP hG3 l3 hR.fflag hR.iflag hR.fturn hR.iturn hR.fturn2 hR.iturn2 hR.fflag2 hR.iflag2 hR.fr) ?_
 rintro ⟨v4, s4⟩ ⟨q4, X4⟩
 simp only at q4 X4
 have hG4 := X4.good hG3
 have l4 := Nat.le_trans l3 X4.le
 simp only [sA]
 refine W.mono (CT hC hP hG4 l4 hF.fblob hF.iblob hF.fblob2 hF.iblob2 hF.fcloneB hF.icloneB) ?_
 rintro ⟨v5, s5⟩ ⟨q5, X5⟩
 simp only at q5 X5
 have hG5 := X5.good hG4
 have l5 := Nat.le_trans l4 X5.le
 simp only [sA, Nat.reduceEqDiff]
 refine W.mono (GY hC hP l5 hG5 (q4.keep X5) q5 hF.fbFB hF.ibFB fun ha hb => TL ha hb J5 SB Qn (fun _ _ _ x h => ⟨x, h⟩) Jr hF.fbFB2 hF.ibFB2) ?_
 rintro ⟨v6, s6⟩ ⟨q6, X6⟩
 simp only at q6 X6
 have hG6 := X6.good hG5
 have l6 := Nat.le_trans l5 X6.le
 have X36 := X4.trans' (X5.trans' X6)
 simp only [sA, Nat.reduceEqDiff]
 refine W.mono (GZ hC hP l6 hG6 ((q3.keep X36).mono (show 4 ≤ 5 by omega)) q6 hF.fbLL hF.ibLL fun ha hb => TN ha hb (WB Zp Zp) Nh (ZV (zA _ _) (zA _ _)) (fun _ _ _ x h => ⟨_, _, Ru _ _ _ _ h⟩) Ng Ni hR.fr hF.fbLL2 hF.ibLL2) ?_
 rintro ⟨v7, s7⟩ ⟨q7, X7⟩
 simp only at q7 X7
 have hG7 := X7.good hG6
 have l7 := Nat.le_trans l6 X7.le
 simp only [sA]
 refine W.mono (Dh hC hP l7 hG7 q7 (by omega) Vs Fx Gr RN RM hF.ftmany hF.itmany hF.ftmany2 hF.itmany2) ?_
 rintro ⟨v8, s8⟩ ⟨q8, X8⟩
 simp only at q8 X8
 have X08 := (X1.trans' (X2.trans' X3)).trans' (X36.trans' (X7.trans' X8))
 have g6 := X08.keep (h0 _) (by simp)
 have w6 := X08.wrs w0
 obtain ⟨f, a, b, g, a', b', D, rfl, k2, k3, k4⟩ := q8
 simp (maxDischargeDepth := 8) only [sA, sM, zo, za, zd, Cells.get, getN, Nat.reduceAdd, allOne, ze, DS.wrC, Cells.size, Cells.fillFrom, Cells.set, zk, DS.read, Cells.take, g6, w6]
 have XF : ∀ o, Ext [] s (s8.upd s.next o) := fun o => (Ext.new.trans' X08).trans (Ext.upd (F := [s.next]) (.inl (by simp))) (by simp)
 refine hQ _ ⟨⟨f, a, b, g, a', b', D, rfl, fun p hp => ?_, fun p hp => ?_, k4⟩, XF _⟩
 · have := (k3 p hp).1
   simp (maxDischargeDepth := 8) only [sA, k2 p hp, show ¬ p.1 = s.next by omega]
 · have := k3 p hp
   simp (maxDischargeDepth := 8) only [DS.upd_next]
   omega
end
end Go.Dx.TbA
namespace Go.Dx.TbA
open Go Go.Dx Go.Proofs.YtffgmngdgkpflaaGreat
def rdT : RS → List zX × RS := rdL DU
theorem PK : XM rdT := LQ Vs
def TD : Nat → DS → Value → List zX → Prop := MM 4 Kj
theorem Fw (n n' : Nat) (s : DS) (v : Value) (x : List zX) (h : TD n s v x) (hn : n' ≤ n) : TD n' s v x := by
 obtain ⟨vs, h1, h2, h3, h4⟩ := h
 exact ⟨vs, h1, h2, ⟨h3.len, fun i row x a b => ⟨Gr _ _ _ _ _ (h3.at_ i row x a b).1 hn, fun k hk => ⟨((h3.at_ i row x a b).2 k hk).1, Nat.le_trans hn ((h3.at_ i row x a b).2 k hk).2.1, ((h3.at_ i row x a b).2 k hk).2.2⟩⟩⟩, fun k hk => Nat.le_trans hn (h4 k hk)⟩
def D3 (bs : List Int) : Int := (bs.length : Int) - ((rdT (bs, false)).2.1.length : Int)
section
variable {E : Env} (hF : Kw E) {s : DS} {d : Nat} {bv : Value} {bs : List Int}
include hF
theorem Pa {m : Nat} {fv : Value} (hf : zO E 7 m s fv TD rdT) (hv : SlR s bv bs) (hB : IsB bs) (hl : bs.length ≤ 1048576) (hG : s.Good) :
 W (dcall E (d + 8) (.func (.func 45) #[] #[]) [fv, bv] s) fun p => Ext [] s p.2 ∧ if (rdT (bs, false)).2.2 = true then p.1 = .tuple ⟨[.slice none 0 0, .int .i64 0, .int .i64 10]⟩
  else ∃ lv, p.1 = .tuple ⟨[lv, .int .i64 (D3 bs), .int .i64 0]⟩ ∧ TD s.next p.2 lv (rdT (bs, false)).1 := by
 obtain ⟨f, a, b, g, a', b', D, rfl, hD, hDb, hget⟩ := hf
 obtain ⟨ba, bc, hbv⟩ := hv.len
 have hvl := hv.lt
 refine zr fun Q hQ => ?_
 rw [zh hF.iFirstT hF.fFirstT rfl]
 subst hbv
 simp (maxDischargeDepth := 8) only [sA, sM, zb, zJ, Cells.get, getN, Nat.reduceAdd, Nat.reduceLeDiff, zg, pp, pv, pw, pg, Nat.reduceLT, d45, hG]
 obtain ⟨S1, hS1⟩ : ∃ S1 : DS, S1 = (s.new (.cells (.list [.func (.func f) a b, .func (.func g) a' b']) false)).new (.cells (.list [.slice ba bs.length bc, .bool false]) false) := ⟨_, rfl⟩
 rw [← hS1]
 have X1 : ∀ F, Ext F s S1 := fun F => by rw [hS1]; exact Ext.new.trans' Ext.new
 have n1 : S1.next = s.next + 2 := by rw [hS1]; rfl
 have gI : S1.get (s.next + 1) = some (.cells (.list [.slice ba bs.length bc, .bool false]) false) := by rw [hS1]; simp (maxDischargeDepth := 8) only [sM, zU, hG]
 have G1 := (X1 []).good hG
 have w1 : S1.wr (s.next + 1) = true := by rw [(X1 []).wr]; exact (hG _ (by omega)).2
 have I1 : XW S1 (s.next + 1) (.slice ba bs.length bc) bs false := ⟨gI, w1, hv.keep (X1 []) (by simp), fun h => by have := hvl _ h; omega⟩
 refine W.mono (hget d S1 (s.next + 1) _ bs false (hD.keep (X1 []) (by simp)) (fun p hp => by have := hDb p hp; omega) I1 hB hl G1) ?_
 rintro ⟨v2, s2⟩ ⟨bv2, R2, I2, X2, b2⟩
 simp only at R2 I2 X2 b2
 have gr2 := I2.gr
 obtain ⟨a2, c2, hb2⟩ := I2.sl.len
 rw [hb2] at gr2
 obtain ⟨k, hk⟩ := PK.suf (bs, false)
 have hrl : (rdT (bs, false)).2.1.length ≤ bs.length := by rw [hk]; simp
 have hn : zf .i64 ((bs.length : Int) - ((rdT (bs, false)).2.1.length : Int)) = D3 bs := zi (by omega) (by omega)
 have hn2 : ¬ (1048576 : Int) < D3 bs := by unfold D3; omega
 have V : Ext [] s s2 := (X1 []).trans X2 (by simp)
 simp only [sA, zb, Nat.reduceEqDiff, Cells.get]
 cases hbad : (rdT (bs, false)).2.2 with
 | true =>
  simp only [hbad, if_true] at hQ
  rw [hbad] at gr2
  simp (maxDischargeDepth := 8) only [sA, sM, zb, zl, zm, za, zd, Cells.get, getN, Nat.reduceLT, gr2, hn]
  exact hQ _ ⟨V, rfl⟩
 | false =>
  simp only [hbad, z3, if_false] at hQ
  rw [hbad] at gr2
  simp (maxDischargeDepth := 8) only [sA, sM, zb, zl, zm, za, zd, Cells.get, getN, Nat.reduceLT, gr2, hn, hn2]
  exact hQ _ ⟨V, v2, rfl, Fw _ _ _ _ _ R2 (by omega)⟩
def KA (bs : List Int) : Prop := (rdT (bs, false)).2.2 = false ∧ (rdT (bs, false)).2.1 = []
theorem M6 {m : Nat} {fv : Value} (hf : zO E 7 m s fv TD rdT) (hv : SlR s bv bs) (hB : IsB bs) (hl : bs.length ≤ 1048576) (hG : s.Good) :
 W (dcall E (d + 9) (.func (.func 23) #[] #[]) [fv, bv] s) fun p => Ext [] s p.2 ∧ ((¬ KA bs ∧ p.1 = .tuple ⟨[.slice none 0 0, .int .i64 10]⟩) ∨
  (KA bs ∧ ∃ lv, p.1 = .tuple ⟨[lv, .int .i64 0]⟩ ∧ TD s.next p.2 lv (rdT (bs, false)).1)) := by
 obtain ⟨f, a, b, g, a', b', D, rfl, hD, hDb, hget⟩ := hf
 obtain ⟨ba, bc, hbv⟩ := hv.len
 refine zr fun Q hQ => ?_
 rw [zh hF.iDecT hF.fDecT rfl]
 subst hbv
 simp (maxDischargeDepth := 8) only [sA, sM, Cells.get, getN, pp, pv, ldA, DS.read, Cells.take, Nat.reduceLT, d23, hG]
 obtain ⟨S1, hS1⟩ : ∃ S1 : DS, S1 = s.new (.cells (.list [.func (.func f) a b, .func (.func g) a' b']) false) := ⟨_, rfl⟩
 rw [← hS1]
 have X1 : Ext [] s S1 := by rw [hS1]; exact Ext.new
 have n1 : S1.next = s.next + 1 := by rw [hS1]; rfl
 have G1 := X1.good hG
 have hf1 : zO E 7 m S1 (.agg ⟨[.func (.func f) a b, .func (.func g) a' b']⟩) TD rdT := zO.keep ⟨f, a, b, g, a', b', D, rfl, hD, hDb, hget⟩ X1
 refine W.mono (Pa hF (d := d) hf1 (hv.keep X1 (by simp)) hB hl G1) ?_
 rintro ⟨v2, s2⟩ ⟨X2, hv2⟩
 simp only at X2 hv2
 obtain ⟨k, hk⟩ := PK.suf (bs, false)
 have V : Ext [] s s2 := X1.trans' X2
 cases hbad : (rdT (bs, false)).2.2 with
 | true =>
  simp only [hbad, if_true] at hv2
  subst hv2
  simp (maxDischargeDepth := 8) only [sA, sM, zb, zl, zm, za, zd, getN, Int.reduceEq, Nat.reduceLT]
  have hng : ¬ KA bs := fun h => by rw [h.1] at hbad; cases hbad
  exact hQ _ ⟨V, .inl ⟨hng, rfl⟩⟩
 | false =>
  simp only [hbad, z3, if_false] at hv2
  obtain ⟨lv, hv2, hlv⟩ := hv2
  subst hv2
  by_cases hr : (rdT (bs, false)).2.1 = []
  · have e1 : ¬ D3 bs < (bs.length : Int) := by unfold D3; rw [hr]; simp
    simp (maxDischargeDepth := 8) only [sA, sM, zb, zl, zm, za, zd, getN, Nat.reduceLT, e1]
    exact hQ _ ⟨V, .inr ⟨⟨hbad, hr⟩, _, rfl, Fw _ _ _ _ _ hlv (by omega)⟩⟩
  · have e1 : D3 bs < (bs.length : Int) := by
     have : 0 < (rdT (bs, false)).2.1.length := List.length_pos_iff.2 hr
     unfold D3
     omega
    simp (maxDischargeDepth := 8) only [sA, sM, zb, zl, zm, za, zd, getN, Nat.reduceLT, e1]
    exact hQ _ ⟨V, .inl ⟨fun h => hr h.2, rfl⟩⟩
end
end Go.Dx.TbA
namespace Go.Dx.TbA
open Go Go.Dx Go.Dx.Tab Go.Proofs.YtffgmngdgkpflaaGreat
def Rv (x : FT) : Rp := ⟨x.1.1.1, x.1.1.2, x.1.2, x.2.1, x.2.2.1, x.2.2.2⟩
def Jd (bs : List Int) : Prop := GL bs ∧ ZR (Rv (Xz (bs, false)).1)
section
variable {E : Env} (hC : QE E) (hG' : GM E) (hR : Vh E) (hT : Jx E) {s : DS} {d : Nat} {bv : Value} {bs : List Int}
include hC hG' hR hT
theorem Pd (hv : SlR s bv bs) (hB : IsB bs) (hl : bs.length ≤ 1048576) (hG : s.Good) :
 W (dcall E (d + 9) (.func (.func 54) #[] #[]) [bv] s) fun p => Ext [] s p.2 ∧ ((¬ Jd bs ∧ p.1 = .tuple ⟨[.agg ⟨[.int .i64 0, .int .i64 0, .bool false, .int .i64 0, .int .i64 0, .int .i64 0]⟩, .int .i64 10]⟩) ∨
  (Jd bs ∧ p.1 = .tuple ⟨[.agg ⟨(Rv (Xz (bs, false)).1).cells⟩, .int .i64 0]⟩)) := by
 obtain ⟨ba, bc, hbv⟩ := hv.len
 have hvl := hv.lt
 refine zr fun Q hQ => ?_
 rw [zh hR.iDecRep hR.fDecRep rfl]
 simp (maxDischargeDepth := 8) only [sA, pp, pv, pg, d54, hG]
 obtain ⟨S1, hS1⟩ : ∃ S1 : DS, S1 = s.new (.cells (.list [.int .i64 0, .int .i64 0, .bool false, .int .i64 0, .int .i64 0, .int .i64 0]) false) := ⟨_, rfl⟩
 rw [← hS1]
 have X1 : Ext [] s S1 := by rw [hS1]; exact Ext.new
 have G1 := X1.good hG
 have g1 : S1.get s.next = some (.cells (.list [.int .i64 0, .int .i64 0, .bool false, .int .i64 0, .int .i64 0, .int .i64 0]) false) := by rw [hS1]; exact DS.new_get_self hG
 have w1 : S1.wr s.next = true := X1.wrs (hG _ (Nat.le_refl _)).2
 refine W.mono (No hC hG' hR (d := d + 5) G1) ?_
 rintro ⟨v2, s2⟩ ⟨f2, X2⟩
 simp only at f2 X2
 have G2 := X2.good G1
 simp only [sA, Nat.reduceEqDiff, reduceCtorEq]
 refine W.mono (M7 hR (d := d) f2 ((hv.keep X1 (by simp)).keep X2 (by simp)) hB hl G2) ?_
 rintro ⟨v3, s3⟩ ⟨X3, h3⟩
 simp only at X3 h3
 have G3 := X3.good G2
 have g3 := X3.keep (X2.keep g1 (by simp)) (by simp)
 have w3 := X3.wrs (X2.wrs w1)
 have l3 := DS.get_lt' g3
 have X03 := (X1.trans' X2).trans' X3
 have U : ∀ o1 o2 o3 o4, Ext [] s3 ((((s3.new o1).upd s3.next o2).new o3).upd (s3.next + 1) o4) := fun o1 o2 o3 o4 => by
  have e1 : Ext [] s3 (s3.new o1) := Ext.new
  have e2 : Ext [s3.next] (s3.new o1) ((s3.new o1).upd s3.next o2) := Ext.upd (.inl (by simp))
  have e3 : Ext [] ((s3.new o1).upd s3.next o2) (((s3.new o1).upd s3.next o2).new o3) := Ext.new
  have e4 : Ext [s3.next + 1] (((s3.new o1).upd s3.next o2).new o3) ((((s3.new o1).upd s3.next o2).new o3).upd (s3.next + 1) o4) := Ext.upd (.inl (by simp))
  exact ((e1.trans e2 (by simp)).trans' e3).trans e4 (by simp)
 have hsn : s.next ≤ s3.next := by omega
 rcases h3 with ⟨hng, h3⟩ | ⟨hg, h3⟩
 · subst h3
   have hn : ¬ Jd bs := fun h => hng h.1
   simp (maxDischargeDepth := 8) only [sA, sM, zb, zl, zm, zo, za, zd, Cells.get, getN, Nat.reduceAdd, allOne, ze, Nat.reduceLeDiff, DS.wrC, Cells.size, Cells.fillFrom, Cells.set, zk, zg, Int.reduceEq, DS.read, Cells.take, Nat.reduceLT, g3, w3, G3, l3]
   exact hQ _ ⟨(X03.trans' (U _ _ _ _)).trans (Ext.upd (F := [s.next]) (.inl (by simp))) (by simp), .inl ⟨hn, rfl⟩⟩
 · unfold tdV at h3
   subst h3
   simp (maxDischargeDepth := 8) only [sA, sM, zb, zl, zm, Cells.get, getN, Nat.reduceAdd, allOne, ze, Nat.reduceLeDiff, DS.wrC, Cells.size, Cells.fillFrom, Cells.set, zk, zg, ldA, DS.read, Cells.take, Nat.reduceLT, g3, w3, G3, l3]
   obtain ⟨x, hx⟩ : ∃ x, x = (Xz (bs, false)).1 := ⟨_, rfl⟩
   rw [← hx] at hQ ⊢
   obtain ⟨S4, hS4⟩ : ∃ S4 : DS, S4 = ((((s3.new (.cells (.list [.int .i64 0, .int .i64 0, .bool false, .int .i64 0, .int .i64 0, .int .i64 0]) false)).upd s3.next (.cells (.list [.int .i64 x.1.1.1, .int .i64 x.1.1.2, .bool x.1.2, .int .i64 x.2.1, .int .i64 x.2.2.1, .int .i64 x.2.2.2]) false)).new (.cells (.list [.int .i64 0, .int .i64 0, .bool false, .int .i64 0, .int .i64 0, .int .i64 0]) false)).upd (s3.next + 1) (.cells (.list [.int .i64 x.1.1.1, .int .i64 x.1.1.2, .bool x.1.2, .int .i64 x.2.1, .int .i64 x.2.2.1, .int .i64 x.2.2.2]) false)) := ⟨_, rfl⟩
   rw [← hS4]
   have X4 : Ext [] s3 S4 := by rw [hS4]; exact U _ _ _ _
   have G4 := X4.good G3
   have gx : S4.get (s3.next + 1) = some (.cells (.list [.int .i64 x.1.1.1, .int .i64 x.1.1.2, .bool x.1.2, .int .i64 x.2.1, .int .i64 x.2.2.1, .int .i64 x.2.2.2]) false) := by rw [hS4]; simp (maxDischargeDepth := 8) only [sA, sM, G3]
   have g4 := X4.keep g3 (by simp)
   have w4 := X4.wrs w3
   refine W.mono (De hT (d := d + 5) G4 (Rv x)) ?_
   rintro ⟨v5, s5⟩ ⟨h5, X5⟩
   simp only at h5 X5
   subst h5
   have gx5 := X5.keep gx (by simp)
   have g5 := X5.keep g4 (by simp)
   have w5 := X5.wrs w4
   have X05 := (X03.trans' X4).trans' X5
   have XF : ∀ o, Ext [] s (s5.upd s.next o) := fun o => X05.trans (Ext.upd (F := [s.next]) (.inl (by simp))) (by simp)
   by_cases hm : ZR (Rv x)
   · rw [decide_eq_true hm]
     simp (maxDischargeDepth := 8) only [sA, sM, zb, zo, za, zd, Cells.get, getN, Nat.reduceAdd, allOne, ze, DS.wrC, Cells.size, Cells.fillFrom, Cells.set, zk, ldA, DS.read, Cells.take, Nat.reduceLT, gx5, g5, w5]
     exact hQ _ ⟨XF _, .inr ⟨⟨hg, by rw [← hx]; exact hm⟩, rfl⟩⟩
   · rw [decide_eq_false hm]
     simp (maxDischargeDepth := 8) only [sA, sM, zb, zo, za, zd, Cells.get, getN, Nat.reduceAdd, allOne, ze, DS.wrC, Cells.size, Cells.fillFrom, Cells.set, zk, zg, DS.read, Cells.take, Nat.reduceLT, gx5, g5, w5]
     exact hQ _ ⟨XF _, .inl ⟨fun h => hm (by rw [hx]; exact h.2), rfl⟩⟩
end
end Go.Dx.TbA
namespace Go.Dx.TbA
open Go Go.Dx Go.Dx.Tab Go.Proofs.YtffgmngdgkpflaaGreat
open Classical in
noncomputable def Vj (bs : List Int) : Rp := if Jd bs then Rv (Xz (bs, false)).1 else Rp.zero
def Wr (x : zX) : Prop := if x.2.1 = true then Jd x.2.2 ∧ (Vj x.2.2).c = x.1.1 ∧ (Vj x.2.2).n = x.1.2 else x.2.2 = [] ∧ Who x.1.1 x.1.2
noncomputable def rowOf (x : zX) : List Value := [.int .i64 x.1.2, .bool x.2.1] ++ (if x.2.1 = true then Vj x.2.2 else Rp.zero).cells
section
variable {E : Env} (hC : QE E) (hG' : GM E) (hR : Vh E) (hT : Jx E) {s : DS} {d : Nat} {w : Value} {x : zX}
include hC hG' hR hT
theorem Mw (hcode : E.fn 25 = some d25) (hintr : E.intr 25 = none) (hw : SlR s w x.2.2) (hB : IsB x.2.2) (hl : x.2.2.length ≤ 1048576) (hG : s.Good) :
 W (dcall E (d + 10) (.func (.func 25) #[] #[]) [.agg ⟨[.int .i64 x.1.1, .int .i64 x.1.2, .bool x.2.1, w]⟩] s) fun p => Ext [] s p.2 ∧ ∃ ok : Bool, p.1 = .tuple ⟨[.agg ⟨rowOf x⟩, .bool ok]⟩ ∧ (ok = true ↔ Wr x) := by
 obtain ⟨wa, wc, hwv⟩ := hw.len
 subst hwv
 obtain ⟨⟨c, n⟩, q, body⟩ := x
 simp only at hw hB hl ⊢
 refine zr fun Q hQ => ?_
 rw [zh hintr hcode rfl]
 obtain ⟨S3, hS3⟩ : ∃ S3 : DS, S3 = (((s.new (.cells (.list [.int .i64 c, .int .i64 n, .bool q, .slice wa body.length wc]) false)).new (.cells (.list [.int .i64 0, .bool false, .int .i64 0, .int .i64 0, .bool false, .int .i64 0, .int .i64 0, .int .i64 0]) false)).new (.cells (.list [.int .i64 0, .bool false, .int .i64 0, .int .i64 0, .bool false, .int .i64 0, .int .i64 0, .int .i64 0]) false)).upd (s.next + 2) (.cells (.list [.int .i64 n, .bool q, .int .i64 0, .int .i64 0, .bool false, .int .i64 0, .int .i64 0, .int .i64 0]) false) := ⟨_, rfl⟩
 have X3 : Ext [] s S3 := by
  rw [hS3]
  exact (Ext.new.trans' (Ext.new.trans' Ext.new)).trans (Ext.upd (F := [s.next + 2]) (.inl (by simp))) (by simp)
 have n3 : S3.next = s.next + 3 := by rw [hS3, DS.upd_next]; rfl
 have G3 := X3.good hG
 have gA : S3.get s.next = some (.cells (.list [.int .i64 c, .int .i64 n, .bool q, .slice wa body.length wc]) false) := by rw [hS3]; simp (maxDischargeDepth := 8) only [sA, sM, Nat.reduceAdd, hG]
 have gB : S3.get (s.next + 1) = some (.cells (.list [.int .i64 0, .bool false, .int .i64 0, .int .i64 0, .bool false, .int .i64 0, .int .i64 0, .int .i64 0]) false) := by rw [hS3]; simp (maxDischargeDepth := 8) only [sA, sM, Nat.reduceAdd, hG]
 have gC : S3.get (s.next + 2) = some (.cells (.list [.int .i64 n, .bool q, .int .i64 0, .int .i64 0, .bool false, .int .i64 0, .int .i64 0, .int .i64 0]) false) := by rw [hS3]; simp (maxDischargeDepth := 8) only [sA, sM, Nat.reduceAdd, hG]
 have wr3 : ∀ k, S3.wr (s.next + k) = true := fun k => X3.wrs (hG _ (Nat.le_add_right _ _)).2
 cases q with
 | false =>
  by_cases hb : body = []
  · subst hb
    have hl0 : (((0 : Nat) : Int) = 0) = True := eq_true rfl
    simp only [List.length_nil] at hS3 gA
    simp (maxDischargeDepth := 8) only [sA, sM, zb, zl, zm, Cells.get, getN, Nat.reduceAdd, allOne, ze, Nat.reduceLeDiff, DS.wrC, Cells.size, Cells.fillFrom, Cells.set, zk, zg, pp, pv, ldA, foot, DS.read, Cells.take, Nat.reduceLT, d25, hG, ← hS3, hl0, gA, gC]
    refine W.masked (hR.fr _) (FX hT (d := d + 5) (Zq G3 fun k hk => ?_) c n) ?_
    · exact ⟨by (simp only [hidden, shielded, noteAt, zx, Bool.or_false, Bool.or_eq_false_iff, Bool.and_eq_false_iff, zD, zM, zH, true_and, and_true, true_or, or_true] <;> omega), by (simp only [hidden, shielded, noteAt, zx, Bool.or_false, Bool.or_eq_false_iff, Bool.and_eq_false_iff, zD, zM, zH, true_and, and_true, true_or, or_true] <;> omega)⟩
    rintro v4 s4 ⟨h4, X4⟩ df
    simp only at h4 X4
    subst h4
    have X4' := Ext.unmask' X4 df
    obtain ⟨S4, hS4⟩ : ∃ S4 : DS, S4 = unmask S3 s4 := ⟨_, rfl⟩
    have n4 : s4.next = S4.next := by rw [hS4]; rfl
    rw [← hS4] at X4'
    have gB4 := X4'.keep gB (by simp)
    have w4 := X4'.wrs (wr3 1)
    simp (maxDischargeDepth := 8) only [sA, sM, zb, zo, za, zd, Cells.get, getN, Nat.reduceAdd, allOne, ze, DS.wrC, Cells.size, Cells.fillFrom, Cells.set, zk, foot, DS.read, Cells.take, Nat.reduceLT, ← hS4, n4, gB4, w4]
    exact hQ _ ⟨(X3.trans' X4').trans (Ext.upd (F := [s.next + 1]) (.inl (by simp))) (by simp), _, rfl, ⟨fun h => ⟨rfl, of_decide_eq_true h⟩, fun h => decide_eq_true h.2⟩⟩
  · have hl0 : ((body.length : Int) = 0) = False := eq_false (by have := List.length_pos_iff.2 hb; omega)
    simp (maxDischargeDepth := 8) only [sA, sM, zb, zl, zm, zo, za, zd, Cells.get, getN, Nat.reduceAdd, allOne, ze, Nat.reduceLeDiff, DS.wrC, Cells.size, Cells.fillFrom, Cells.set, zk, zg, pp, pv, ldA, foot, DS.read, Cells.take, Nat.reduceLT, d25, hG, ← hS3, hl0, gA, gC, gB, wr3]
    refine hQ _ ⟨X3.trans (Ext.upd (F := [s.next + 1]) (.inl (by simp))) (by simp), false, rfl, ⟨fun h => (nomatch h), fun h => ?_⟩⟩
    exact absurd h.1 hb
 | true =>
  simp (maxDischargeDepth := 8) only [sA, sM, zb, Cells.get, getN, Nat.reduceAdd, allOne, ze, Nat.reduceLeDiff, DS.wrC, Cells.size, Cells.fillFrom, Cells.set, zk, zg, pp, pv, Nat.reduceLT, d25, hG, ← hS3, gA, gB, gC]
  refine W.mono (Pd hC hG' hR hT (d := d) (hw.keep X3 (by simp)) hB hl G3) ?_
  rintro ⟨v4, s4⟩ ⟨X4, h4⟩
  simp only at X4 h4
  have G4 := X4.good G3
  have gA4 := X4.keep gA (by simp)
  have gB4 := X4.keep gB (by simp)
  have gC4 := X4.keep gC (by simp)
  have w4 : ∀ k, s4.wr (s.next + k) = true := fun k => X4.wrs (wr3 k)
  have l4 := X4.le
  have m0 : s.next < s4.next := by omega
  have m1 : s.next + 1 < s4.next := by omega
  have m2 : s.next + 2 < s4.next := by omega
  have e0 : ¬ s.next = s4.next := by omega
  have e1 : ¬ s.next + 1 = s4.next := by omega
  have e2 : ¬ s.next + 2 = s4.next := by omega
  have hb1 : Nat.ble (s4.next + 1) (s.next + 1) = false := by rw [zD]; omega
  have hb2 : Nat.beq (s.next + 1) s4.next = false := by rw [zH]; omega
  have hb3 : Nat.beq (s.next + 1) s.next = false := by rw [zH]; omega
  have hb4 : Nat.beq s4.next (s.next + 1) = false := by rw [zH]; omega
  have hb5 : Nat.beq s.next (s.next + 1) = false := by rw [zH]; omega
  have XF : ∀ o1 o2 o3 o4, Ext [] s ((((s4.new o1).upd s4.next o2).upd (s.next + 2) o3).upd (s.next + 1) o4) := fun o1 o2 o3 o4 => by
   have a1 : Ext [] s4 (s4.new o1) := Ext.new
   have a2 : Ext [s4.next] (s4.new o1) ((s4.new o1).upd s4.next o2) := Ext.upd (.inl (by simp))
   have a3 : Ext [s.next + 2] ((s4.new o1).upd s4.next o2) (((s4.new o1).upd s4.next o2).upd (s.next + 2) o3) := Ext.upd (.inl (by simp))
   have a4 : Ext [s.next + 1] (((s4.new o1).upd s4.next o2).upd (s.next + 2) o3) ((((s4.new o1).upd s4.next o2).upd (s.next + 2) o3).upd (s.next + 1) o4) := Ext.upd (.inl (by simp))
   exact (((X3.trans' X4).trans (a1.trans a2 (by simp)) (by simp)).trans a3 (by simp)).trans a4 (by simp)
  rcases h4 with ⟨hng, h4⟩ | ⟨hg, h4⟩
  · subst h4
    simp (maxDischargeDepth := 8) only [sA, sM, zb, zl, zm, zo, za, zd, Cells.get, getN, Nat.reduceAdd, allOne, ze, DS.wrC, Cells.size, Cells.fillFrom, Cells.set, zk, ldA, Int.reduceEq, foot, hidden, noteAt, DS.read, Cells.take, Nat.reduceLT, gA4, gB4, gC4, w4, G4, m0, m1, m2, e0, e1, e2, W4, YK, shielded, zx, hb1, hb2, hb3, hb4, hb5, Bool.or_self]
    refine hQ _ ⟨XF _ _ _ _, false, ?_, ⟨fun h => (nomatch h), fun h => absurd h.1 hng⟩⟩
    simp only [rowOf, Vj, if_neg hng, if_true, Rp.zero, Rp.cells, List.cons_append, List.nil_append]
  · obtain ⟨r, hr⟩ : ∃ r, r = Rv (Xz (body, false)).1 := ⟨_, rfl⟩
    rw [← hr] at h4
    have hrd : Vj body = r := by rw [hr]; unfold Vj; rw [if_pos hg]
    unfold Rp.cells at h4
    subst h4
    by_cases hc : r.c = c
    · have hc' : (r.c = c) = True := eq_true hc
      by_cases hn : r.n = n
      · have hn' : (r.n = n) = True := eq_true hn
        simp (maxDischargeDepth := 8) only [sA, sM, zb, zl, zm, zo, za, zd, Cells.get, getN, Nat.reduceAdd, allOne, ze, DS.wrC, Cells.size, Cells.fillFrom, Cells.set, zk, ldA, foot, hidden, noteAt, DS.read, Cells.take, Nat.reduceLT, gA4, gB4, gC4, w4, G4, hc', hn', m0, m1, m2, e0, e1, e2, W4, YK, shielded, zx, hb1, hb2, hb3, hb4, hb5, Bool.or_self]
        refine hQ _ ⟨XF _ _ _ _, true, ?_, ⟨fun _ => ⟨hg, by rw [hrd]; exact hc, by rw [hrd]; exact hn⟩, fun _ => rfl⟩⟩
        simp only [rowOf, hrd, if_true, Rp.cells, List.cons_append, List.nil_append]
      · have hn' : (r.n = n) = False := eq_false hn
        simp (maxDischargeDepth := 8) only [sA, sM, zb, zl, zm, zo, za, zd, Cells.get, getN, Nat.reduceAdd, allOne, ze, DS.wrC, Cells.size, Cells.fillFrom, Cells.set, zk, ldA, foot, hidden, noteAt, DS.read, Cells.take, Nat.reduceLT, gA4, gB4, gC4, w4, G4, hc', hn', m0, m1, m2, e0, e1, e2, W4, YK, shielded, zx, hb1, hb2, hb3, hb4, hb5, Bool.or_self]
        refine hQ _ ⟨XF _ _ _ _, false, ?_, ⟨fun h => (nomatch h), fun h => absurd (hrd ▸ h.2.2) hn⟩⟩
        simp only [rowOf, hrd, if_true, Rp.cells, List.cons_append, List.nil_append]
    · have hc' : (r.c = c) = False := eq_false hc
      simp (maxDischargeDepth := 8) only [sA, sM, zb, zl, zm, zo, za, zd, Cells.get, getN, Nat.reduceAdd, allOne, ze, DS.wrC, Cells.size, Cells.fillFrom, Cells.set, zk, ldA, foot, hidden, noteAt, DS.read, Cells.take, Nat.reduceLT, gA4, gB4, gC4, w4, G4, hc', m0, m1, m2, e0, e1, e2, W4, YK, shielded, zx, hb1, hb2, hb3, hb4, hb5, Bool.or_self]
      refine hQ _ ⟨XF _ _ _ _, false, ?_, ⟨fun h => (nomatch h), fun h => absurd (hrd ▸ h.2.1) hc⟩⟩
      simp only [rowOf, hrd, if_true, Rp.cells, List.cons_append, List.nil_append]
end
end Go.Dx.TbA
namespace Go.Dx.TbA
open Go Go.Dx Go.Dx.Tab Go.Proofs.YtffgmngdgkpflaaGreat
theorem DV : Vl rdF Xp := by
 intro bs hB h
 have h1 := YE (size := 1) (most := 1) (by decide) bs hB h
 have hr := Wa (size := 1) (most := 1) (bs, false) hB (by decide) (by decide)
 have he : Xp (rdF (bs, false)).1 = leB (rdN 1 1 (bs, false)).1 1 := by
  show leB (CU (decide ((rdN 1 1 (bs, false)).1 = 1))) 1 = _
  by_cases c : (rdN 1 1 (bs, false)).1 = 1
  · rw [decide_eq_true c, c]; rfl
  · have c0 : (rdN 1 1 (bs, false)).1 = 0 := by omega
    rw [decide_eq_false c, c0]; rfl
 rw [he]
 exact h1
theorem PP : Vl rdB (fun l => leB (l.length : Int) 4 ++ l) := by
 intro bs hB h
 have hn : (rdN 4 65536 (bs, false)).2.2 = false := by
  cases e : (rdN 4 65536 (bs, false)).2.2 with
  | false => rfl
  | true =>
   unfold rdB tk at h
   rw [if_pos (.inl e)] at h
   cases h
 have h1 := YE (size := 4) (most := 65536) (by decide) bs hB hn
 have hr := Wa (size := 4) (most := 65536) (bs, false) hB (by decide) (by decide)
 have hlen : ¬ ((rdN 4 65536 (bs, false)).2.2 = true ∨ (rdN 4 65536 (bs, false)).2.1.length < (rdN 4 65536 (bs, false)).1.toNat) := fun c => by
  unfold rdB tk at h
  rw [if_pos c] at h
  cases h
 have hE : rdB (bs, false) = ((rdN 4 65536 (bs, false)).2.1.take (rdN 4 65536 (bs, false)).1.toNat, ((rdN 4 65536 (bs, false)).2.1.drop (rdN 4 65536 (bs, false)).1.toNat, false)) := by
  unfold rdB tk
  rw [if_neg hlen]
 rw [hE]
 simp only
 have hl : ((rdN 4 65536 (bs, false)).2.1.take (rdN 4 65536 (bs, false)).1.toNat).length = (rdN 4 65536 (bs, false)).1.toNat := by
  rw [List.length_take]
  exact Nat.min_eq_left (by have := fun c => hlen (.inr c); omega)
 rw [hl, Int.toNat_of_nonneg hr.1, List.append_assoc, List.take_append_drop]
 exact h1
def Q6 (x : zX) : List Int := (leB x.1.1 1 ++ leB x.1.2 8) ++ (Xp x.2.1 ++ (leB (x.2.2.length : Int) 4 ++ x.2.2))
theorem RA : Vl DU Q6 :=
 XE (ZV (zA _ _) (zA _ _)) (ZV Qn Tp) (XE (zA _ _) (zA _ _) (YE (by decide)) (YE (by decide))) (XE Qn Tp DV PP)
def JL (xs : List zX) : List Int := leB xs.length 2 ++ xs.flatMap Q6
theorem PL : Vl rdT JL := PO Vs RA
theorem KA.code {bs : List Int} (hB : IsB bs) (h : KA bs) : bs = JL (rdT (bs, false)).1 := by
 have := PL bs hB h.1
 rw [h.2, List.append_nil] at this
 exact this
def Lj (x : FT) : List Int := ((leB x.1.1.1 1 ++ leB x.1.1.2 8) ++ Xp x.1.2) ++ (leB x.2.1 1 ++ (leB x.2.2.1 8 ++ leB x.2.2.2 8))
theorem Ry : Vl Xz Lj :=
 XE (ZV (ZV (zA _ _) (zA _ _)) Qn) (ZV (zA _ _) (ZV (zA _ _) (zA _ _)))
  (XE (ZV (zA _ _) (zA _ _)) Qn (XE (zA _ _) (zA _ _) (YE (by decide)) (YE (by decide))) DV)
  (XE (zA _ _) (ZV (zA _ _) (zA _ _)) (YE (by decide)) (XE (zA _ _) (zA _ _) (YE (by decide)) (YE (by decide))))
theorem GL.code {bs : List Int} (hB : IsB bs) (h : GL bs) : bs = Lj (Xz (bs, false)).1 := by
 have := Ry bs hB h.1
 rw [h.2, List.append_nil] at this
 exact this
end Go.Dx.TbA
