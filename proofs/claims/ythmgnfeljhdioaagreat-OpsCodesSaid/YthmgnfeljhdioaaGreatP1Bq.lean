/- A part. -/
import Derived.Test.YthmgnfeljhdioaaGreatP1Bo
set_option linter.unusedVariables false
set_option linter.unusedSimpArgs false
set_option linter.unusedSectionVars false
set_option maxRecDepth 100000
set_option maxHeartbeats 4000000
namespace Go.Dx.TbA
open Go Go.Dx Go.Proofs.YthmgnfeljhdioaaGreat
def SlI (s : DS) (v : Value) (l : List Int) : Prop :=
 (v = .slice none 0 0 ∧ l = []) ∨ ∃ b sp c cc ro, v = .slice (some ⟨b, 0, sp⟩) l.length c ∧ s.get b = some (.cells cc ro) ∧ ∀ i x, l[i]? = some x → cc.get i = some (.int .i64 x)
theorem SlI.of {s s' : DS} {v : Value} {l : List Int} (h : SlI s v l) (e : ∀ k, k ∈ blk v → s'.get k = s.get k) : SlI s' v l := by
 rcases h with h | ⟨b, sp, c, cc, ro, rfl, h1, h2⟩
 · exact .inl h
 · exact .inr ⟨b, sp, c, cc, ro, rfl, (e b (by simp [blk])).trans h1, h2⟩
theorem SlI.lt {s : DS} {v : Value} {l : List Int} (h : SlI s v l) : ∀ k, k ∈ blk v → k < s.next := by
 rcases h with ⟨rfl, _⟩ | ⟨b, sp, c, cc, ro, rfl, h1, h2⟩
 · exact fun k hk => by simp [blk] at hk
 · exact fun k hk => by simp [blk] at hk; subst hk; exact DS.get_lt' h1
theorem SlI.keep {s s' : DS} {v : Value} {l : List Int} {F : List Nat} (h : SlI s v l) (e : Ext F s s') (hd : ∀ k, k ∈ blk v → k ∉ F) : SlI s' v l := by
 rcases h with h | ⟨b, sp, c, cc, ro, rfl, h1, h2⟩
 · exact .inl h
 · exact .inr ⟨b, sp, c, cc, ro, rfl, e.keep h1 (hd b (by simp [blk])), h2⟩
theorem SlI.shape {s : DS} {v : Value} {l : List Int} (h : SlI s v l) : ∃ a c, v = .slice a l.length c := by
 rcases h with ⟨rfl, rfl⟩ | ⟨b, sp, c, cc, ro, rfl, h1, h2⟩
 · exact ⟨_, _, rfl⟩
 · exact ⟨_, _, rfl⟩
theorem SlC.toI {s : DS} {v : Value} {l : List Int} (h : SlC s 1 v (ints l)) : SlI s v l := by
 rcases h with ⟨rfl, h0⟩ | ⟨b, sp, c, ext, rfl, h⟩
 · exact .inl ⟨rfl, by simpa [ints] using h0⟩
 · refine .inr ⟨b, sp, c, _, _, by rw [Fw], h.get, fun i x hx => ?_⟩
   have hi := (List.getElem?_eq_some_iff.1 hx).1
   simp only [Cells.get]
   rw [Wa, List.getElem?_append_left (by rw [Jk]; simpa using hi), Jk, List.getElem?_map, hx]
   rfl
def FB (n : Nat) (s : DS) (v : Value) (xs : List Int) : Prop := SlI s v xs ∧ ∀ k, k ∈ blk v → n ≤ k
theorem QW : Yi FB :=
 ⟨fun n s s' v x F h X hF => ⟨h.1.keep X fun k hk hf => by have := h.2 k hk; have := hF k hf; omega, h.2⟩, fun n n' s v x h hn => ⟨h.1, fun k hk => Nat.le_trans hn (h.2 k hk)⟩⟩
theorem Nq (n : Nat) (s s' : DS) (v : Value) (x : List Int) (h : FB n s v x) (e : ∀ k, n ≤ k → s'.get k = s.get k) : FB n s' v x := ⟨h.1.of fun k hk => e k (h.2 k hk), h.2⟩
theorem C1 (o : Nat) (s : DS) (v : Value) (x : List Int) (h : FB o s v x) : ∃ b n c, v = .slice b n c := by
 obtain ⟨a, c, e⟩ := h.1.shape
 exact ⟨_, _, _, e⟩
theorem C3 (o : Nat) (s : DS) (v : Value) (x : List Int) (h : FC o s v x) : ∃ b n c, v = .slice b n c := by
 obtain ⟨a, c, e⟩ := h.1.len
 exact ⟨_, _, _, e⟩
theorem Ck {E : Env} {f1 f2 : Nat} {fp fg gp gg : Value} {α β : Type} {n : Nat} {Df Dg : List (Nat × DObj)} {Ra : Nat → DS → Value → α → Prop} {Rb : Nat → DS → Value → β → Prop} {ra : RS → α × RS} {rb : RS → β × RS}
 (ha : Zh E n fg Df Ra ra) (hb : Zh E n gg Dg Rb rb) (sa : Yi Ra) (sb : Yi Rb) (oa : XQ ra) (ca : ∀ o s v x, Ra o s v x → (∃ b n c, v = .slice b n c)) (cb : ∀ o s v x, Rb o s v x → (∃ n, v = .int .i64 n)) (hcode : E.fn 93 = some d93) (hintr : E.intr 93 = none) :
 Zh E (n + 1) (.func (.func 93) #[] #[.pointer (some ⟨f1, 0, none⟩), .pointer (some ⟨f2, 0, none⟩)]) ((f1, .cells (.list [fp, fg]) false) :: (f2, .cells (.list [gp, gg]) false) :: (Df ++ Dg)) (ZW Ra Rb) (rdP ra rb) := by
 intro d s r bv bs bad hD hb2 h hB hl hG
 have g1 := hD _ (List.mem_cons_self ..)
 have g2 := hD (f2, _) (List.mem_cons_of_mem _ (List.mem_cons_self ..))
 have l1 := hb2 _ (List.mem_cons_self ..)
 have l2 := hb2 (f2, _) (List.mem_cons_of_mem _ (List.mem_cons_self ..))
 simp only at g1 g2 l1 l2
 have hDf : Zo s Df := hD.sub fun p hp => List.mem_cons_of_mem _ (List.mem_cons_of_mem _ (List.mem_append_left _ hp))
 have hDg : Zo s Dg := hD.sub fun p hp => List.mem_cons_of_mem _ (List.mem_cons_of_mem _ (List.mem_append_right _ hp))
 have lf : ∀ p, p ∈ Df → p.1 ≠ r := fun p hp => hb2 p (List.mem_cons_of_mem _ (List.mem_cons_of_mem _ (List.mem_append_left _ hp)))
 have lg : ∀ p, p ∈ Dg → p.1 ≠ r := fun p hp => hb2 p (List.mem_cons_of_mem _ (List.mem_cons_of_mem _ (List.mem_append_right _ hp)))
 have hrl := DS.get_lt' h.gr
 have l1s := DS.get_lt' g1
 have l2s := DS.get_lt' g2
 refine zp fun Q hQ => ?_
 show W (dcall E ((d + n) + 1) _ _ _) Q
 rw [zZ hintr hcode rfl]
 simp (maxDischargeDepth := 8) only [sA, sM, zb, Cells.get, getN, pp, pv, Nat.reduceLT, d93, g1, g2, hG, l1s, l2s]
 obtain ⟨S1, hS1⟩ : ∃ S1 : DS, S1 = s.new (.cells (.list [.slice none 0 0, .int .i64 0]) false) := ⟨_, rfl⟩
 rw [← hS1]
 have X1 : ∀ F, Ext F s S1 := fun F => by rw [hS1]; exact Ext.new
 have nS : S1.next = s.next + 1 := by rw [hS1]; rfl
 have gS : S1.get s.next = some (.cells (.list [.slice none 0 0, .int .i64 0]) false) := by rw [hS1]; exact DS.new_get_self hG
 have wS : S1.wr s.next = true := (X1 []).wrs (hG _ (Nat.le_refl _)).2
 have I1 : YZ S1 r bv bs bad := h.keep (X1 []) (by simp) (by simp)
 have GS := (X1 []).good hG
 refine W.mono (ha d S1 r bv bs bad (hDf.keep (X1 []) (by simp)) lf I1 hB hl GS) ?_
 rintro ⟨v2, s2⟩ ⟨bv2, R2, I2, X2, b2⟩
 simp only at R2 I2 X2 b2
 have G2 := X2.good GS
 have le2 := X2.le
 obtain ⟨k, hk⟩ := oa.suf (bs, bad)
 have g22 := X2.keep ((X1 []).keep g2 (by simp)) (by simp; exact l2)
 have gS2 := X2.keep gS (by simp; omega)
 have wS2 := X2.wrs wS
 have hca := ca _ _ _ _ R2
 obtain ⟨x1, x2, x3, rfl⟩ := hca
 simp only [sA, zb, Nat.reduceEqDiff, Cells.get, getN, reduceCtorEq, g22]
 refine W.mono (hb d s2 r bv2 _ _ ((hDg.keep (X1 []) (by simp)).keep X2 fun p hp => by simp; exact lg p hp) lg I2 (by rw [hk]; exact hB.drop k) (by rw [hk]; simp; omega) G2) ?_
 rintro ⟨v3, s3⟩ ⟨bv3, R3, I3, X3, b3⟩
 simp only at R3 I3 X3 b3
 have le3 := X3.le
 have gS3 := X3.keep gS2 (by simp; omega)
 have wS3 := X3.wrs wS2
 have hcb := cb _ _ _ _ R3
 obtain ⟨y1, rfl⟩ := hcb
 have hblt : ∀ k, k ∈ blk bv3 → k < s.next := fun k hk => h.sl.lt k (b2 k (b3 k hk))
 have U : ∀ o F, Ext (s.next :: F) s3 (s3.upd s.next o) := fun o F => Ext.upd (.inl (by simp))
 have lo : s.next < s3.next := by omega
 simp (maxDischargeDepth := 8) only [sA, sM, zk, za, ze, Cells.get, getN, Nat.reduceAdd, zh, zg, Nat.reduceLeDiff, DS.wrC, Cells.size, Cells.fillFrom, Cells.set, zA, zi, DS.read, Cells.take, Nat.reduceLT, gS3, wS3, lo, X3.good G2]
 refine hQ _ ⟨bv3, ⟨_, _, rfl, sa.mono _ _ _ _ _ (sa.stab _ _ _ _ _ _ (sa.stab _ _ _ _ _ _ R2 X3 (by simp; omega)) (U _ []) (by simp; omega)) (by omega), sb.mono _ _ _ _ _ (sb.stab _ _ _ _ _ _ R3 (U _ []) (by simp; omega)) (by omega)⟩, I3.keep (U _ []) (by simp; omega) (fun k hk => by have := hblt k hk; simp; omega), ?_, fun k hk => b2 k (b3 k hk)⟩
 exact ((X1 _).trans' (X2.trans' X3)).trans (U _ []) (by simp)
theorem Cm {E : Env} {f1 f2 : Nat} {fp fg gp gg : Value} {α β : Type} {n : Nat} {Df Dg : List (Nat × DObj)} {Ra : Nat → DS → Value → α → Prop} {Rb : Nat → DS → Value → β → Prop} {ra : RS → α × RS} {rb : RS → β × RS}
 (ha : Zh E n fg Df Ra ra) (hb : Zh E n gg Dg Rb rb) (sa : Yi Ra) (sb : Yi Rb) (oa : XQ ra) (ca : ∀ o s v x, Ra o s v x → (∃ b n c, v = .slice b n c)) (cb : ∀ o s v x, Rb o s v x → (∃ b n c q, v = .agg ⟨[.slice b n c, .int .i64 q]⟩)) (hcode : E.fn 86 = some d86) (hintr : E.intr 86 = none) :
 Zh E (n + 1) (.func (.func 86) #[] #[.pointer (some ⟨f1, 0, none⟩), .pointer (some ⟨f2, 0, none⟩)]) ((f1, .cells (.list [fp, fg]) false) :: (f2, .cells (.list [gp, gg]) false) :: (Df ++ Dg)) (ZW Ra Rb) (rdP ra rb) := by
 intro d s r bv bs bad hD hb2 h hB hl hG
 have g1 := hD _ (List.mem_cons_self ..)
 have g2 := hD (f2, _) (List.mem_cons_of_mem _ (List.mem_cons_self ..))
 have l1 := hb2 _ (List.mem_cons_self ..)
 have l2 := hb2 (f2, _) (List.mem_cons_of_mem _ (List.mem_cons_self ..))
 simp only at g1 g2 l1 l2
 have hDf : Zo s Df := hD.sub fun p hp => List.mem_cons_of_mem _ (List.mem_cons_of_mem _ (List.mem_append_left _ hp))
 have hDg : Zo s Dg := hD.sub fun p hp => List.mem_cons_of_mem _ (List.mem_cons_of_mem _ (List.mem_append_right _ hp))
 have lf : ∀ p, p ∈ Df → p.1 ≠ r := fun p hp => hb2 p (List.mem_cons_of_mem _ (List.mem_cons_of_mem _ (List.mem_append_left _ hp)))
 have lg : ∀ p, p ∈ Dg → p.1 ≠ r := fun p hp => hb2 p (List.mem_cons_of_mem _ (List.mem_cons_of_mem _ (List.mem_append_right _ hp)))
 have hrl := DS.get_lt' h.gr
 have l1s := DS.get_lt' g1
 have l2s := DS.get_lt' g2
 refine zp fun Q hQ => ?_
 show W (dcall E ((d + n) + 1) _ _ _) Q
 rw [zZ hintr hcode rfl]
 simp (maxDischargeDepth := 8) only [sA, sM, zb, Cells.get, getN, pp, pv, Nat.reduceLT, d86, g1, g2, hG, l1s, l2s]
 obtain ⟨S1, hS1⟩ : ∃ S1 : DS, S1 = s.new (.cells (.list [.slice none 0 0, .slice none 0 0, .int .i64 0]) false) := ⟨_, rfl⟩
 rw [← hS1]
 have X1 : ∀ F, Ext F s S1 := fun F => by rw [hS1]; exact Ext.new
 have nS : S1.next = s.next + 1 := by rw [hS1]; rfl
 have gS : S1.get s.next = some (.cells (.list [.slice none 0 0, .slice none 0 0, .int .i64 0]) false) := by rw [hS1]; exact DS.new_get_self hG
 have wS : S1.wr s.next = true := (X1 []).wrs (hG _ (Nat.le_refl _)).2
 have I1 : YZ S1 r bv bs bad := h.keep (X1 []) (by simp) (by simp)
 have GS := (X1 []).good hG
 refine W.mono (ha d S1 r bv bs bad (hDf.keep (X1 []) (by simp)) lf I1 hB hl GS) ?_
 rintro ⟨v2, s2⟩ ⟨bv2, R2, I2, X2, b2⟩
 simp only at R2 I2 X2 b2
 have G2 := X2.good GS
 have le2 := X2.le
 obtain ⟨k, hk⟩ := oa.suf (bs, bad)
 have g22 := X2.keep ((X1 []).keep g2 (by simp)) (by simp; exact l2)
 have gS2 := X2.keep gS (by simp; omega)
 have wS2 := X2.wrs wS
 have hca := ca _ _ _ _ R2
 obtain ⟨x1, x2, x3, rfl⟩ := hca
 simp only [sA, zb, Nat.reduceEqDiff, Cells.get, getN, reduceCtorEq, g22]
 refine W.mono (hb d s2 r bv2 _ _ ((hDg.keep (X1 []) (by simp)).keep X2 fun p hp => by simp; exact lg p hp) lg I2 (by rw [hk]; exact hB.drop k) (by rw [hk]; simp; omega) G2) ?_
 rintro ⟨v3, s3⟩ ⟨bv3, R3, I3, X3, b3⟩
 simp only at R3 I3 X3 b3
 have le3 := X3.le
 have gS3 := X3.keep gS2 (by simp; omega)
 have wS3 := X3.wrs wS2
 have hcb := cb _ _ _ _ R3
 obtain ⟨y1, y2, y3, y4, rfl⟩ := hcb
 have hblt : ∀ k, k ∈ blk bv3 → k < s.next := fun k hk => h.sl.lt k (b2 k (b3 k hk))
 have U : ∀ o F, Ext (s.next :: F) s3 (s3.upd s.next o) := fun o F => Ext.upd (.inl (by simp))
 have lo : s.next < s3.next := by omega
 simp (maxDischargeDepth := 8) only [sA, sM, zk, za, ze, Cells.get, getN, Nat.reduceAdd, zh, zg, Nat.reduceLeDiff, DS.wrC, Cells.size, Cells.fillFrom, Cells.set, zA, zi, DS.read, Cells.take, Nat.reduceLT, gS3, wS3, lo, X3.good G2]
 refine hQ _ ⟨bv3, ⟨_, _, rfl, sa.mono _ _ _ _ _ (sa.stab _ _ _ _ _ _ (sa.stab _ _ _ _ _ _ R2 X3 (by simp; omega)) (U _ []) (by simp; omega)) (by omega), sb.mono _ _ _ _ _ (sb.stab _ _ _ _ _ _ R3 (U _ []) (by simp; omega)) (by omega)⟩, I3.keep (U _ []) (by simp; omega) (fun k hk => by have := hblt k hk; simp; omega), ?_, fun k hk => b2 k (b3 k hk)⟩
 exact ((X1 _).trans' (X2.trans' X3)).trans (U _ []) (by simp)
theorem Co {E : Env} {f1 f2 : Nat} {fp fg gp gg : Value} {α β : Type} {n : Nat} {Df Dg : List (Nat × DObj)} {Ra : Nat → DS → Value → α → Prop} {Rb : Nat → DS → Value → β → Prop} {ra : RS → α × RS} {rb : RS → β × RS}
 (ha : Zh E n fg Df Ra ra) (hb : Zh E n gg Dg Rb rb) (sa : Yi Ra) (sb : Yi Rb) (oa : XQ ra) (ca : ∀ o s v x, Ra o s v x → (∃ n1 n2, v = .agg ⟨[.int .i64 n1, .int .i64 n2]⟩)) (cb : ∀ o s v x, Rb o s v x → (∃ b n c b2 n2 c2 q, v = .agg ⟨[.slice b n c, .slice b2 n2 c2, .int .i64 q]⟩)) (fb : ∀ n s s' v x, Rb n s v x → (∀ k, n ≤ k → s'.get k = s.get k) → Rb n s' v x) (hfr : ∀ d, zG (dcall E d)) (hcode : E.fn 81 = some d81) (hintr : E.intr 81 = none) :
 Zh E (n + 1) (.func (.func 81) #[] #[.pointer (some ⟨f1, 0, none⟩), .pointer (some ⟨f2, 0, none⟩)]) ((f1, .cells (.list [fp, fg]) false) :: (f2, .cells (.list [gp, gg]) false) :: (Df ++ Dg)) (ZW Ra Rb) (rdP ra rb) := by
 intro d s r bv bs bad hD hb2 h hB hl hG
 have g1 := hD _ (List.mem_cons_self ..)
 have g2 := hD (f2, _) (List.mem_cons_of_mem _ (List.mem_cons_self ..))
 have l1 := hb2 _ (List.mem_cons_self ..)
 have l2 := hb2 (f2, _) (List.mem_cons_of_mem _ (List.mem_cons_self ..))
 simp only at g1 g2 l1 l2
 have hDf : Zo s Df := hD.sub fun p hp => List.mem_cons_of_mem _ (List.mem_cons_of_mem _ (List.mem_append_left _ hp))
 have hDg : Zo s Dg := hD.sub fun p hp => List.mem_cons_of_mem _ (List.mem_cons_of_mem _ (List.mem_append_right _ hp))
 have lf : ∀ p, p ∈ Df → p.1 ≠ r := fun p hp => hb2 p (List.mem_cons_of_mem _ (List.mem_cons_of_mem _ (List.mem_append_left _ hp)))
 have lg : ∀ p, p ∈ Dg → p.1 ≠ r := fun p hp => hb2 p (List.mem_cons_of_mem _ (List.mem_cons_of_mem _ (List.mem_append_right _ hp)))
 have hrl := DS.get_lt' h.gr
 have l1s := DS.get_lt' g1
 have l2s := DS.get_lt' g2
 refine zp fun Q hQ => ?_
 show W (dcall E ((d + n) + 1) _ _ _) Q
 rw [zZ hintr hcode rfl]
 simp (maxDischargeDepth := 8) only [sA, sM, zb, Cells.get, getN, pp, pv, Nat.reduceLT, d81, g1, g2, hG, l1s, l2s]
 obtain ⟨S1, hS1⟩ : ∃ S1 : DS, S1 = s.new (.cells (.list [.int .i64 0, .int .i64 0, .slice none 0 0, .slice none 0 0, .int .i64 0]) false) := ⟨_, rfl⟩
 rw [← hS1]
 have X1 : ∀ F, Ext F s S1 := fun F => by rw [hS1]; exact Ext.new
 have nS : S1.next = s.next + 1 := by rw [hS1]; rfl
 have gS : S1.get s.next = some (.cells (.list [.int .i64 0, .int .i64 0, .slice none 0 0, .slice none 0 0, .int .i64 0]) false) := by rw [hS1]; exact DS.new_get_self hG
 have wS : S1.wr s.next = true := (X1 []).wrs (hG _ (Nat.le_refl _)).2
 have I1 : YZ S1 r bv bs bad := h.keep (X1 []) (by simp) (by simp)
 have GS := (X1 []).good hG
 refine W.mono (ha d S1 r bv bs bad (hDf.keep (X1 []) (by simp)) lf I1 hB hl GS) ?_
 rintro ⟨v2, s2⟩ ⟨bv2, R2, I2, X2, b2⟩
 simp only at R2 I2 X2 b2
 have G2 := X2.good GS
 have le2 := X2.le
 obtain ⟨k, hk⟩ := oa.suf (bs, bad)
 have g22 := X2.keep ((X1 []).keep g2 (by simp)) (by simp; exact l2)
 have gS2 := X2.keep gS (by simp; omega)
 have wS2 := X2.wrs wS
 have hca := ca _ _ _ _ R2
 obtain ⟨x1, x2, rfl⟩ := hca
 obtain ⟨S2, hS2⟩ : ∃ S2 : DS, S2 = (s2.new (.cells (.list [.int .i64 0, .int .i64 0]) false)).upd s2.next (.cells (.list [.int .i64 x1, .int .i64 x2]) false) := ⟨_, rfl⟩
 have XF : ∀ F, Ext F s2 S2 := fun F => by
  have e1 : Ext F s2 (s2.new (.cells (.list [.int .i64 0, .int .i64 0]) false)) := Ext.new
  have e2 : Ext (s2.next :: F) (s2.new (.cells (.list [.int .i64 0, .int .i64 0]) false)) ((s2.new (.cells (.list [.int .i64 0, .int .i64 0]) false)).upd s2.next (.cells (.list [.int .i64 x1, .int .i64 x2]) false)) := Ext.upd (.inl (by simp))
  rw [hS2]
  exact e1.trans e2 (by simp; intro a ha; exact .inl ha)
 have XA := XF [s2.next]
 have nA : S2.next = s2.next + 1 := by rw [hS2, DS.upd_next]; rfl
 have gA : S2.get s2.next = some (.cells (.list [.int .i64 x1, .int .i64 x2]) false) := by rw [hS2, DS.upd_get_self, DS.new_get_self G2]; rfl
 have GA := XA.good G2
 have rlt : r < s2.next := DS.get_lt' I2.gr
 have g2A := XA.keep g22 (by simp; omega)
 have IA : YZ S2 r bv2 _ _ := I2.keep XA (by simp; omega) (fun k hk => by have := I2.sl.lt k hk; simp; omega)
 have DA := ((hDg.keep (X1 []) (by simp)).keep X2 fun p hp => by simp; exact lg p hp).keep XA fun p hp => by
  have := DS.get_lt' (((hDg.keep (X1 []) (by simp)).keep X2 fun p hp => by simp; exact lg p hp) p hp)
  simp
  omega
 have gSA := XA.keep gS2 (by simp; omega)
 have wSA := XA.wrs wS2
 simp (maxDischargeDepth := 8) only [sA, sM, zb, Cells.get, getN, Nat.reduceAdd, zh, zg, DS.wrC, Cells.size, Cells.fillFrom, Cells.set, zA, ldA, foot, DS.read, Cells.take, Nat.reduceLT, G2, g22, ← hS2, g2A, gA]
 refine W.masked (hfr _) (hb d (YK S2 _ _) r bv2 (ra (bs, bad)).2.1 (ra (bs, bad)).2.2 (fun p hp => (Zj ?_).trans (DA p hp)) lg ⟨(Zj ?_).trans IA.gr, J2 IA.wr ?_ ?_, SlR.of' IA.sl fun k hk => Zj ?_, IA.ne⟩ (by rw [hk]; exact hB.drop k) (by rw [hk]; simp; omega) (Yb GA fun k hk => ?_)) ?_
 · (simp only [hidden, shielded, noteAt, zO, Bool.or_false, Bool.or_eq_false_iff, Bool.and_eq_false_iff, Zk, Zv, Zs, true_and, and_true, true_or, or_true] <;> omega)
 · (simp only [hidden, shielded, noteAt, zO, Bool.or_false, Bool.or_eq_false_iff, Bool.and_eq_false_iff, Zk, Zv, Zs, true_and, and_true, true_or, or_true] <;> omega)
 · (simp only [hidden, shielded, noteAt, zO, Bool.or_false, Bool.or_eq_false_iff, Bool.and_eq_false_iff, Zk, Zv, Zs, true_and, and_true, true_or, or_true] <;> omega)
 · (simp only [hidden, shielded, noteAt, zO, Bool.or_false, Bool.or_eq_false_iff, Bool.and_eq_false_iff, Zk, Zv, Zs, true_and, and_true, true_or, or_true] <;> omega)
 · (simp only [hidden, shielded, noteAt, zO, Bool.or_false, Bool.or_eq_false_iff, Bool.and_eq_false_iff, Zk, Zv, Zs, true_and, and_true, true_or, or_true] <;> omega)
 · exact ⟨by (simp only [hidden, shielded, noteAt, zO, Bool.or_false, Bool.or_eq_false_iff, Bool.and_eq_false_iff, Zk, Zv, Zs, true_and, and_true, true_or, or_true] <;> omega), by (simp only [hidden, shielded, noteAt, zO, Bool.or_false, Bool.or_eq_false_iff, Bool.and_eq_false_iff, Zk, Zv, Zs, true_and, and_true, true_or, or_true] <;> omega)⟩
 rintro v3 s3' ⟨bv3, R3', I3', X3', b3⟩ df
 simp only at R3' I3' X3' b3
 have hsame : ∀ k, (Zi S2 s3').get k = s3'.get k := fun k => YG (by (simp only [hidden, shielded, noteAt, zO, Bool.or_false, Bool.or_eq_false_iff, Bool.and_eq_false_iff, Zk, Zv, Zs, true_and, and_true, true_or, or_true] <;> omega)) X3'
 have X3u := Ext.unmask' X3' df
 obtain ⟨s3, hs3⟩ : ∃ s3 : DS, s3 = Zi S2 s3' := ⟨_, rfl⟩
 have n3 : s3'.next = s3.next := by rw [hs3]; rfl
 have R3 : Rb S2.next s3 v3 _ := fb _ _ _ _ _ R3' fun k _ => by rw [hs3]; exact hsame k
 have I3 : YZ s3 r bv3 _ _ := ⟨by rw [hs3, hsame]; exact I3'.gr, by rw [hs3, W3]; exact IA.wr, SlR.of' I3'.sl fun k _ => by rw [hs3]; exact hsame k, I3'.ne⟩
 rw [← hs3] at X3u
 have X3 : Ext [r] s2 s3 := (XF [r]).trans' X3u
 have le3 := X3.le
 have gS3 := X3.keep gS2 (by simp; omega)
 have wS3 := X3.wrs wS2
 have hcb := cb _ _ _ _ R3
 obtain ⟨y1, y2, y3, y4, y5, y6, y7, rfl⟩ := hcb
 have hblt : ∀ k, k ∈ blk bv3 → k < s.next := fun k hk => h.sl.lt k (b2 k (b3 k hk))
 have U : ∀ o F, Ext (s.next :: F) s3 (s3.upd s.next o) := fun o F => Ext.upd (.inl (by simp))
 have lo : s.next < s3.next := by omega
 simp (maxDischargeDepth := 8) only [sA, sM, zk, za, ze, Cells.get, getN, Nat.reduceAdd, zh, zg, Nat.reduceLeDiff, DS.wrC, Cells.size, Cells.fillFrom, Cells.set, zA, zi, foot, DS.read, Cells.take, Nat.reduceLT, ← hs3, n3, gS3, wS3, lo, X3.good G2]
 refine hQ _ ⟨bv3, ⟨_, _, rfl, sa.mono _ _ _ _ _ (sa.stab _ _ _ _ _ _ (sa.stab _ _ _ _ _ _ R2 X3 (by simp; omega)) (U _ []) (by simp; omega)) (by omega), sb.mono _ _ _ _ _ (sb.stab _ _ _ _ _ _ R3 (U _ []) (by simp; omega)) (by omega)⟩, I3.keep (U _ []) (by simp; omega) (fun k hk => by have := hblt k hk; simp; omega), ?_, fun k hk => b2 k (b3 k hk)⟩
 exact ((X1 _).trans' (X2.trans' X3)).trans (U _ []) (by simp)
structure NT (s0 : DS) (r f1 : Nat) (bv : Value) (rd : RS → Int × RS) (L : Nat) (tot : List Int × RS) (n : Nat) (y : St) : Prop where
 ex : ∃ (l : List Int) (st : RS) (lv bv' : Value), y.defers = [] ∧ (y.t.get 0 = some (.pointer (some ⟨r, 0, none⟩)) ∧ y.t.get 2 = some (.pointer (some ⟨f1, 0, none⟩)) ∧ y.t.get 5 = some lv ∧ y.t.get 6 = some (.int .i64 (n : Int))) ∧
  SlC y.s 1 lv (ints l) ∧ (∀ k, k ∈ blk lv → s0.next ≤ k) ∧ YZ y.s r bv' st.1 st.2 ∧ (∀ k, k ∈ blk bv' → k ∈ blk bv) ∧ Ext [r] s0 y.s ∧ y.s.Good ∧ IsB st.1 ∧ st.1.length ≤ L ∧ Ye rd n l st = tot ∧ l.length + n ≤ 4096
theorem DT {E : Env} {c1 f1 : Nat} {cp cg fp fg : Value} {n : Nat} {Dc Df : List (Nat × DObj)} {R : Nat → DS → Value → Int → Prop} {rd : RS → Int × RS}
 (hc : Zh E n cg Dc ZY (rdN 2 4096)) (hf : Zh E n fg Df R rd) (oR : XQ rd) (hrow : ∀ o s v x, R o s v x → v = .int .i64 x) (hlf : 5000 ≤ E.lf) (hcode : E.fn 95 = some d95) (hintr : E.intr 95 = none) :
 Zh E (n + 1) (.func (.func 95) #[] #[.pointer (some ⟨c1, 0, none⟩), .pointer (some ⟨f1, 0, none⟩)]) ((c1, .cells (.list [cp, cg]) false) :: (f1, .cells (.list [fp, fg]) false) :: (Dc ++ Df)) FB (rdL rd) := by
 intro d s r bv bs bad hD hb2 h hB hl hG
 have g1 := hD _ (List.mem_cons_self ..)
 have g2 := hD (f1, _) (List.mem_cons_of_mem _ (List.mem_cons_self ..))
 have l1 := hb2 _ (List.mem_cons_self ..)
 have l2 := hb2 (f1, _) (List.mem_cons_of_mem _ (List.mem_cons_self ..))
 simp only at g1 g2 l1 l2
 have hDc : Zo s Dc := hD.sub fun p hp => List.mem_cons_of_mem _ (List.mem_cons_of_mem _ (List.mem_append_left _ hp))
 have hDf : Zo s Df := hD.sub fun p hp => List.mem_cons_of_mem _ (List.mem_cons_of_mem _ (List.mem_append_right _ hp))
 have lc : ∀ p, p ∈ Dc → p.1 ≠ r := fun p hp => hb2 p (List.mem_cons_of_mem _ (List.mem_cons_of_mem _ (List.mem_append_left _ hp)))
 have lf : ∀ p, p ∈ Df → p.1 ≠ r := fun p hp => hb2 p (List.mem_cons_of_mem _ (List.mem_cons_of_mem _ (List.mem_append_right _ hp)))
 have hrl := DS.get_lt' h.gr
 have l2s := DS.get_lt' g2
 refine zp fun Q hQ => ?_
 show W (dcall E ((d + n) + 1) _ _ _) Q
 rw [zZ hintr hcode rfl]
 simp only [sA, zb, Nat.reduceEqDiff, Cells.get, getN, reduceCtorEq, pp, pv, pw, pg, d95, g1]
 refine W.mono (hc d s r bv bs bad hDc lc h hB hl hG) ?_
 rintro ⟨v1, s1⟩ ⟨bv1, R1, I1, X1, b1⟩
 simp only at R1 I1 X1 b1
 have R1 : v1 = _ := R1
 subst R1
 have hrg := Vs (size := 2) (most := 4096) (bs, bad) hB (by decide) (by decide)
 obtain ⟨k, hk⟩ := (zT 2 4096).suf (bs, bad)
 obtain ⟨st1, hst1⟩ : ∃ st1, st1 = (rdN 2 4096 (bs, bad)).2 := ⟨_, rfl⟩
 obtain ⟨N, hN⟩ : ∃ N : Nat, ((N : Nat) : Int) = (rdN 2 4096 (bs, bad)).1 := ⟨(rdN 2 4096 (bs, bad)).1.toNat, Int.toNat_of_nonneg hrg.1⟩
 have htot : Ye rd N [] st1 = rdL rd (bs, bad) := by
  unfold rdL
  rw [← hN, Int.toNat_natCast, hst1]
 rw [← hN] at hrg ⊢
 rw [← hst1] at I1 hk
 simp only [sA]
 refine Wy (NT s r f1 bv rd bs.length (rdL rd (bs, bad))) N (by omega) ⟨[], st1, .slice none 0 0, bv1, rfl, ?_, SlC.nil, by simp [blk], I1, b1, X1, X1.good hG, by rw [hk]; exact hB.drop k, by rw [hk]; simp, htot, by simp; omega⟩ ?_
 · simp only [sA, Nat.reduceEqDiff, reduceCtorEq]
 rintro m ⟨t, S, ds⟩ hm ⟨l, st, lv, bv2, hds, ⟨t0, t2, t5, t6⟩, sk, bk, I2, b2, X2, G2, hB2, hL2, htot2, hlen⟩
 simp only at hds t0 t2 t5 t6 sk bk I2 X2 G2
 subst hds
 have gr := I2.gr
 have le2 := X2.le
 have g2S := X2.keep g2 (by simp; exact l2)
 have done : Ye rd m l st = (l, st) → Q (lv, S) := fun he => by
  rw [← htot2, he] at hQ
  exact hQ _ ⟨bv2, ⟨SlC.toI sk, bk⟩, I2, X2, b2⟩
 cases m with
 | zero =>
  have := done rfl
  have e0 : ¬ (0 : Int) < ((0 : Nat) : Int) := by omega
  simp only [sA, zb, zo, zm, Nat.reduceEqDiff, za, ze, t0, t2, t5, t6, e0]
  exact this
 | succ m =>
  have e1 : (0 : Int) < ((m + 1 : Nat) : Int) := by omega
  cases hst : st.2 with
  | true =>
   have := done (Kt _ _ _ hst)
   rw [hst] at gr
   simp only [sA, zb, zo, zm, Nat.reduceEqDiff, za, ze, Cells.get, getN, reduceCtorEq, t0, t2, t5, t6, gr, e1]
   exact this
  | false =>
   rw [hst] at gr I2
   have hl2 := DS.get_lt' gr
   simp only [sA, zb, zo, zm, Nat.reduceEqDiff, Cells.get, getN, reduceCtorEq, t0, t2, t5, t6, gr, e1, g2S]
   refine W.mono (hf d S r bv2 st.1 false (hDf.keep X2 fun p hp => by simp; exact lf p hp) lf I2 hB2 (by omega) G2) ?_
   rintro ⟨v3, s3⟩ ⟨bv3, R3, I3, X3, b3⟩
   simp only at R3 I3 X3 b3
   have hstE : (st.1, false) = st := Prod.ext rfl hst.symm
   rw [hstE] at R3 I3
   obtain ⟨x, hx⟩ : ∃ x, x = (rd st).1 := ⟨_, rfl⟩
   rw [← hx] at R3
   have hv3 := hrow _ _ _ _ R3
   subst hv3
   have le3 := X3.le
   have G3 := X3.good G2
   obtain ⟨k3, hk3⟩ := oR.suf st
   obtain ⟨alv, clv, hlv⟩ := sk.shape
   simp (maxDischargeDepth := 8) only [sA, sM, Nat.reduceLeDiff, zi, repeatZ, Nat.reduceLT, G3]
   obtain ⟨S1, hS1⟩ : ∃ S1 : DS, S1 = s3.new (.cells (.list [.int .i64 x]) false) := ⟨_, rfl⟩
   rw [← hS1]
   have X4 : ∀ F, Ext F s3 S1 := fun F => by rw [hS1]; exact Ext.new
   have n4 : S1.next = s3.next + 1 := by rw [hS1]; rfl
   have g4 : S1.get s3.next = some (.cells (.list [.int .i64 x]) false) := by rw [hS1]; exact DS.new_get_self G3
   have hw : SlV S1 1 (.slice (some ⟨s3.next, 0, none⟩) 1 1) [[.int .i64 x]] := .inr ⟨s3.next, 0, none, 1, rfl, by unfold DS.read; rw [g4]; simp only [List.length_cons, List.length_nil, List.flatten_cons, List.flatten_nil, List.append_nil]; rfl⟩
   have hlm : (ints l).length = l.length := Fw l
   refine W.mono (To ((sk.keep X3 fun k hk => by have := bk k hk; simp; omega).keep (X4 []) (by simp)) hw (CY l) (CY [x]) ((X4 []).good G3) (by rw [hlm]; simp; omega) (by rw [hlm]; simp; omega)) ?_
   rintro ⟨lv4, S4⟩ ⟨sk4, X5, b5, _⟩
   simp only at sk4 X5 b5
   have w2 : zt .i64 (((m + 1 : Nat) : Int) - 1) = (m : Int) := by rw [zW (by omega) (by omega)]; omega
   simp only [sA, zo, zm, Nat.reduceEqDiff, t0, t2, t5, t6, w2]
   have X6 : Ext [r] s S4 := ((X2.trans' X3).trans' (X4 _)).trans X5 fun k hk => .inr (bk k hk)
   have hblt : ∀ k, k ∈ blk bv3 → k < s.next := fun k hk => h.sl.lt k (b2 k (b3 k hk))
   refine ⟨m, by omega, ⟨l ++ [x], (rd st).2, lv4, bv3, rfl, by simp only [sA, Nat.reduceEqDiff, reduceCtorEq, t0, t2], ?_, fun k hk => ?_, (I3.keep (X4 []) (by simp) (by simp)).keep X5 (fun hk => by have := bk _ hk; omega) (fun k hk hk2 => by have := bk _ hk2; have := hblt _ hk; omega), fun k hk => b2 k (b3 k hk), X6, X6.good hG, by rw [hk3]; exact hB2.drop k3, by rw [hk3]; simp; omega, ?_, by simp; omega⟩⟩
   · rw [show ints (l ++ [x]) = ints l ++ [[.int .i64 x]] by simp [ints]]
     exact sk4
   · rcases b5 k hk with h | h
     · exact bk k h
     · omega
   · rw [← htot2, Ye, if_neg (by rw [hst]; simp), hx]
abbrev C0 : Nat → DS → Value → List Int × Int → Prop := ZW FB ZY
abbrev C4 : Nat → DS → Value → List Int × (List Int × Int) → Prop := ZW FC C0
theorem RM (n : Nat) (s s' : DS) (v : Value) (x : List Int × Int) (h : C0 n s v x) (e : ∀ k, n ≤ k → s'.get k = s.get k) : C0 n s' v x := by
 obtain ⟨a, b, h0, h1, h2⟩ := h
 exact ⟨a, b, h0, Nq _ _ _ _ _ h1 e, h2⟩
theorem RO (n : Nat) (s s' : DS) (v : Value) (x : List Int × (List Int × Int)) (h : C4 n s v x) (e : ∀ k, n ≤ k → s'.get k = s.get k) : C4 n s' v x := by
 obtain ⟨a, b, h0, h1, h2⟩ := h
 exact ⟨a, b, h0, Nr _ _ _ _ _ h1 e, RM _ _ _ _ _ h2 e⟩
theorem FA (o : Nat) (s : DS) (v : Value) (x : List Int × Int) (h : C0 o s v x) : ∃ b n c q, v = .agg ⟨[.slice b n c, .int .i64 q]⟩ := by
 obtain ⟨a, b, h0, h1, h2⟩ := h
 have h2 : b = _ := h2
 obtain ⟨b', n', c', h1⟩ := C1 _ _ _ _ h1
 subst h1 h2
 exact ⟨_, _, _, _, h0⟩
theorem RN (o : Nat) (s : DS) (v : Value) (x : List Int × (List Int × Int)) (h : C4 o s v x) : ∃ b n c b2 n2 c2 q, v = .agg ⟨[.slice b n c, .slice b2 n2 c2, .int .i64 q]⟩ := by
 obtain ⟨a, b, h0, h1, h2⟩ := h
 obtain ⟨b', n', c', h1⟩ := C3 _ _ _ _ h1
 obtain ⟨b2, n2, c2, q, h2⟩ := FA _ _ _ _ h2
 subst h1 h2
 exact ⟨_, _, _, _, _, _, _, h0⟩
section
variable {E : Env} (hC : GF E) (hP : Ja E) {s : DS} {d : Nat}
include hC hP
theorem Vh {α β : Type} {n m : Nat} (hm : m ≤ s.next) {va vb : Value} {Ra : Nat → DS → Value → α → Prop} {Rb : Nat → DS → Value → β → Prop} {ra : RS → α × RS} {rb : RS → β × RS}
 (hG : s.Good) (ha : zD E n m s va Ra ra) (hb : zD E n m s vb Rb rb) (hcode : E.fn 58 = some d58) (hintr : E.intr 58 = none)
 (hget : ∀ {f1 f2 : Nat} {fp fg gp gg : Value} {Df Dg : List (Nat × DObj)}, Zh E n fg Df Ra ra → Zh E n gg Dg Rb rb → Zh E (n + 1) (.func (.func 93) #[] #[.pointer (some ⟨f1, 0, none⟩), .pointer (some ⟨f2, 0, none⟩)]) ((f1, .cells (.list [fp, fg]) false) :: (f2, .cells (.list [gp, gg]) false) :: (Df ++ Dg)) (ZW Ra Rb) (rdP ra rb)) :
 W (dcall E (d + 1) (.func (.func 58) #[] #[]) [va, vb] s) fun r => zD E (n + 1) m r.2 r.1 (ZW Ra Rb) (rdP ra rb) ∧ Ext [] s r.2 := by
 obtain ⟨f1, a1, b1, g1, p1, q1, D1, rfl, h2, h3, h4⟩ := ha
 obtain ⟨f2, a2, b2, g2, p2, q2, D2, rfl, k2, k3, k4⟩ := hb
 refine zp fun Q hQ => ?_
 rw [zj hintr hcode rfl]
 simp (maxDischargeDepth := 8) only [sA, sM, zb, zk, zH, za, ze, Cells.get, getN, Nat.reduceAdd, zh, zg, Nat.reduceLeDiff, DS.wrC, Cells.size, Cells.fillFrom, Cells.set, zA, zi, pp, pv, pg, DS.read, Cells.take, Nat.reduceLT, d58, hG]
 have X : ∀ o1 o2 o3 o4, Ext [] s ((((s.new o1).new o2).new o3).upd (s.next + 2) o4) := fun _ _ _ _ => (Ext.new.trans' (Ext.new.trans' Ext.new)).trans (Ext.upd (F := [s.next + 2]) (.inl (by simp))) (by simp)
 refine hQ _ ⟨⟨_, _, _, _, _, _, _, rfl, ?_, ?_, hget (f1 := s.next) (f2 := s.next + 1) (fp := .func (.func f1) a1 b1) (gp := .func (.func f2) a2 b2) h4 k4⟩, X _ _ _ _⟩
 · intro p hp
   rcases List.mem_cons.1 hp with rfl | hp
   · simp (maxDischargeDepth := 8) only [sA, sM, Nat.reduceAdd, hG]
   · rcases List.mem_cons.1 hp with rfl | hp
     · simp (maxDischargeDepth := 8) only [sA, sM, Nat.reduceAdd, hG]
     · rcases List.mem_append.1 hp with hp | hp
       · exact (X _ _ _ _).keep (h2 p hp) (by simp)
       · exact (X _ _ _ _).keep (k2 p hp) (by simp)
 · intro p hp
   have hn : ∀ o1 o2 o3 o4, ((((s.new o1).new o2).new o3).upd (s.next + 2) o4).next = s.next + 3 := fun _ _ _ _ => by simp (maxDischargeDepth := 8) only [sA, Nat.reduceAdd, Nat.add_assoc]
   rw [hn]
   rcases List.mem_cons.1 hp with rfl | hp
   · show m ≤ s.next ∧ s.next < s.next + 3; omega
   · rcases List.mem_cons.1 hp with rfl | hp
     · show m ≤ s.next + 1 ∧ s.next + 1 < s.next + 3; omega
     · rcases List.mem_append.1 hp with hp | hp
       · have := h3 p hp; omega
       · have := k3 p hp; omega
theorem Vi {α β : Type} {n m : Nat} (hm : m ≤ s.next) {va vb : Value} {Ra : Nat → DS → Value → α → Prop} {Rb : Nat → DS → Value → β → Prop} {ra : RS → α × RS} {rb : RS → β × RS}
 (hG : s.Good) (ha : zD E n m s va Ra ra) (hb : zD E n m s vb Rb rb) (hcode : E.fn 56 = some d56) (hintr : E.intr 56 = none)
 (hget : ∀ {f1 f2 : Nat} {fp fg gp gg : Value} {Df Dg : List (Nat × DObj)}, Zh E n fg Df Ra ra → Zh E n gg Dg Rb rb → Zh E (n + 1) (.func (.func 86) #[] #[.pointer (some ⟨f1, 0, none⟩), .pointer (some ⟨f2, 0, none⟩)]) ((f1, .cells (.list [fp, fg]) false) :: (f2, .cells (.list [gp, gg]) false) :: (Df ++ Dg)) (ZW Ra Rb) (rdP ra rb)) :
 W (dcall E (d + 1) (.func (.func 56) #[] #[]) [va, vb] s) fun r => zD E (n + 1) m r.2 r.1 (ZW Ra Rb) (rdP ra rb) ∧ Ext [] s r.2 := by
 obtain ⟨f1, a1, b1, g1, p1, q1, D1, rfl, h2, h3, h4⟩ := ha
 obtain ⟨f2, a2, b2, g2, p2, q2, D2, rfl, k2, k3, k4⟩ := hb
 refine zp fun Q hQ => ?_
 rw [zj hintr hcode rfl]
 simp (maxDischargeDepth := 8) only [sA, sM, zb, zk, zH, za, ze, Cells.get, getN, Nat.reduceAdd, zh, zg, Nat.reduceLeDiff, DS.wrC, Cells.size, Cells.fillFrom, Cells.set, zA, zi, pp, pv, pg, DS.read, Cells.take, Nat.reduceLT, d56, hG]
 have X : ∀ o1 o2 o3 o4, Ext [] s ((((s.new o1).new o2).new o3).upd (s.next + 2) o4) := fun _ _ _ _ => (Ext.new.trans' (Ext.new.trans' Ext.new)).trans (Ext.upd (F := [s.next + 2]) (.inl (by simp))) (by simp)
 refine hQ _ ⟨⟨_, _, _, _, _, _, _, rfl, ?_, ?_, hget (f1 := s.next) (f2 := s.next + 1) (fp := .func (.func f1) a1 b1) (gp := .func (.func f2) a2 b2) h4 k4⟩, X _ _ _ _⟩
 · intro p hp
   rcases List.mem_cons.1 hp with rfl | hp
   · simp (maxDischargeDepth := 8) only [sA, sM, Nat.reduceAdd, hG]
   · rcases List.mem_cons.1 hp with rfl | hp
     · simp (maxDischargeDepth := 8) only [sA, sM, Nat.reduceAdd, hG]
     · rcases List.mem_append.1 hp with hp | hp
       · exact (X _ _ _ _).keep (h2 p hp) (by simp)
       · exact (X _ _ _ _).keep (k2 p hp) (by simp)
 · intro p hp
   have hn : ∀ o1 o2 o3 o4, ((((s.new o1).new o2).new o3).upd (s.next + 2) o4).next = s.next + 3 := fun _ _ _ _ => by simp (maxDischargeDepth := 8) only [sA, Nat.reduceAdd, Nat.add_assoc]
   rw [hn]
   rcases List.mem_cons.1 hp with rfl | hp
   · show m ≤ s.next ∧ s.next < s.next + 3; omega
   · rcases List.mem_cons.1 hp with rfl | hp
     · show m ≤ s.next + 1 ∧ s.next + 1 < s.next + 3; omega
     · rcases List.mem_append.1 hp with hp | hp
       · have := h3 p hp; omega
       · have := k3 p hp; omega
theorem Vj {α β : Type} {n m : Nat} (hm : m ≤ s.next) {va vb : Value} {Ra : Nat → DS → Value → α → Prop} {Rb : Nat → DS → Value → β → Prop} {ra : RS → α × RS} {rb : RS → β × RS}
 (hG : s.Good) (ha : zD E n m s va Ra ra) (hb : zD E n m s vb Rb rb) (hcode : E.fn 52 = some d52) (hintr : E.intr 52 = none)
 (hget : ∀ {f1 f2 : Nat} {fp fg gp gg : Value} {Df Dg : List (Nat × DObj)}, Zh E n fg Df Ra ra → Zh E n gg Dg Rb rb → Zh E (n + 1) (.func (.func 81) #[] #[.pointer (some ⟨f1, 0, none⟩), .pointer (some ⟨f2, 0, none⟩)]) ((f1, .cells (.list [fp, fg]) false) :: (f2, .cells (.list [gp, gg]) false) :: (Df ++ Dg)) (ZW Ra Rb) (rdP ra rb)) :
 W (dcall E (d + 1) (.func (.func 52) #[] #[]) [va, vb] s) fun r => zD E (n + 1) m r.2 r.1 (ZW Ra Rb) (rdP ra rb) ∧ Ext [] s r.2 := by
 obtain ⟨f1, a1, b1, g1, p1, q1, D1, rfl, h2, h3, h4⟩ := ha
 obtain ⟨f2, a2, b2, g2, p2, q2, D2, rfl, k2, k3, k4⟩ := hb
 refine zp fun Q hQ => ?_
 rw [zj hintr hcode rfl]
 simp (maxDischargeDepth := 8) only [sA, sM, zb, zk, zH, za, ze, Cells.get, getN, Nat.reduceAdd, zh, zg, Nat.reduceLeDiff, DS.wrC, Cells.size, Cells.fillFrom, Cells.set, zA, zi, pp, pv, pg, DS.read, Cells.take, Nat.reduceLT, d52, hG]
 have X : ∀ o1 o2 o3 o4, Ext [] s ((((s.new o1).new o2).new o3).upd (s.next + 2) o4) := fun _ _ _ _ => (Ext.new.trans' (Ext.new.trans' Ext.new)).trans (Ext.upd (F := [s.next + 2]) (.inl (by simp))) (by simp)
 refine hQ _ ⟨⟨_, _, _, _, _, _, _, rfl, ?_, ?_, hget (f1 := s.next) (f2 := s.next + 1) (fp := .func (.func f1) a1 b1) (gp := .func (.func f2) a2 b2) h4 k4⟩, X _ _ _ _⟩
 · intro p hp
   rcases List.mem_cons.1 hp with rfl | hp
   · simp (maxDischargeDepth := 8) only [sA, sM, Nat.reduceAdd, hG]
   · rcases List.mem_cons.1 hp with rfl | hp
     · simp (maxDischargeDepth := 8) only [sA, sM, Nat.reduceAdd, hG]
     · rcases List.mem_append.1 hp with hp | hp
       · exact (X _ _ _ _).keep (h2 p hp) (by simp)
       · exact (X _ _ _ _).keep (k2 p hp) (by simp)
 · intro p hp
   have hn : ∀ o1 o2 o3 o4, ((((s.new o1).new o2).new o3).upd (s.next + 2) o4).next = s.next + 3 := fun _ _ _ _ => by simp (maxDischargeDepth := 8) only [sA, Nat.reduceAdd, Nat.add_assoc]
   rw [hn]
   rcases List.mem_cons.1 hp with rfl | hp
   · show m ≤ s.next ∧ s.next < s.next + 3; omega
   · rcases List.mem_cons.1 hp with rfl | hp
     · show m ≤ s.next + 1 ∧ s.next + 1 < s.next + 3; omega
     · rcases List.mem_append.1 hp with hp | hp
       · have := h3 p hp; omega
       · have := k3 p hp; omega
theorem De (hG : s.Good) {m : Nat} (hm : m ≤ s.next) (hblob : E.fn 57 = some d57) (iblob : E.intr 57 = none) (h2 : E.fn 89 = some d89) (i2 : E.intr 89 = none) (hc : E.fn 90 = some d90) (ic : E.intr 90 = none) :
 W (dcall E (d + 2) (.func (.func 57) #[] #[]) [] s) fun r => zD E 4 m r.2 r.1 FC rdB ∧ Ext [] s r.2 := by
 refine zp fun Q hQ => ?_
 rw [zj iblob hblob rfl]
 simp (maxDischargeDepth := 8) only [sA, pp, d57, hG]
 obtain ⟨S, hS⟩ : ∃ S : DS, S = s.new (.cells (.list [.nilFunc, .nilFunc]) false) := ⟨_, rfl⟩
 rw [← hS]
 have XS : Ext [] s S := by rw [hS]; exact Ext.new
 have nS : S.next = s.next + 1 := by rw [hS]; simp (maxDischargeDepth := 8) only [z8]
 have hGS := XS.good hG
 have S0 : S.get s.next = some (.cells (.list [.nilFunc, .nilFunc]) false) := by rw [hS]; simp (maxDischargeDepth := 8) only [ZD, hG]
 have wS : S.wr s.next = true := XS.wrs (hG _ (Nat.le_refl _)).2
 clear hS
 refine W.mono (XL hP (d := d) hGS 4 65536) ?_
 rintro ⟨v2, s2⟩ ⟨hv2, n1, n2, X2, hn2⟩
 simp only at hv2 n1 n2 X2 hn2
 subst hv2
 have hG2 := X2.good hGS
 have T0 := X2.keep S0 (by simp)
 have wT := X2.wrs wS
 rw [nS] at n1 n2 hn2 ⊢
 have hlt : s.next < s2.next := by omega
 simp (maxDischargeDepth := 8) only [sA, sM, zk, za, ze, Cells.get, getN, Nat.reduceAdd, zh, zg, Nat.reduceLeDiff, DS.wrC, Cells.size, Cells.fillFrom, Cells.set, zA, zi, DS.read, Cells.take, Nat.reduceLT, hG2, T0, wT, hlt]
 have X4 : ∀ o1 o2 o3, Ext [] s (((s2.new o1).upd s2.next o2).upd s.next o3) := fun o1 o2 o3 => by
  have e1 : Ext [] s2 (s2.new o1) := Ext.new
  have e2 : Ext [s2.next] (s2.new o1) ((s2.new o1).upd s2.next o2) := Ext.upd (.inl (by simp))
  have e3 : Ext [s.next] ((s2.new o1).upd s2.next o2) (((s2.new o1).upd s2.next o2).upd s.next o3) := Ext.upd (.inl (by simp))
  exact ((XS.trans' X2).trans' (e1.trans e2 (by simp))).trans e3 (by simp)
 refine hQ _ ⟨⟨_, _, _, _, _, _, (s2.next, .cells (.list [.func (.func 120) #[] #[.pointer (some ⟨s.next + 1, 0, none⟩), .pointer (some ⟨s.next + 1 + 1, 0, none⟩)], .func (.func 122) #[] #[.pointer (some ⟨s.next + 1, 0, none⟩), .pointer (some ⟨s.next + 1 + 1, 0, none⟩)]]) false) :: [(s.next + 1, .cells (.list [.int .i64 ((4 : Nat) : Int)]) false), (s.next + 1 + 1, .cells (.list [.int .i64 65536]) false)], rfl, ?_, ?_, Pm hC (QP hC (b1 := s.next + 1) (b2 := s.next + 1 + 1) (size := 4) (most := 65536) (by omega) (by omega)) (by omega) h2 i2 hc ic⟩, X4 _ _ _⟩
 · intro p hp
   rcases List.mem_cons.1 hp with rfl | hp
   · simp (maxDischargeDepth := 8) only [sA, sM, Nat.reduceAdd, hG2, show ¬ s2.next = s.next by omega]
   · rcases List.mem_cons.1 hp with rfl | hp
     · simp (maxDischargeDepth := 8) only [sA, YM, n1, show ¬ s.next + 1 = s.next by omega, show ¬ s.next + 1 = s2.next by omega, show s.next + 1 < s2.next by omega]
       rfl
     · rcases List.mem_cons.1 hp with rfl | hp
       · simp (maxDischargeDepth := 8) only [sA, sM, Nat.reduceAdd, n2, show ¬ s.next + 1 + 1 = s.next by omega, show ¬ s.next + 1 + 1 = s2.next by omega, show s.next + 1 + 1 < s2.next by omega]
       · cases hp
 · intro p hp
   have hfin : m ≤ p.1 ∧ p.1 < s2.next + 1 := by
    rcases List.mem_cons.1 hp with rfl | hp
    · show m ≤ s2.next ∧ s2.next < s2.next + 1; omega
    · rcases List.mem_cons.1 hp with rfl | hp
      · show m ≤ s.next + 1 ∧ s.next + 1 < s2.next + 1; omega
      · rcases List.mem_cons.1 hp with rfl | hp
        · show m ≤ s.next + 1 + 1 ∧ s.next + 1 + 1 < s2.next + 1; omega
        · cases hp
   simp (maxDischargeDepth := 8) only [sA]
   exact hfin
theorem Vc {n m : Nat} (hm : m ≤ s.next) {v : Value} {R : Nat → DS → Value → Int → Prop} {rd : RS → Int × RS}
 (hG : s.Good) (ha : zD E n m s v R rd) (hn : 3 ≤ n) (oR : XQ rd) (hrow : ∀ o s v x, R o s v x → v = .int .i64 x) (hcode : E.fn 59 = some d59) (hintr : E.intr 59 = none) (hcode1 : E.fn 95 = some d95) (hintr1 : E.intr 95 = none) :
 W (dcall E (d + 2) (.func (.func 59) #[] #[]) [v] s) fun r => zD E (n + 1) m r.2 r.1 FB (rdL rd) ∧ Ext [] s r.2 := by
 obtain ⟨f1, a1, b1, g1, p1, q1, D1, rfl, h2, h3, h4⟩ := ha
 refine zp fun Q hQ => ?_
 rw [zj hintr hcode rfl]
 simp (maxDischargeDepth := 8) only [sA, sM, zb, zH, Cells.get, getN, pp, d59, hG]
 obtain ⟨S, hS⟩ : ∃ S : DS, S = (s.new (.cells (.list [.func (.func f1) a1 b1, .func (.func g1) p1 q1]) false)).new (.cells (.list [.nilFunc, .nilFunc]) false) := ⟨_, rfl⟩
 rw [← hS]
 have XS : Ext [] s S := by rw [hS]; exact Ext.new.trans' Ext.new
 have nS : S.next = s.next + 2 := by rw [hS]; simp (maxDischargeDepth := 8) only [Nat.reduceAdd, z8, Nat.add_assoc]
 have hGS := XS.good hG
 have S0 : S.get s.next = some (.cells (.list [.func (.func f1) a1 b1, .func (.func g1) p1 q1]) false) := by rw [hS]; simp (maxDischargeDepth := 8) only [sM, z8, hG]
 have S1 : S.get (s.next + 1) = some (.cells (.list [.nilFunc, .nilFunc]) false) := by rw [hS]; simp (maxDischargeDepth := 8) only [sM, z8, hG]
 have wS : S.wr (s.next + 1) = true := XS.wrs (hG _ (by omega)).2
 refine W.mono (XL hP hGS 2 4096) ?_
 rintro ⟨v2, s2⟩ ⟨hv2, n1, n2, X2, hn2⟩
 simp only at hv2 n1 n2 X2 hn2
 subst hv2
 have hG2 := X2.good hGS
 have T1 := X2.keep S1 (by simp)
 have wT := X2.wrs wS
 have hlt : s.next + 1 < s2.next := by omega
 rw [nS] at n1 n2 hn2 ⊢
 simp (maxDischargeDepth := 8) only [sA, sM, zk, za, ze, Cells.get, getN, Nat.reduceAdd, zh, zg, Nat.reduceLeDiff, DS.wrC, Cells.size, Cells.fillFrom, Cells.set, zA, zi, DS.read, Cells.take, Nat.reduceLT, hG2, T1, wT, hlt]
 refine hQ _ ⟨⟨_, _, _, _, _, _, (s2.next, .cells (.list [.func (.func 120) #[] #[.pointer (some ⟨s.next + 2, 0, none⟩), .pointer (some ⟨s.next + 3, 0, none⟩)], .func (.func 122) #[] #[.pointer (some ⟨s.next + 2, 0, none⟩), .pointer (some ⟨s.next + 3, 0, none⟩)]]) false) :: (s.next, .cells (.list [.func (.func f1) a1 b1, .func (.func g1) p1 q1]) false) :: ([(s.next + 2, .cells (.list [.int .i64 ((2 : Nat) : Int)]) false), (s.next + 3, .cells (.list [.int .i64 4096]) false)] ++ D1), rfl, ?_, ?_, DT ((QP hC (b1 := s.next + 2) (b2 := s.next + 3) (size := 2) (most := 4096) (by omega) (by omega)).mono hn) h4 oR hrow (by have := hC.lf; omega) hcode1 hintr1⟩, ?_⟩
 · intro p hp
   rcases List.mem_cons.1 hp with rfl | hp
   · simp (maxDischargeDepth := 8) only [sA, ZD, hG2, show ¬ s2.next = s.next + 1 by omega]
   · rcases List.mem_cons.1 hp with rfl | hp
     · simp (maxDischargeDepth := 8) only [sA, sM, hG2, show ¬ s.next = s2.next by omega, show s.next < s2.next by omega, X2.keep S0 (by simp)]
     · rcases List.mem_append.1 hp with hp | hp
       · rcases List.mem_cons.1 hp with rfl | hp
         · simp (maxDischargeDepth := 8) only [sA, sM, hG2, show ¬ s.next + 2 = s2.next by omega, show s.next + 2 < s2.next by omega, n1]
           rfl
         · rcases List.mem_cons.1 hp with rfl | hp
           · simp (maxDischargeDepth := 8) only [sA, sM, Nat.reduceLT, hG2, show ¬ s.next + 3 = s2.next by omega, show s.next + 3 < s2.next by omega, n2]
           · cases hp
       · have h5 := h3 p hp
         have h6 := X2.keep (XS.keep (h2 p hp) (by simp)) (by simp)
         simp (maxDischargeDepth := 8) only [sA, YM, hG2, show ¬ p.1 = s2.next by omega, show ¬ p.1 = s.next + 1 by omega, show p.1 < s2.next by omega, h6]
 · intro p hp
   have hfin : m ≤ p.1 ∧ p.1 < s2.next + 1 := by
    rcases List.mem_cons.1 hp with rfl | hp
    · show m ≤ s2.next ∧ s2.next < s2.next + 1; omega
    · rcases List.mem_cons.1 hp with rfl | hp
      · show m ≤ s.next ∧ s.next < s2.next + 1; omega
      · rcases List.mem_append.1 hp with hp | hp
        · rcases List.mem_cons.1 hp with rfl | hp
          · show m ≤ s.next + 2 ∧ s.next + 2 < s2.next + 1; omega
          · rcases List.mem_cons.1 hp with rfl | hp
            · show m ≤ s.next + 3 ∧ s.next + 3 < s2.next + 1; omega
            · cases hp
        · have h5 := h3 p hp; omega
   simp (maxDischargeDepth := 8) only [sA]
   exact hfin
 · have X3 := XS.trans' X2
   have X4 : Ext [s2.next, s.next + 1] s2 (((s2.new (.cells (.list [.nilFunc, .nilFunc]) false)).upd s2.next (.cells (.list [.func (.func 120) #[] #[.pointer (some ⟨s.next + 2, 0, none⟩), .pointer (some ⟨s.next + 3, 0, none⟩)], .func (.func 122) #[] #[.pointer (some ⟨s.next + 2, 0, none⟩), .pointer (some ⟨s.next + 3, 0, none⟩)]]) false)).upd (s.next + 1) (.cells (.list [.func (.func 94) #[] #[.pointer (some ⟨s2.next, 0, none⟩), .pointer (some ⟨s.next, 0, none⟩)], .func (.func 95) #[] #[.pointer (some ⟨s2.next, 0, none⟩), .pointer (some ⟨s.next, 0, none⟩)]]) false)) := Ext.new.trans' ((Ext.upd (.inl (by simp))).trans' (Ext.upd (.inl (by simp))))
   exact X3.trans X4 (by simp; omega)
end
end Go.Dx.TbA
