/- A part. -/
import Derived.Test.YtffgmngdgkpflaaGreatT1Ga
import Derived.Test.YtffgmngdgkpflaaGreatDxTp
import Derived.Test.YtffgmngdgkpflaaGreatDxF
set_option linter.unusedVariables false
set_option linter.unusedSimpArgs false
set_option linter.unusedSectionVars false
set_option maxRecDepth 100000
set_option maxHeartbeats 4000000
namespace Go.Dx.TbA
open Go Go.Dx Go.Dx.Tab Go.Proofs.YtffgmngdgkpflaaGreat
structure LX (E : Env) : Prop where
 fbFB1 : E.fn 85 = some d85
 ibFB1 : E.intr 85 = none
 fbLL1 : E.fn 81 = some d81
 ibLL1 : E.intr 81 = none
 fblob1 : E.fn 90 = some d90
 iblob1 : E.intr 90 = none
 ftmany1 : E.fn 79 = some d79
 itmany1 : E.intr 79 = none
 fEncT : E.fn 36 = some d36
 iEncT : E.intr 36 = none
def Pq (o : Nat) (s : DS) (v : Value) (x : List Int) : Prop := SlV s 1 v (Zy x) ∧ ∀ k, k ∈ blk v → k < o
theorem D3 : Xe Pq := ⟨fun o s s' v x ⟨h1, h2⟩ hs => ⟨h1.of fun k hk => hs k (h2 k hk), h2⟩, fun o o' s v x ⟨h1, h2⟩ hs => ⟨h1, fun k hk => Nat.lt_of_lt_of_le (h2 k hk) hs⟩⟩
theorem SV : ∀ (o : Nat) (s : DS) (v : Value) (x : List Int), Pq o s v x → ∃ b n c, v = .slice b n c := fun o s v x ⟨h1, _⟩ => by
 rcases h1 with ⟨h, _⟩ | ⟨b, off, sp, c, h, _⟩
 · exact ⟨_, _, _, h⟩
 · exact ⟨_, _, _, h⟩
theorem NI {o : Nat} {s : DS} {v : Value} {x : List Int} (h : Pq o s v x) : ∃ b c, v = .slice b x.length c := by
 rcases h.1 with ⟨e, h2⟩ | ⟨b, off, sp, c, e, _⟩
 · have : x = [] := by simpa [Zy] using h2
   subst this
   exact ⟨none, 0, e⟩
 · rw [Ze] at e
   exact ⟨_, _, e⟩
def HP (x : List Int) : List Int := leB (x.length : Int) 4 ++ x
section
variable {E : Env} (hC : KQ E) {s : DS} {d : Nat}
include hC
theorem MH {c1 : Nat} {cp cg : Value} {n : Nat} {D : List (Nat × DObj)} (ha : YN E n cp D F3 (Jb 4 65536) (fun x => leB x 4)) (hn : 1 ≤ n) (h1 : E.fn 90 = some d90) (i1 : E.intr 90 = none) :
 YN E (n + 1) (.func (.func 90) #[] #[.pointer (some ⟨c1, 0, none⟩)]) ((c1, .cells (.list [cp, cg]) false) :: D) Pq (fun x => x.length ≤ 65536) HP := by
 intro d s o bv bs v x hD hb2 h hG hv hx hlen
 have g1 := hD _ (List.mem_cons_self ..)
 simp only at g1
 have hDf : YV s D := hD.sub fun p hp => List.mem_cons_of_mem _ hp
 have lf : ∀ p, p ∈ D → p.1 < o := fun p hp => hb2 p (List.mem_cons_of_mem _ hp)
 have hol := DS.get_lt' h.go
 unfold HP at hlen ⊢
 simp only [List.length_append, ZP] at hlen
 have hv0 := hv
 obtain ⟨b, c, rfl⟩ := NI hv
 refine Zh fun Q hQ => ?_
 obtain ⟨n, rfl⟩ : ∃ n', n = n' + 1 := ⟨n - 1, by omega⟩
 show W (dcall E ((d + n + 1) + 1) _ _ _) Q
 rw [Yw i1 h1 rfl]
 simp (maxSteps := 4000000) only [zq, zg, zo, ze, zr, zj, zK, zF, ZE, z9, zB, zp, zi, zd, zb, zc, Nat.reduceEqDiff, z0, zh, List.getElem?_cons_zero, List.getElem?_cons_succ, z1, z4, z5, zG, Cells.get, getN, reduceCtorEq, List.nil_append, List.cons_append, pp, pv, Nat.add_zero, d90, g1]
 refine W.mono (ha d s o bv bs _ (x.length : Int) hDf lf h hG rfl (.inr ⟨by omega, by omega⟩) (by rw [ZP]; omega)) ?_
 rintro ⟨v3, s3⟩ ⟨hv3, bv3, O3, X3, b3⟩
 simp only at hv3 O3 X3 b3
 subst hv3
 simp (maxSteps := 4000000) only [zg, za, zf, zl, zo, ze, zK, zB, zi, zA, zd, zb, zc, Nat.reduceEqDiff, z0, zh, List.getElem?_cons_zero, List.getElem?_cons_succ, z1, z4, z5, reduceCtorEq]
 refine W.mono (RD hC (d := d + n) O3 (X3.good hG) ((D3.stab _ _ _ _ _ hv0 (QJ h X3)).1) (by rw [List.length_append, ZP]; omega)) ?_
 rintro ⟨v4, s4⟩ h4
 have hv4 := h4.val
 simp only at hv4
 subst hv4
 simp (maxSteps := 4000000) only [zf, zl, ze, zj, Zw, zd, zn, zy]
 refine hQ _ ?_
 rw [← List.append_assoc]
 exact Kr.next X3 b3 h4
theorem SA {f1 f2 : Nat} {fp fg gp gg : Value} {α β : Type} {n : Nat} {Df Dg : List (Nat × DObj)} {Ra : Nat → DS → Value → α → Prop} {Rb : Nat → DS → Value → β → Prop} {Oka : α → Prop} {Okb : β → Prop} {ea : α → List Int} {eb : β → List Int}
 (ha : YN E n fp Df Ra Oka ea) (hb : YN E n gp Dg Rb Okb eb) (sa : Xe Ra) (sb : Xe Rb) (ca : ∀ o s v x, Ra o s v x → (∃ n, v = .bool n)) (cb : ∀ o s v x, Rb o s v x → (∃ b n c, v = .slice b n c)) (hcode : E.fn 85 = some d85) (hintr : E.intr 85 = none) :
 YN E (n + 1) (.func (.func 85) #[] #[.pointer (some ⟨f1, 0, none⟩), .pointer (some ⟨f2, 0, none⟩)]) ((f1, .cells (.list [fp, fg]) false) :: (f2, .cells (.list [gp, gg]) false) :: (Df ++ Dg)) (W9 Ra Rb) (fun x => Oka x.1 ∧ Okb x.2) (fun x => ea x.1 ++ eb x.2) := by
 intro d s o bv bs v x hD hb2 h hG hv hx hlen
 obtain ⟨a, b, rfl, hra, hrb⟩ := hv
 have g1 := hD _ (List.mem_cons_self ..)
 have g2 := hD (f2, _) (List.mem_cons_of_mem _ (List.mem_cons_self ..))
 have l1 := hb2 _ (List.mem_cons_self ..)
 have l2 := hb2 (f2, _) (List.mem_cons_of_mem _ (List.mem_cons_self ..))
 simp only at g1 g2 l1 l2
 have hDf : YV s Df := hD.sub fun p hp => List.mem_cons_of_mem _ (List.mem_cons_of_mem _ (List.mem_append_left _ hp))
 have hDg : YV s Dg := hD.sub fun p hp => List.mem_cons_of_mem _ (List.mem_cons_of_mem _ (List.mem_append_right _ hp))
 have lf : ∀ p, p ∈ Df → p.1 < o := fun p hp => hb2 p (List.mem_cons_of_mem _ (List.mem_cons_of_mem _ (List.mem_append_left _ hp)))
 have lg : ∀ p, p ∈ Dg → p.1 < o := fun p hp => hb2 p (List.mem_cons_of_mem _ (List.mem_cons_of_mem _ (List.mem_append_right _ hp)))
 have hol := DS.get_lt' h.go
 have l1s : f1 < s.next := Nat.lt_trans l1 hol
 have l2s : f2 < s.next := Nat.lt_trans l2 hol
 rw [List.length_append] at hlen
 have hca := ca _ _ _ _ hra
 have hcb := cb _ _ _ _ hrb
 refine Zh fun Q hQ => ?_
 show W (dcall E ((d + n) + 1) _ _ _) Q
 rw [Yw hintr hcode rfl]
 obtain ⟨a, rfl⟩ := hca
 obtain ⟨y1, y2, y3, rfl⟩ := hcb
 simp (maxSteps := 4000000) (maxDischargeDepth := 8) only [zq, zg, za, zf, zl, zo, ze, zr, zj, zK, zF, z9, ZA, zB, zp, zi, zd, zb, zc, z0, zh, List.getElem?_cons_zero, List.getElem?_cons_succ, z1, z4, z5, zG, Cells.get, getN, ZO, YE, zx, List.nil_append, List.cons_append, pp, pv, Nat.add_zero, zk, zw, zJ, Nat.reduceLT, Nat.lt_add_one, Nat.succ_pos, d85, g1, g2, hG, l1s, l2s]
 obtain ⟨S1, hS1⟩ : ∃ S1 : DS, S1 = s.new (.cells (.list [.bool a, .slice y1 y2 y3]) false) := ⟨_, rfl⟩
 rw [← hS1]
 have X1 : ∀ F, Ext F s S1 := fun F => by rw [hS1]; exact Ext.new
 have gS : S1.get s.next = some (.cells (.list [.bool a, .slice y1 y2 y3]) false) := by rw [hS1]; exact DS.new_get_self hG
 have Y1 : Same o s S1 := fun k hk => (X1 []).get k (Nat.lt_trans hk hol) (by simp)
 have O1 : QU S1 o bv bs := ⟨(X1 []).keep h.go (by simp), (X1 []).wrs h.wo, h.sl.keep (X1 []) (by simp), h.up, h.len⟩
 refine W.mono (ha d S1 o bv bs _ x.1 (hDf.keep (X1 []) (by simp)) lf O1 ((X1 []).good hG) (sa.stab _ _ _ _ _ hra Y1) hx.1 (by omega)) ?_
 rintro ⟨v2, s2⟩ ⟨hv2, bv2, O2, X2, b2⟩
 simp only at hv2 O2 X2 b2
 have Y2 := QJ O1 X2
 have YY := Y1.trans Y2
 have gS2 := X2.keep gS (by
  simp only [List.mem_cons, not_or]
  exact ⟨by omega, fun hk => by have := h.sl.lt _ hk; omega⟩)
 have g22 := (YY f2 l2).trans g2
 simp (maxSteps := 4000000) only [zg, za, zf, zl, zo, ze, zr, zj, zK, zF, z9, zB, zp, zi, zd, zb, zc, Nat.reduceEqDiff, z0, zh, List.getElem?_cons_zero, List.getElem?_cons_succ, z1, z4, z5, zG, Cells.get, getN, Nat.zero_add, reduceCtorEq, Nat.add_zero, gS2, g22]
 refine W.mono (hb d s2 o bv2 (bs ++ ea x.1) _ x.2 (hDg.same lg YY) lg O2 (X2.good ((X1 []).good hG)) (sb.stab _ _ _ _ _ hrb YY) hx.2 (by rw [List.length_append]; omega)) ?_
 rintro ⟨v3, s3⟩ h3
 have hv3 := h3.val
 simp only at hv3
 subst hv3
 have X12 : Ext (o :: blk bv) s s2 := (X1 _).trans' X2
 have h4 := Kr.next X12 (fun k hk => by
  rcases b2 k hk with h | h
  · exact .inl h
  · exact .inr (Nat.le_trans (X1 []).le h)) h3
 simp (maxSteps := 4000000) only [zf, zl, ze, zj, Zw, zd, zn, zy]
 refine hQ _ ?_
 rw [← List.append_assoc]
 exact h4
theorem SC {f1 f2 : Nat} {fp fg gp gg : Value} {α β : Type} {n : Nat} {Df Dg : List (Nat × DObj)} {Ra : Nat → DS → Value → α → Prop} {Rb : Nat → DS → Value → β → Prop} {Oka : α → Prop} {Okb : β → Prop} {ea : α → List Int} {eb : β → List Int}
 (ha : YN E n fp Df Ra Oka ea) (hb : YN E n gp Dg Rb Okb eb) (sa : Xe Ra) (sb : Xe Rb) (ca : ∀ o s v x, Ra o s v x → (∃ n1 n2, v = .agg ⟨[.int .i64 n1, .int .i64 n2]⟩)) (cb : ∀ o s v x, Rb o s v x → (∃ q b n c, v = .agg ⟨[.bool q, .slice b n c]⟩)) (hcode : E.fn 81 = some d81) (hintr : E.intr 81 = none) :
 YN E (n + 1) (.func (.func 81) #[] #[.pointer (some ⟨f1, 0, none⟩), .pointer (some ⟨f2, 0, none⟩)]) ((f1, .cells (.list [fp, fg]) false) :: (f2, .cells (.list [gp, gg]) false) :: (Df ++ Dg)) (W9 Ra Rb) (fun x => Oka x.1 ∧ Okb x.2) (fun x => ea x.1 ++ eb x.2) := by
 intro d s o bv bs v x hD hb2 h hG hv hx hlen
 obtain ⟨a, b, rfl, hra, hrb⟩ := hv
 have g1 := hD _ (List.mem_cons_self ..)
 have g2 := hD (f2, _) (List.mem_cons_of_mem _ (List.mem_cons_self ..))
 have l1 := hb2 _ (List.mem_cons_self ..)
 have l2 := hb2 (f2, _) (List.mem_cons_of_mem _ (List.mem_cons_self ..))
 simp only at g1 g2 l1 l2
 have hDf : YV s Df := hD.sub fun p hp => List.mem_cons_of_mem _ (List.mem_cons_of_mem _ (List.mem_append_left _ hp))
 have hDg : YV s Dg := hD.sub fun p hp => List.mem_cons_of_mem _ (List.mem_cons_of_mem _ (List.mem_append_right _ hp))
 have lf : ∀ p, p ∈ Df → p.1 < o := fun p hp => hb2 p (List.mem_cons_of_mem _ (List.mem_cons_of_mem _ (List.mem_append_left _ hp)))
 have lg : ∀ p, p ∈ Dg → p.1 < o := fun p hp => hb2 p (List.mem_cons_of_mem _ (List.mem_cons_of_mem _ (List.mem_append_right _ hp)))
 have hol := DS.get_lt' h.go
 have l1s : f1 < s.next := Nat.lt_trans l1 hol
 have l2s : f2 < s.next := Nat.lt_trans l2 hol
 rw [List.length_append] at hlen
 have hca := ca _ _ _ _ hra
 have hcb := cb _ _ _ _ hrb
 refine Zh fun Q hQ => ?_
 show W (dcall E ((d + n) + 1) _ _ _) Q
 rw [Yw hintr hcode rfl]
 obtain ⟨x1, x2, rfl⟩ := hca
 obtain ⟨y1, y2, y3, y4, rfl⟩ := hcb
 simp (maxSteps := 4000000) (maxDischargeDepth := 8) only [zq, zg, za, zf, zl, zo, ze, zr, zj, zK, zF, z9, ZA, zB, zp, zi, zd, zb, zc, z0, zh, List.getElem?_cons_zero, List.getElem?_cons_succ, z1, z4, z5, zG, Cells.get, getN, zx, List.nil_append, List.cons_append, pp, pv, Yh, ldA, Nat.add_zero, DS.read, Cells.take, zk, zw, zJ, Nat.reduceLT, Nat.lt_add_one, Nat.succ_pos, d81, g1, g2, hG, l1s, l2s]
 obtain ⟨S1, hS1⟩ : ∃ S1 : DS, S1 = s.new (.cells (.list [.int .i64 x1, .int .i64 x2, .bool y1, .slice y2 y3 y4]) false) := ⟨_, rfl⟩
 rw [← hS1]
 have X1 : ∀ F, Ext F s S1 := fun F => by rw [hS1]; exact Ext.new
 have gS : S1.get s.next = some (.cells (.list [.int .i64 x1, .int .i64 x2, .bool y1, .slice y2 y3 y4]) false) := by rw [hS1]; exact DS.new_get_self hG
 have Y1 : Same o s S1 := fun k hk => (X1 []).get k (Nat.lt_trans hk hol) (by simp)
 have O1 : QU S1 o bv bs := ⟨(X1 []).keep h.go (by simp), (X1 []).wrs h.wo, h.sl.keep (X1 []) (by simp), h.up, h.len⟩
 refine W.mono (ha d S1 o bv bs _ x.1 (hDf.keep (X1 []) (by simp)) lf O1 ((X1 []).good hG) (sa.stab _ _ _ _ _ hra Y1) hx.1 (by omega)) ?_
 rintro ⟨v2, s2⟩ ⟨hv2, bv2, O2, X2, b2⟩
 simp only at hv2 O2 X2 b2
 have Y2 := QJ O1 X2
 have YY := Y1.trans Y2
 have gS2 := X2.keep gS (by
  simp only [List.mem_cons, not_or]
  exact ⟨by omega, fun hk => by have := h.sl.lt _ hk; omega⟩)
 have g22 := (YY f2 l2).trans g2
 simp (maxSteps := 4000000) only [zg, za, zf, zl, zo, ze, zr, zj, zK, zF, z9, zB, zp, zi, zd, zb, zc, Nat.reduceEqDiff, z0, zh, List.getElem?_cons_zero, List.getElem?_cons_succ, z1, z4, z5, zG, Cells.get, getN, Nat.zero_add, reduceCtorEq, Yh, ldA, Nat.add_zero, DS.read, Cells.take, gS2, g22]
 refine W.mono (hb d s2 o bv2 (bs ++ ea x.1) _ x.2 (hDg.same lg YY) lg O2 (X2.good ((X1 []).good hG)) (sb.stab _ _ _ _ _ hrb YY) hx.2 (by rw [List.length_append]; omega)) ?_
 rintro ⟨v3, s3⟩ h3
 have hv3 := h3.val
 simp only at hv3
 subst hv3
 have X12 : Ext (o :: blk bv) s s2 := (X1 _).trans' X2
 have h4 := Kr.next X12 (fun k hk => by
  rcases b2 k hk with h | h
  · exact .inl h
  · exact .inr (Nat.le_trans (X1 []).le h)) h3
 simp (maxSteps := 4000000) only [zf, zl, ze, zj, Zw, zd, zn, zy]
 refine hQ _ ?_
 rw [← List.append_assoc]
 exact h4
def CI {α : Type} (sz : Nat) (R : Nat → DS → Value → α → Prop) (o : Nat) (s : DS) (v : Value) (xs : List α) : Prop := ∃ l : List (List Value), l.length = xs.length ∧ Z0 sz l ∧ ((v = .slice none 0 0 ∧ l = []) ∨ ∃ b off sp c, v = .slice (some ⟨b, off, sp⟩) l.length c ∧ b < o ∧ s.read b off (l.length * sz) = some l.flatten) ∧ ∀ (i : Nat) (r : List Value) (x : α), l[i]? = some r → xs[i]? = some x → R o s (.agg ⟨r⟩) x
omit hC in
theorem D4 {α : Type} {sz : Nat} {R : Nat → DS → Value → α → Prop} (h : Xe R) : Xe (CI sz R) := ⟨fun o s s' v xs ⟨l, h1, h2, h3, h4⟩ hs => ⟨l, h1, h2, by
 rcases h3 with h3 | ⟨b, off, sp, c, e1, e2, e3⟩
 · exact .inl h3
 · refine .inr ⟨b, off, sp, c, e1, e2, ?_⟩
   unfold DS.read at e3 ⊢
   rw [hs b e2]; exact e3, fun i r x hr hx => h.stab _ _ _ _ _ (h4 i r x hr hx) hs⟩, fun o o' s v xs ⟨l, h1, h2, h3, h4⟩ hs => ⟨l, h1, h2, by
 rcases h3 with h3 | ⟨b, off, sp, c, e1, e2, e3⟩
 · exact .inl h3
 · exact .inr ⟨b, off, sp, c, e1, Nat.lt_of_lt_of_le e2 hs, e3⟩, fun i r x hr hx => h.mono _ _ _ _ _ (h4 i r x hr hx) hs⟩⟩
def F6 {α : Type} (e : α → List Int) (xs : List α) : List Int := xs.flatMap e
structure LZ {α : Type} (s0 : DS) (o c1 f1 : Nat) (bv v : Value) (bs : List Int) (e : α → List Int) (xs : List α) (n : Nat) (y : St) : Prop where
 ex : ∃ j : Nat, n = xs.length - j ∧ j ≤ xs.length ∧ y.defers = [] ∧ (y.t.get 0 = some (.pointer (some ⟨o, 0, none⟩)) ∧ y.t.get 1 = some v ∧ y.t.get 3 = some (.pointer (some ⟨f1, 0, none⟩)) ∧ y.t.get 6 = some (.int .i64 (j : Int))) ∧
  y.s.Good ∧ Kr s0 o bv (bs ++ F6 e (xs.take j)) (.tuple #[], y.s)
theorem Sk {c1 f1 : Nat} {cp cg fp fg : Value} {α : Type} {n : Nat} {Dc Df : List (Nat × DObj)} {R : Nat → DS → Value → α → Prop} {Ok : α → Prop} {e : α → List Int}
 (hc : YN E n cp Dc F3 (Jb 2 4096) (fun x => leB x 2)) (hf : YN E n fp Df R Ok e) (sR : Xe R) (hcode : E.fn 79 = some d79) (hintr : E.intr 79 = none) :
 YN E (n + 1) (.func (.func 79) #[] #[.pointer (some ⟨c1, 0, none⟩), .pointer (some ⟨f1, 0, none⟩)]) ((c1, .cells (.list [cp, cg]) false) :: (f1, .cells (.list [fp, fg]) false) :: (Dc ++ Df)) (CI 4 R) (fun xs => xs.length ≤ 4096 ∧ ∀ x, x ∈ xs → Ok x) (fun xs => leB xs.length 2 ++ F6 e xs) := by
 intro d s o bv bs v xs hD hb2 h hG hv hx hlen
 have g1 := hD _ (List.mem_cons_self ..)
 have g2 := hD (f1, _) (List.mem_cons_of_mem _ (List.mem_cons_self ..))
 have l1 := hb2 _ (List.mem_cons_self ..)
 have l2 := hb2 (f1, _) (List.mem_cons_of_mem _ (List.mem_cons_self ..))
 simp only at g1 g2 l1 l2
 have hDc : YV s Dc := hD.sub fun p hp => List.mem_cons_of_mem _ (List.mem_cons_of_mem _ (List.mem_append_left _ hp))
 have hDf : YV s Df := hD.sub fun p hp => List.mem_cons_of_mem _ (List.mem_cons_of_mem _ (List.mem_append_right _ hp))
 have lc : ∀ p, p ∈ Dc → p.1 < o := fun p hp => hb2 p (List.mem_cons_of_mem _ (List.mem_cons_of_mem _ (List.mem_append_left _ hp)))
 have lf : ∀ p, p ∈ Df → p.1 < o := fun p hp => hb2 p (List.mem_cons_of_mem _ (List.mem_cons_of_mem _ (List.mem_append_right _ hp)))
 have hol := DS.get_lt' h.go
 have hlf := hC.lf
 have hvl : ∃ a c, v = .slice a xs.length c := by
  obtain ⟨l, h1, _, h3 | ⟨b, off, sp, c, e1, _⟩, _⟩ := hv
  · obtain ⟨rfl, rfl⟩ := h3
    rw [← h1]; exact ⟨none, 0, rfl⟩
  · rw [← h1]; exact ⟨_, c, e1⟩
 obtain ⟨va, vc, hvv⟩ := hvl
 rw [List.length_append, ZP] at hlen
 refine Zh fun Q hQ => ?_
 show W (dcall E ((d + n) + 1) _ _ _) Q
 rw [Yw hintr hcode rfl]
 subst hvv
 simp (maxSteps := 4000000) only [zq, zg, zo, ze, zr, zj, zK, zF, ZE, z9, zB, zp, zi, zd, zb, zc, Nat.reduceEqDiff, z0, zh, List.getElem?_cons_zero, List.getElem?_cons_succ, z1, z4, z5, zG, Cells.get, getN, reduceCtorEq, List.nil_append, List.cons_append, pp, pv, pw, pg, Nat.add_zero, d79, g1]
 refine W.mono (hc d s o bv bs _ (xs.length : Int) hDc lc h hG rfl (.inr ⟨by omega, by omega⟩) (by rw [ZP]; omega)) ?_
 rintro ⟨v2, s2⟩ h2
 have hv2 := h2.val
 simp only at hv2
 subst hv2
 simp (maxSteps := 4000000) only [zq, zg, Zp, za, zf, zl, zo, ze, zK, zm, zd]
 have hG2 : s2.Good := by obtain ⟨_, _, _, X, _⟩ := h2; exact X.good hG
 refine Wc (LZ s o c1 f1 bv (.slice va xs.length vc) (bs ++ leB xs.length 2) e xs) xs.length (by omega) ⟨0, rfl, Nat.zero_le _, rfl, ?_, hG2, by simpa [F6] using h2⟩ ?_
 · simp (maxSteps := 4000000) only [zb, zc, Nat.reduceEqDiff, z0, zh, List.getElem?_cons_zero, List.getElem?_cons_succ, Bool.true_and, true_and, reduceCtorEq]
   rfl
 rintro m ⟨t, s3, ds⟩ hm ⟨j, rfl, hj, hds, ⟨g0, gv, g3, g6⟩, hG3, ⟨_, bv3, O3, X3, b3⟩⟩
 simp only at hds g0 gv g3 g6 hG3 O3 X3 b3
 subst hds
 have Y3 := QJ h X3
 by_cases c2 : j < xs.length
 · have hx0 : xs[j]? = some xs[j] := List.getElem?_eq_getElem c2
   generalize xs[j] = x0 at hx0
   obtain ⟨l, hl1, hl2, hl3, hl4⟩ := (D4 (sz := 4) sR).stab _ _ _ _ _ hv Y3
   have hr0 : l[j]? = some l[j] := List.getElem?_eq_getElem (by omega)
   generalize l[j] = r0 at hr0
   rcases hl3 with ⟨h8, h9⟩ | ⟨b, off, sp, c, h8, h9, h10⟩
   · rw [h9] at hl1; simp at hl1; omega
   rw [hl1] at h8
   cases h8
   have hld : ldA 4 (.pointer (some ⟨b, off + j * 4, none⟩)) s3 = some (.agg ⟨r0⟩) := by
    unfold ldA
    simp only [NE h10 hl2.len hr0]
   have e1 : (j : Int) < (xs.length : Int) := by omega
   have go3 := O3.go
   have g23 := (Y3 f1 l2).trans g2
   have w1 : Zj .i64 ((j : Int) + 1) = ((j + 1 : Nat) : Int) := by rw [ZV (by omega) (by omega)]; omega
   simp (maxSteps := 4000000) (maxDischargeDepth := 8) only [zq, zg, zD, Zp, zO, za, zf, zl, zo, Zm, Za, zN, ze, zr, zj, zK, zR, zV, z8, zF, FO, ZE, z9, zB, zp, Zc, zX, zi, zm, zd, zb, zc, z0, z1, z4, z5, zG, Cells.get, getN, Nat.zero_add, Nat.blt_eq, if_true, Yh, Nat.add_zero, Zq, decide_true, zJ, Nat.reduceLT, Nat.lt_add_one, Nat.succ_pos, g0, gv, g3, g6, e1, go3, c2, g23, hld]
   have hcat : F6 e (xs.take (j + 1)) = F6 e (xs.take j) ++ e x0 := by
    unfold F6
    rw [List.take_add_one, List.flatMap_append]
    simp [hx0]
   have hle : (F6 e (xs.take (j + 1))).length ≤ (F6 e xs).length := by
    unfold F6
    have : xs = xs.take (j + 1) ++ xs.drop (j + 1) := (List.take_append_drop _ _).symm
    conv => rhs; rw [this, List.flatMap_append, List.length_append]
    exact Nat.le_add_right _ _
   refine W.mono (hf d s3 o bv3 _ _ x0 (hDf.same lf Y3) lf O3 hG3 (hl4 j r0 x0 hr0 hx0) (hx.2 _ (List.mem_of_getElem? hx0)) ?_) ?_
   · rw [hcat] at hle
     simp only [List.length_append, ZP] at hle ⊢
     omega
   rintro ⟨v4, s4⟩ h4
   have hv4 := h4.val
   simp only at hv4
   subst hv4
   have hG4 : s4.Good := by obtain ⟨_, _, _, X, _⟩ := h4; exact X.good hG3
   simp (maxSteps := 4000000) (maxDischargeDepth := 8) only [zg, za, Zk, zf, ZB, zl, zo, ze, zr, zj, zK, zV, Zc, zX, zi, zm, zd, zb, zc, z0, z1, if_true, zJ, Nat.reduceLT, g0, gv, g3, g6, w1]
   refine ⟨xs.length - (j + 1), by omega, ⟨j + 1, rfl, by omega, rfl, by simp (maxSteps := 4000000) only [zb, zc, Nat.reduceEqDiff, z0, Bool.and_self, and_self, reduceCtorEq, g0, gv, g3, g6], hG4, ?_⟩⟩
   rw [hcat, ← List.append_assoc]
   exact Kr.next X3 b3 h4
 · obtain rfl : j = xs.length := by omega
   have e1 : ¬ (xs.length : Int) < (xs.length : Int) := by omega
   simp (maxSteps := 4000000) only [zq, zg, zD, Yx, za, ZH, ZI, zf, ZN, zl, zo, Zm, Zv, zt, ze, zr, zj, zK, zR, zV, ZE, zp, Zc, zX, Zw, zi, zm, zd, zb, zc, Nat.reduceEqDiff, z0, z1, zn, zy, if_true, if_false, z3, List.nil_append, decide_false, g0, gv, g3, g6, e1]
   refine hQ _ ⟨rfl, ?_⟩
   rw [List.take_length, List.append_assoc] at O3
   exact ⟨bv3, O3, X3, b3⟩
end
section
variable {E : Env} (hC : KQ E) {s : DS} {d : Nat}
include hC
theorem Cj {α β : Type} {n m : Nat} (hm : m ≤ s.next) {va vb : Value} {Ra : Nat → DS → Value → α → Prop} {Rb : Nat → DS → Value → β → Prop} {Oka : α → Prop} {Okb : β → Prop} {ea : α → List Int} {eb : β → List Int}
 (hG : s.Good) (ha : ZG E n m s va Ra Oka ea) (hb : ZG E n m s vb Rb Okb eb) (hcode : E.fn 51 = some d51) (hintr : E.intr 51 = none)
 (hput : ∀ {f1 f2 : Nat} {fp fg gp gg : Value} {Df Dg : List (Nat × DObj)}, YN E n fp Df Ra Oka ea → YN E n gp Dg Rb Okb eb → YN E (n + 1) (.func (.func 85) #[] #[.pointer (some ⟨f1, 0, none⟩), .pointer (some ⟨f2, 0, none⟩)]) ((f1, .cells (.list [fp, fg]) false) :: (f2, .cells (.list [gp, gg]) false) :: (Df ++ Dg)) (W9 Ra Rb) (fun x => Oka x.1 ∧ Okb x.2) (fun x => ea x.1 ++ eb x.2)) :
 W (dcall E (d + 1) (.func (.func 51) #[] #[]) [va, vb] s) fun r => ZG E (n + 1) m r.2 r.1 (W9 Ra Rb) (fun x => Oka x.1 ∧ Okb x.2) (fun x => ea x.1 ++ eb x.2) ∧ Ext [] s r.2 := by
 obtain ⟨f1, a1, b1, g1, p1, q1, D1, rfl, h2, h3, h4⟩ := ha
 obtain ⟨f2, a2, b2, g2, p2, q2, D2, rfl, k2, k3, k4⟩ := hb
 refine Zh fun Q hQ => ?_
 rw [zP hintr hcode rfl]
 simp (maxSteps := 4000000) (maxDischargeDepth := 8) only [zq, zg, zD, zO, zI, za, zf, zl, zo, Zm, zY, zt, ze, zr, zU, ZC, YB, zj, zK, zR, Xr, Zl, Ww, zF, z9, Zx, zW, ZA, zp, zZ, ZS, zu, zi, zm, zd, zE, zb, zc, z0, zh, List.getElem?_cons_zero, List.getElem?_cons_succ, z1, zn, zy, z4, z5, zG, Cells.get, getN, Nat.zero_add, Nat.reduceAdd, Zd, cells_func, zx, List.length_cons, List.length_nil, zL, zH, Bool.and_self, Bool.and_true, Bool.and_eq_true, Nat.beq_eq, Nat.ble_eq, Nat.reduceLeDiff, Nat.le_refl, and_self, if_true, if_false, Bool.not_false, z3, DS.wrC, Cells.size, Cells.fillFrom, Cells.set, Zb, zM, List.take_zero, List.take_succ_cons, List.drop_succ_cons, List.drop_zero, List.nil_append, List.cons_append, List.drop_nil, List.append_nil, pp, pv, pg, DS.upd_get_self, Option.map_some, zQ, wrN, Nat.add_zero, DS.read, Cells.take, zk, zw, zC, Zi, zJ, Zu, Nat.add_assoc, Nat.reduceLT, Nat.lt_add_one, Nat.succ_pos, d51, hG]
 have X : ∀ o1 o2 o3 o4, Ext [] s ((((s.new o1).new o2).new o3).upd (s.next + 2) o4) := fun _ _ _ _ => (Ext.new.trans' (Ext.new.trans' Ext.new)).trans (Ext.upd (F := [s.next + 2]) (.inl (by simp))) (by simp)
 refine hQ _ ⟨⟨_, _, _, _, _, _, _, rfl, ?_, ?_, hput (f1 := s.next) (f2 := s.next + 1) (fg := .func (.func g1) p1 q1) (gg := .func (.func g2) p2 q2) h4 k4⟩, X _ _ _ _⟩
 · intro p hp
   rcases List.mem_cons.1 hp with rfl | hp
   · simp (maxSteps := 4000000) (maxDischargeDepth := 8) only [z0, Nat.reduceAdd, DS.upd_get_ne, zQ, zk, zw, zC, zJ, Zu, Nat.add_assoc, Nat.lt_add_one, Nat.succ_pos, hG]
   · rcases List.mem_cons.1 hp with rfl | hp
     · simp (maxSteps := 4000000) (maxDischargeDepth := 8) only [z0, Nat.reduceAdd, DS.upd_get_ne, zQ, zk, zw, zC, zJ, Nat.add_assoc, Nat.lt_add_one, hG]
     · rcases List.mem_append.1 hp with hp | hp
       · exact (X _ _ _ _).keep (h2 p hp) (by simp)
       · exact (X _ _ _ _).keep (k2 p hp) (by simp)
 · intro p hp
   have hn : ∀ o1 o2 o3 o4, ((((s.new o1).new o2).new o3).upd (s.next + 2) o4).next = s.next + 3 := fun _ _ _ _ => by simp (maxSteps := 4000000) (maxDischargeDepth := 8) only [Nat.reduceAdd, DS.upd_next, zQ, Nat.add_assoc]
   rw [hn]
   rcases List.mem_cons.1 hp with rfl | hp
   · show m ≤ s.next ∧ s.next < s.next + 3; omega
   · rcases List.mem_cons.1 hp with rfl | hp
     · show m ≤ s.next + 1 ∧ s.next + 1 < s.next + 3; omega
     · rcases List.mem_append.1 hp with hp | hp
       · have := h3 p hp; omega
       · have := k3 p hp; omega
theorem Ck {α β : Type} {n m : Nat} (hm : m ≤ s.next) {va vb : Value} {Ra : Nat → DS → Value → α → Prop} {Rb : Nat → DS → Value → β → Prop} {Oka : α → Prop} {Okb : β → Prop} {ea : α → List Int} {eb : β → List Int}
 (hG : s.Good) (ha : ZG E n m s va Ra Oka ea) (hb : ZG E n m s vb Rb Okb eb) (hcode : E.fn 47 = some d47) (hintr : E.intr 47 = none)
 (hput : ∀ {f1 f2 : Nat} {fp fg gp gg : Value} {Df Dg : List (Nat × DObj)}, YN E n fp Df Ra Oka ea → YN E n gp Dg Rb Okb eb → YN E (n + 1) (.func (.func 81) #[] #[.pointer (some ⟨f1, 0, none⟩), .pointer (some ⟨f2, 0, none⟩)]) ((f1, .cells (.list [fp, fg]) false) :: (f2, .cells (.list [gp, gg]) false) :: (Df ++ Dg)) (W9 Ra Rb) (fun x => Oka x.1 ∧ Okb x.2) (fun x => ea x.1 ++ eb x.2)) :
 W (dcall E (d + 1) (.func (.func 47) #[] #[]) [va, vb] s) fun r => ZG E (n + 1) m r.2 r.1 (W9 Ra Rb) (fun x => Oka x.1 ∧ Okb x.2) (fun x => ea x.1 ++ eb x.2) ∧ Ext [] s r.2 := by
 obtain ⟨f1, a1, b1, g1, p1, q1, D1, rfl, h2, h3, h4⟩ := ha
 obtain ⟨f2, a2, b2, g2, p2, q2, D2, rfl, k2, k3, k4⟩ := hb
 refine Zh fun Q hQ => ?_
 rw [zP hintr hcode rfl]
 simp (maxSteps := 4000000) (maxDischargeDepth := 8) only [zq, zg, zD, zO, zI, za, zf, zl, zo, Zm, zY, zt, ze, zr, zU, ZC, YB, zj, zK, zR, Xr, Zl, Ww, zF, z9, Zx, zW, ZA, zp, zZ, ZS, zu, zi, zm, zd, zE, zb, zc, z0, zh, List.getElem?_cons_zero, List.getElem?_cons_succ, z1, zn, zy, z4, z5, zG, Cells.get, getN, Nat.zero_add, Nat.reduceAdd, Zd, cells_func, zx, List.length_cons, List.length_nil, zL, zH, Bool.and_self, Bool.and_true, Bool.and_eq_true, Nat.beq_eq, Nat.ble_eq, Nat.reduceLeDiff, Nat.le_refl, and_self, if_true, if_false, Bool.not_false, z3, DS.wrC, Cells.size, Cells.fillFrom, Cells.set, Zb, zM, List.take_zero, List.take_succ_cons, List.drop_succ_cons, List.drop_zero, List.nil_append, List.cons_append, List.drop_nil, List.append_nil, pp, pv, pg, DS.upd_get_self, Option.map_some, zQ, wrN, Nat.add_zero, DS.read, Cells.take, zk, zw, zC, Zi, zJ, Zu, Nat.add_assoc, Nat.reduceLT, Nat.lt_add_one, Nat.succ_pos, d47, hG]
 have X : ∀ o1 o2 o3 o4, Ext [] s ((((s.new o1).new o2).new o3).upd (s.next + 2) o4) := fun _ _ _ _ => (Ext.new.trans' (Ext.new.trans' Ext.new)).trans (Ext.upd (F := [s.next + 2]) (.inl (by simp))) (by simp)
 refine hQ _ ⟨⟨_, _, _, _, _, _, _, rfl, ?_, ?_, hput (f1 := s.next) (f2 := s.next + 1) (fg := .func (.func g1) p1 q1) (gg := .func (.func g2) p2 q2) h4 k4⟩, X _ _ _ _⟩
 · intro p hp
   rcases List.mem_cons.1 hp with rfl | hp
   · simp (maxSteps := 4000000) (maxDischargeDepth := 8) only [z0, Nat.reduceAdd, DS.upd_get_ne, zQ, zk, zw, zC, zJ, Zu, Nat.add_assoc, Nat.lt_add_one, Nat.succ_pos, hG]
   · rcases List.mem_cons.1 hp with rfl | hp
     · simp (maxSteps := 4000000) (maxDischargeDepth := 8) only [z0, Nat.reduceAdd, DS.upd_get_ne, zQ, zk, zw, zC, zJ, Nat.add_assoc, Nat.lt_add_one, hG]
     · rcases List.mem_append.1 hp with hp | hp
       · exact (X _ _ _ _).keep (h2 p hp) (by simp)
       · exact (X _ _ _ _).keep (k2 p hp) (by simp)
 · intro p hp
   have hn : ∀ o1 o2 o3 o4, ((((s.new o1).new o2).new o3).upd (s.next + 2) o4).next = s.next + 3 := fun _ _ _ _ => by simp (maxSteps := 4000000) (maxDischargeDepth := 8) only [Nat.reduceAdd, DS.upd_next, zQ, Nat.add_assoc]
   rw [hn]
   rcases List.mem_cons.1 hp with rfl | hp
   · show m ≤ s.next ∧ s.next < s.next + 3; omega
   · rcases List.mem_cons.1 hp with rfl | hp
     · show m ≤ s.next + 1 ∧ s.next + 1 < s.next + 3; omega
     · rcases List.mem_append.1 hp with hp | hp
       · have := h3 p hp; omega
       · have := k3 p hp; omega
theorem Cc {α : Type} {n m : Nat} (hm : m ≤ s.next) {v : Value} {R : Nat → DS → Value → α → Prop} {Ok : α → Prop} {e : α → List Int}
 (hG : s.Good) (ha : ZG E n m s v R Ok e) (hn : 3 ≤ n) (sR : Xe R) (hcode : E.fn 46 = some d46) (hintr : E.intr 46 = none) (hcode1 : E.fn 79 = some d79) (hintr1 : E.intr 79 = none) :
 W (dcall E (d + 2) (.func (.func 46) #[] #[]) [v] s) fun r => ZG E (n + 1) m r.2 r.1 (CI 4 R) (fun xs => xs.length ≤ 4096 ∧ ∀ x, x ∈ xs → Ok x) (fun xs => leB xs.length 2 ++ F6 e xs) ∧ Ext [] s r.2 := by
 obtain ⟨f1, a1, b1, g1, p1, q1, D1, rfl, h2, h3, h4⟩ := ha
 refine Zh fun Q hQ => ?_
 rw [zP hintr hcode rfl]
 simp (maxSteps := 4000000) (maxDischargeDepth := 8) only [zq, zg, zD, zO, za, zf, zl, zo, zt, ze, zr, YB, zj, Xr, zF, z9, zW, ZA, zB, zp, ZS, zi, zm, zA, zd, zb, zc, z0, zh, List.getElem?_cons_zero, z1, z4, z5, zG, Cells.get, getN, zx, if_false, Bool.not_false, z3, pp, zQ, Nat.add_zero, zk, zw, zC, zJ, Nat.lt_add_one, d46, hG]
 obtain ⟨S, hS⟩ : ∃ S : DS, S = (s.new (.cells (.list [.func (.func f1) a1 b1, .func (.func g1) p1 q1]) false)).new (.cells (.list [.nilFunc, .nilFunc]) false) := ⟨_, rfl⟩
 rw [← hS]
 have XS : Ext [] s S := by rw [hS]; exact Ext.new.trans' Ext.new
 have nS : S.next = s.next + 2 := by rw [hS]; simp (maxSteps := 4000000) (maxDischargeDepth := 8) only [Nat.reduceAdd, zQ, Nat.add_assoc]
 have hGS := XS.good hG
 have S0 : S.get s.next = some (.cells (.list [.func (.func f1) a1 b1, .func (.func g1) p1 q1]) false) := by rw [hS]; simp (maxSteps := 4000000) (maxDischargeDepth := 8) only [zQ, zk, zw, zC, Nat.lt_add_one, hG]
 have S1 : S.get (s.next + 1) = some (.cells (.list [.nilFunc, .nilFunc]) false) := by rw [hS]; simp (maxSteps := 4000000) (maxDischargeDepth := 8) only [zQ, zk, zC, hG]
 have wS : S.wr (s.next + 1) = true := XS.wrs (hG _ (by omega)).2
 refine W.mono (QW hC hGS 2 4096) ?_
 rintro ⟨v2, s2⟩ ⟨hv2, n1, n2, X2, hn2⟩
 simp only at hv2 n1 n2 X2 hn2
 subst hv2
 have hG2 := X2.good hGS
 have T1 := X2.keep S1 (by simp)
 have wT := X2.wrs wS
 have hlt : s.next + 1 < s2.next := by omega
 rw [nS] at n1 n2 hn2 ⊢
 simp (maxSteps := 4000000) (maxDischargeDepth := 8) only [zq, zg, zI, za, zf, zl, zo, ze, zU, ZC, zj, Zl, Ww, Zx, zW, zZ, zu, zi, zd, zE, zb, zc, z0, z1, zn, zy, z4, z5, Cells.get, getN, Nat.zero_add, Nat.reduceAdd, Zd, cells_func, zx, List.length_cons, List.length_nil, zL, zH, Bool.and_self, Bool.and_true, Bool.and_eq_true, Nat.beq_eq, Nat.ble_eq, Nat.reduceLeDiff, Nat.le_refl, and_self, if_true, DS.wrC, Cells.size, Cells.fillFrom, Cells.set, Zb, zM, List.take_zero, List.take_succ_cons, List.drop_succ_cons, List.drop_zero, List.nil_append, List.cons_append, List.drop_nil, List.append_nil, DS.upd_get_self, DS.upd_get_ne, DS.upd_wr, Option.map_some, wrN, DS.read, Cells.take, zk, zw, zC, DS.upd_good, Zi, zJ, ZF, Nat.add_assoc, Nat.reduceLT, Nat.lt_add_one, hG2, T1, wT, hlt]
 refine hQ _ ⟨⟨_, _, _, _, _, _, (s2.next, .cells (.list [.func (.func 112) #[] #[.pointer (some ⟨s.next + 2, 0, none⟩), .pointer (some ⟨s.next + 3, 0, none⟩)], .func (.func 114) #[] #[.pointer (some ⟨s.next + 2, 0, none⟩), .pointer (some ⟨s.next + 3, 0, none⟩)]]) false) :: (s.next, .cells (.list [.func (.func f1) a1 b1, .func (.func g1) p1 q1]) false) :: ([(s.next + 2, .cells (.list [.int .i64 ((2 : Nat) : Int)]) false), (s.next + 3, .cells (.list [.int .i64 4096]) false)] ++ D1), rfl, ?_, ?_, Sk hC ((K6 hC (b1 := s.next + 2) (b2 := s.next + 3) (size := 2) (most := 4096) (by omega)).mono hn) h4 sR hcode1 hintr1⟩, ?_⟩
 · intro p hp
   rcases List.mem_cons.1 hp with rfl | hp
   · simp (maxSteps := 4000000) (maxDischargeDepth := 8) only [z0, DS.upd_get_self, DS.upd_get_ne, Option.map_some, zk, hG2, show ¬ s2.next = s.next + 1 by omega]
   · rcases List.mem_cons.1 hp with rfl | hp
     · simp (maxSteps := 4000000) (maxDischargeDepth := 8) only [z0, DS.upd_get_ne, zw, zJ, Nat.lt_add_one, hG2, show ¬ s.next = s2.next by omega, show s.next < s2.next by omega, X2.keep S0 (by simp)]
     · rcases List.mem_append.1 hp with hp | hp
       · rcases List.mem_cons.1 hp with rfl | hp
         · simp (maxSteps := 4000000) (maxDischargeDepth := 8) only [z0, DS.upd_get_ne, zw, ZF, Nat.lt_add_one, hG2, show ¬ s.next + 2 = s2.next by omega, show s.next + 2 < s2.next by omega, n1]
           rfl
         · rcases List.mem_cons.1 hp with rfl | hp
           · simp (maxSteps := 4000000) (maxDischargeDepth := 8) only [z0, DS.upd_get_ne, zw, ZF, Nat.reduceLT, Nat.add_lt_add_iff_left, hG2, show ¬ s.next + 3 = s2.next by omega, show s.next + 3 < s2.next by omega, n2]
           · cases hp
       · have h5 := h3 p hp
         have h6 := X2.keep (XS.keep (h2 p hp) (by simp)) (by simp)
         simp (maxSteps := 4000000) (maxDischargeDepth := 8) only [z0, DS.upd_get_ne, zw, hG2, show ¬ p.1 = s2.next by omega, show ¬ p.1 = s.next + 1 by omega, show p.1 < s2.next by omega, h6]
 · intro p hp
   have hfin : m ≤ p.1 ∧ p.1 < s2.next + 1 := by
    rcases List.mem_cons.1 hp with rfl | hp
    · show m ≤ s2.next ∧ s2.next < s2.next + 1; omega
    · rcases List.mem_cons.1 hp with rfl | hp
      · show m ≤ s.next ∧ s.next < s2.next + 1; omega
      · rcases List.mem_append.1 hp with hp | hp
        · rcases List.mem_cons.1 hp with rfl | hp
          · show m ≤ s.next + 2 ∧ s.next + 2 < s2.next + 1; omega
          · rcases List.mem_cons.1 hp with rfl | hp
            · show m ≤ s.next + 3 ∧ s.next + 3 < s2.next + 1; omega
            · cases hp
        · have h5 := h3 p hp; omega
   simp (maxSteps := 4000000) (maxDischargeDepth := 8) only [DS.upd_next, zQ]
   exact hfin
 · have X3 := XS.trans' X2
   have X4 : Ext [s2.next, s.next + 1] s2 (((s2.new (.cells (.list [.nilFunc, .nilFunc]) false)).upd s2.next (.cells (.list [.func (.func 112) #[] #[.pointer (some ⟨s.next + 2, 0, none⟩), .pointer (some ⟨s.next + 3, 0, none⟩)], .func (.func 114) #[] #[.pointer (some ⟨s.next + 2, 0, none⟩), .pointer (some ⟨s.next + 3, 0, none⟩)]]) false)).upd (s.next + 1) (.cells (.list [.func (.func 79) #[] #[.pointer (some ⟨s2.next, 0, none⟩), .pointer (some ⟨s.next, 0, none⟩)], .func (.func 80) #[] #[.pointer (some ⟨s2.next, 0, none⟩), .pointer (some ⟨s.next, 0, none⟩)]]) false)) := Ext.new.trans' ((Ext.upd (.inl (by simp))).trans' (Ext.upd (.inl (by simp))))
   exact X3.trans X4 (by simp; omega)
theorem SE (hG : s.Good) {m : Nat} (hm : m ≤ s.next) (hblob : E.fn 53 = some d53) (iblob : E.intr 53 = none) (h1 : E.fn 90 = some d90) (i1 : E.intr 90 = none) :
 W (dcall E (d + 2) (.func (.func 53) #[] #[]) [] s) fun r => ZG E 4 m r.2 r.1 Pq (fun x => x.length ≤ 65536) HP ∧ Ext [] s r.2 := by
 refine Zh fun Q hQ => ?_
 rw [zP iblob hblob rfl]
 simp (maxSteps := 4000000) (maxDischargeDepth := 8) only [zq, zg, za, zf, zl, zo, ze, zW, zB, zm, zA, zd, z4, z5, pp, d53, hG]
 obtain ⟨S, hS⟩ : ∃ S : DS, S = s.new (.cells (.list [.nilFunc, .nilFunc]) false) := ⟨_, rfl⟩
 rw [← hS]
 have XS : Ext [] s S := by rw [hS]; exact Ext.new
 have nS : S.next = s.next + 1 := by rw [hS]; simp (maxSteps := 4000000) (maxDischargeDepth := 8) only [zQ]
 have hGS := XS.good hG
 have S0 : S.get s.next = some (.cells (.list [.nilFunc, .nilFunc]) false) := by rw [hS]; simp (maxSteps := 4000000) (maxDischargeDepth := 8) only [zk, hG]
 have wS : S.wr s.next = true := XS.wrs (hG _ (Nat.le_refl _)).2
 clear hS
 refine W.mono (QW hC (d := d) hGS 4 65536) ?_
 rintro ⟨v2, s2⟩ ⟨hv2, n1, n2, X2, hn2⟩
 simp only at hv2 n1 n2 X2 hn2
 subst hv2
 have hG2 := X2.good hGS
 have T0 := X2.keep S0 (by simp)
 have wT := X2.wrs wS
 rw [nS] at n1 n2 hn2 ⊢
 have hlt : s.next < s2.next := by omega
 simp (maxSteps := 4000000) (maxDischargeDepth := 8) only [zq, zg, zI, za, zf, zl, zo, ze, zU, ZC, zj, Zl, Ww, Zx, zW, zZ, zu, zi, zd, zE, zb, zc, z0, z1, zn, zy, z4, z5, Cells.get, getN, Nat.zero_add, Nat.reduceAdd, Zd, cells_func, zx, List.length_cons, List.length_nil, zL, zH, Bool.and_self, Bool.and_true, Bool.and_eq_true, Nat.beq_eq, Nat.ble_eq, Nat.reduceLeDiff, Nat.le_refl, and_self, if_true, DS.wrC, Cells.size, Cells.fillFrom, Cells.set, Zb, zM, List.take_zero, List.take_succ_cons, List.drop_succ_cons, List.drop_zero, List.nil_append, List.cons_append, List.drop_nil, List.append_nil, DS.upd_get_self, DS.upd_get_ne, DS.upd_wr, Option.map_some, wrN, DS.read, Cells.take, zk, zw, zC, DS.upd_good, Zi, zJ, ZF, Nat.add_assoc, Nat.reduceLT, Nat.lt_add_one, Nat.succ_pos, hG2, T0, wT, hlt]
 have X4 : ∀ o1 o2 o3, Ext [] s (((s2.new o1).upd s2.next o2).upd s.next o3) := fun o1 o2 o3 => by
  have e1 : Ext [] s2 (s2.new o1) := Ext.new
  have e2 : Ext [s2.next] (s2.new o1) ((s2.new o1).upd s2.next o2) := Ext.upd (.inl (by simp))
  have e3 : Ext [s.next] ((s2.new o1).upd s2.next o2) (((s2.new o1).upd s2.next o2).upd s.next o3) := Ext.upd (.inl (by simp))
  exact ((XS.trans' X2).trans' (e1.trans e2 (by simp))).trans e3 (by simp)
 refine hQ _ ⟨⟨_, _, _, _, _, _, (s2.next, .cells (.list [.func (.func 112) #[] #[.pointer (some ⟨s.next + 1, 0, none⟩), .pointer (some ⟨s.next + 1 + 1, 0, none⟩)], .func (.func 114) #[] #[.pointer (some ⟨s.next + 1, 0, none⟩), .pointer (some ⟨s.next + 1 + 1, 0, none⟩)]]) false) :: [(s.next + 1, .cells (.list [.int .i64 ((4 : Nat) : Int)]) false), (s.next + 1 + 1, .cells (.list [.int .i64 65536]) false)], rfl, fun p hp => ?_, fun p hp => ?_, MH hC (K6 hC (b1 := s.next + 1) (b2 := s.next + 1 + 1) (size := 4) (most := 65536) (by omega)) (by omega) h1 i1⟩, X4 _ _ _⟩
 · rcases List.mem_cons.1 hp with rfl | hp
   · simp (maxSteps := 4000000) (maxDischargeDepth := 8) only [z0, Nat.reduceAdd, DS.upd_get_self, DS.upd_get_ne, Option.map_some, zk, Nat.add_assoc, hG2, show ¬ s2.next = s.next by omega]
   · rcases List.mem_cons.1 hp with rfl | hp
     · simp (maxSteps := 4000000) (maxDischargeDepth := 8) only [z0, DS.upd_get_ne, zw, hG2, show ¬ s.next + 1 = s.next by omega, show ¬ s.next + 1 = s2.next by omega, show s.next + 1 < s2.next by omega, n1]
       rfl
     · rcases List.mem_cons.1 hp with rfl | hp
       · simp (maxSteps := 4000000) (maxDischargeDepth := 8) only [z0, Nat.reduceAdd, DS.upd_get_ne, zw, Nat.add_assoc, hG2, show ¬ s.next + 1 + 1 = s.next by omega, show ¬ s.next + 1 + 1 = s2.next by omega, show s.next + 1 + 1 < s2.next by omega, n2]
       · cases hp
 · have : m ≤ p.1 ∧ p.1 < s2.next + 1 := by
    rcases List.mem_cons.1 hp with rfl | hp
    · show m ≤ s2.next ∧ s2.next < s2.next + 1; omega
    · rcases List.mem_cons.1 hp with rfl | hp
      · show m ≤ s.next + 1 ∧ s.next + 1 < s2.next + 1; omega
      · rcases List.mem_cons.1 hp with rfl | hp
        · show m ≤ s.next + 1 + 1 ∧ s.next + 1 + 1 < s2.next + 1; omega
        · cases hp
   simp (maxSteps := 4000000) (maxDischargeDepth := 8) only [DS.upd_next, zQ]
   exact this
def NP : Nat → DS → Value → Bool × List Int → Prop := W9 NQ Pq
omit hC in
theorem CM : Xe NP := J8 Gh D3
omit hC in
theorem NO : ∀ (o : Nat) (s : DS) (v : Value) (x : Bool × List Int), NP o s v x → ∃ q b n c, v = .agg ⟨[.bool q, .slice b n c]⟩ := fun o s v x ⟨a, b, e, h1, h2⟩ => by
 have h1 : a = .bool x.1 := h1
 obtain ⟨b', n', c', rfl⟩ := SV _ _ _ _ h2
 subst h1
 exact ⟨_, _, _, _, e⟩
def Dp : Nat → DS → Value → ZL → Prop := W9 CK NP
omit hC in
theorem GM : Xe Dp := J8 Q8 CM
def N1 (x : ZL) : Prop := (Jb 1 255 x.1.1 ∧ Jb 8 0 x.1.2) ∧ (True ∧ x.2.2.length ≤ 65536)
variable (hT : FQ E) (hE : PX E) (hF : FP E) (hW : LX E)
include hT hE hF hW
theorem P8 (hG : s.Good) : W (dcall E (d + 3) (.func (.func 24) #[] #[]) [] s) fun r => ZG E 7 s.next r.2 r.1 (CI 4 Dp) (fun xs => xs.length ≤ 4096 ∧ ∀ x, x ∈ xs → N1 x) KJ ∧ Ext [] s r.2 := by
 refine Zh fun Q hQ => ?_
 rw [zP hF.itform hF.ftform rfl]
 simp (maxSteps := 4000000) (maxDischargeDepth := 8) only [zq, zg, za, zf, zl, zo, ze, zW, zB, zA, zd, z5, pp, d24, hG]
 have h0 : ∀ o, (s.new o).get s.next = some o := fun o => DS.new_get_self hG
 have w0 : (s.new (.cells (.list [.nilFunc, .nilFunc]) false)).wr s.next = true := (hG _ (Nat.le_refl _)).2
 refine W.mono (JQ hC (m := s.next + 1) (DS.new_good hG) (Nat.le_refl _) hE.fbyte hE.ibyte) ?_
 rintro ⟨v1, s1⟩ ⟨q1, X1⟩
 simp only at q1 X1
 have hG1 := X1.good (DS.new_good hG)
 have l1 : s.next + 1 ≤ s1.next := X1.le
 simp (maxSteps := 4000000) only [zo, ze, zB, zA, zd, z5]
 refine W.mono (QL hC (m := s.next + 1) hG1 l1 hE.fint hE.iint) ?_
 rintro ⟨v2, s2⟩ ⟨q2, X2⟩
 simp only at q2 X2
 have hG2 := X2.good hG1
 have l2 := Nat.le_trans l1 X2.le
 simp (maxSteps := 4000000) only [zo, ze, zB, zi, zA, zd, zb, zc, Nat.reduceEqDiff, z0, z1, z4, z5]
 refine W.mono (Jv hC l2 hG2 (q1.keep X2) q2 hE.fII hE.iII fun ha hb => KL hC ha hb WW WW (fun _ _ _ x h => ⟨x, h⟩) (fun _ _ _ x h => ⟨x, h⟩) hE.fII1 hE.iII1) ?_
 rintro ⟨v3, s3⟩ ⟨q3, X3⟩
 simp only at q3 X3
 have hG3 := X3.good hG2
 have l3 := Nat.le_trans l2 X3.le
 simp (maxSteps := 4000000) only [zo, ze, zB, zA, zd, z5]
 refine W.mono (Fv hC hG3 l3 hE.fflag hE.iflag hE.fturn hE.iturn hE.fturn1 hE.iturn1 hE.fflag1 hE.iflag1 hE.fr) ?_
 rintro ⟨v4, s4⟩ ⟨q4, X4⟩
 simp only at q4 X4
 have hG4 := X4.good hG3
 have l4 := Nat.le_trans l3 X4.le
 simp (maxSteps := 4000000) only [zo, ze, zB, zA, zd, z5]
 refine W.mono (SE hC hG4 l4 hF.fblob hF.iblob hW.fblob1 hW.iblob1) ?_
 rintro ⟨v5, s5⟩ ⟨q5, X5⟩
 simp only at q5 X5
 have hG5 := X5.good hG4
 have l5 := Nat.le_trans l4 X5.le
 simp (maxSteps := 4000000) only [zo, ze, zB, zi, zA, zd, zb, zc, Nat.reduceEqDiff, z0, z1, z4, z5]
 refine W.mono (Cj hC l5 hG5 (q4.keep X5) q5 hF.fbFB hF.ibFB fun ha hb => SA hC ha hb Gh D3 (fun _ _ _ x h => ⟨x, h⟩) SV hW.fbFB1 hW.ibFB1) ?_
 rintro ⟨v6, s6⟩ ⟨q6, X6⟩
 simp only at q6 X6
 have hG6 := X6.good hG5
 have l6 := Nat.le_trans l5 X6.le
 have X36 := X4.trans' (X5.trans' X6)
 simp (maxSteps := 4000000) only [zo, ze, zB, zi, zA, zd, zb, zc, Nat.reduceEqDiff, z0, z1, z4, z5]
 refine W.mono (Ck hC l6 hG6 ((q3.keep X36).mono (show 4 ≤ 5 by omega)) q6 hF.fbLL hF.ibLL fun ha hb => SC hC ha hb Q8 CM JN NO hW.fbLL1 hW.ibLL1) ?_
 rintro ⟨v7, s7⟩ ⟨q7, X7⟩
 simp only at q7 X7
 have hG7 := X7.good hG6
 have l7 := Nat.le_trans l6 X7.le
 simp (maxSteps := 4000000) only [zo, ze, zB, zi, zA, zd, zb, z1, z4, z5]
 refine W.mono (Cc hC l7 hG7 q7 (by omega) GM hF.ftmany hF.itmany hW.ftmany1 hW.itmany1) ?_
 rintro ⟨v8, s8⟩ ⟨q8, X8⟩
 simp only at q8 X8
 have X08 := (X1.trans' (X2.trans' X3)).trans' (X36.trans' (X7.trans' X8))
 have g6 := X08.keep (h0 _) (by simp)
 have w6 := X08.wrs w0
 obtain ⟨f, a, b, g, a', b', D, rfl, k2, k3, k4⟩ := q8
 simp (maxSteps := 4000000) (maxDischargeDepth := 8) only [zI, za, zf, zl, zo, ze, zU, zj, Zx, zZ, zu, zi, zd, zE, zb, zc, z0, z1, zn, zy, Cells.get, getN, Nat.zero_add, Nat.reduceAdd, Zd, zx, List.length_cons, List.length_nil, zL, zH, Bool.and_self, Bool.and_true, Nat.beq_eq, Nat.ble_eq, Nat.le_refl, if_true, DS.wrC, Cells.size, Cells.fillFrom, Cells.set, Zb, DS.upd_get_self, Option.map_some, DS.read, Cells.take, zJ, Nat.lt_add_one, Nat.succ_pos, g6, w6]
 have XF : ∀ o, Ext [] s (s8.upd s.next o) := fun o => (Ext.new.trans' X08).trans (Ext.upd (F := [s.next]) (.inl (by simp))) (by simp)
 refine hQ _ ⟨⟨f, a, b, g, a', b', D, rfl, fun p hp => ?_, fun p hp => ?_, k4⟩, XF _⟩
 · have := (k3 p hp).1
   simp (maxSteps := 4000000) (maxDischargeDepth := 8) only [z0, DS.upd_get_ne, k2 p hp, show ¬ p.1 = s.next by omega]
 · have := k3 p hp
   simp (maxSteps := 4000000) (maxDischargeDepth := 8) only [DS.upd_next]
   omega
omit hT hF in
theorem M0 {fv lv : Value} {xs : List ZL} (hG : s.Good) (hf : ∃ m, ZG E 7 m s fv (CI 4 Dp) (fun xs => xs.length ≤ 4096 ∧ ∀ x, x ∈ xs → N1 x) KJ) (hr : CI 4 Dp s.next s lv xs) (hok : xs.length ≤ 4096 ∧ ∀ x, x ∈ xs → N1 x) (hlen : (KJ xs).length ≤ 1048576) :
 W (dcall E ((d + 7 + 1) + 1) (.func (.func 36) #[] #[]) [fv, lv] s) fun r => ∃ w, r.1 = .tuple ⟨[w, .int .i64 0]⟩ ∧ SlV r.2 1 w (Zy (KJ xs)) ∧ (∃ a, w = .slice a (KJ xs).length (KJ xs).length ∧ ∀ z, a = some z → z.spot = none) ∧ (∀ k, k ∈ blk w → s.next ≤ k ∧ k < r.2.next) ∧ Ext [] s r.2 := by
 obtain ⟨m, hf⟩ := hf
 obtain ⟨f, a, b, g, a', b', D, rfl, h2, h3, h4⟩ := hf
 obtain ⟨la, lb, lc, hlv⟩ : ∃ a n c, lv = .slice a n c := by
  obtain ⟨l, _, _, h3 | ⟨b, off, sp, c, e1, _⟩, _⟩ := hr
  · exact ⟨_, _, _, h3.1⟩
  · exact ⟨_, _, _, e1⟩
 refine Zh fun Q hQ => ?_
 rw [zP hW.iEncT hW.fEncT rfl]
 simp (maxSteps := 4000000) (maxDischargeDepth := 8) only [zq, zg, zD, zO, za, zf, zl, zo, zt, ze, zr, ZC, YB, zj, zK, Xr, Zl, zF, z9, ZA, zB, zp, ZS, zi, zm, zd, zb, zc, z0, zh, List.getElem?_cons_zero, List.getElem?_cons_succ, z1, z4, z5, zG, Cells.get, getN, zx, if_false, Bool.not_false, z3, zM, pp, pv, zQ, Nat.add_zero, zk, zw, zC, zJ, Nat.reduceLT, Nat.lt_add_one, d36, hG]
 obtain ⟨S, hS⟩ : ∃ S : DS, S = (s.new (.cells (.list [.func (.func f) a b, .func (.func g) a' b']) false)).new (.cells (.list [.slice none 0 0, .int .i64 0]) false) := ⟨_, rfl⟩
 rw [← hS]
 have XS : Ext [] s S := by rw [hS]; exact Ext.new.trans' Ext.new
 have nS : S.next = s.next + 2 := by rw [hS]; simp (maxSteps := 4000000) (maxDischargeDepth := 8) only [Nat.reduceAdd, zQ, Nat.add_assoc]
 have hGS := XS.good hG
 have S0 : S.get s.next = some (.cells (.list [.func (.func f) a b, .func (.func g) a' b']) false) := by rw [hS]; simp (maxSteps := 4000000) (maxDischargeDepth := 8) only [zQ, zk, zw, zC, Nat.lt_add_one, hG]
 have S2 : S.get (s.next + 1) = some (.cells (.list [.slice none 0 0, .int .i64 0]) false) := by rw [hS]; simp (maxSteps := 4000000) (maxDischargeDepth := 8) only [zQ, zk, zC, hG]
 have O : QU S (s.next + 1) (.slice none 0 0) [] := ⟨S2, XS.wrs (hG _ (by omega)).2, by simpa [Zy] using SlC.nil, by simp [blk], by simp⟩
 have hY : Same (s.next) s S := fun k hk => XS.get k hk (by simp)
 refine W.mono (h4 (d + 1) S (s.next + 1) _ [] _ xs (h2.keep XS (by simp)) (fun p hp => by have := h3 p hp; omega) O hGS ((D4 GM).mono _ _ _ _ _ ((D4 GM).stab _ _ _ _ _ hr hY) (by omega)) hok (by simpa using hlen)) ?_
 rintro ⟨v3, s3⟩ ⟨hv3, bv3, O3, X3, b3⟩
 simp only at hv3 O3 X3 b3
 subst hv3
 rw [List.nil_append] at O3
 have go3 := O3.go
 obtain ⟨w, hw1, hw2, hw3, hw4⟩ := RK hC (d := d + 7) O3.sl hE.fclip hE.iclip
 simp (maxSteps := 4000000) only [zq, zg, zD, zO, zI, za, zf, zl, zo, zt, ze, zr, zj, zK, zV, z8, zF, z9, zB, zp, Zc, zX, zu, zi, zm, zA, zd, zb, zc, Nat.reduceEqDiff, z0, z1, zn, zy, z4, z5, zG, Cells.get, getN, Nat.zero_add, if_true, Bool.not_true, Nat.add_zero, decide_true, go3, hw1]
 have X4 : Ext [] s s3 := XS.trans X3 (by simp [blk])
 refine hQ _ ⟨w, rfl, hw2, hw3, fun k hk => ?_, X4⟩
 rw [hw4] at hk
 refine ⟨?_, O3.sl.lt k hk⟩
 have := O3.up k hk
 omega
end
end Go.Dx.TbA
namespace Go.Dx.TbA
open Go Go.Dx Go.Dx.Tab Go.Proofs.YtffgmngdgkpflaaGreat
structure LY (E : Env) : Prop where
 fpack : E.fn 9 = some d9
 ipack : E.intr 9 = none
 fcl : E.fn 20 = some d20
 icl : E.intr 20 = none
 fcl1 : E.fn 42 = some d42
 icl1 : E.intr 42 = none
 ikeys : E.intr 44 = some fun all s => VR all 77 s
 isorted : E.intr 43 = some fun all s => WV 77 all s
section
variable {E : Env} (hC : KQ E) (hT : FQ E) (hE : PX E) {s s' : DS} {d : Nat} {t m clock : Nat} {M : TRs}
include hT hC hE
def encR (r : Rp) : List Int := FC (((r.c, r.n), r.rej), (r.trap, (r.v, r.gas)))
theorem Sv (hG : s.Good) (r : Rp) (hmay : Xi r) : W (dcall E (d + 9) (.func (.func 35) #[] #[]) [.agg ⟨r.cells⟩] s) fun x => ∃ w, x.1 = .tuple ⟨[w, .int .i64 0]⟩ ∧ SlV x.2 1 w (Zy (encR r)) ∧ (∃ a, w = .slice a (encR r).length (encR r).length ∧ ∀ z, a = some z → z.spot = none) ∧ (∀ k, k ∈ blk w → s.next ≤ k ∧ k < x.2.next) ∧ Ext [] s x.2 := by
 refine Zh fun Q hQ => ?_
 rw [zP hE.iRep hE.fRep rfl]
 simp (maxSteps := 4000000) (maxDischargeDepth := 8) only [zq, zg, za, zf, zl, zo, ze, zr, zj, zK, ZA, zB, zi, zm, zA, zd, zb, zc, z0, zh, List.getElem?_cons_zero, z1, z4, z5, Cells.get, getN, zx, pp, Yh, ldA, DS.read, Cells.take, zk, zJ, Nat.reduceLT, Nat.lt_add_one, d35, hG, Rp.cells]
 obtain ⟨S0, hS0⟩ : ∃ S0 : DS, S0 = s.new (.cells (.list [.int .i64 r.c, .int .i64 r.n, .bool r.rej, .int .i64 r.trap, .int .i64 r.v, .int .i64 r.gas]) false) := ⟨_, rfl⟩
 rw [← hS0]
 have X0 : Ext [] s S0 := by rw [hS0]; exact Ext.new
 have hG0 := X0.good hG
 have g0 : S0.get s.next = some (.cells (.list [.int .i64 r.c, .int .i64 r.n, .bool r.rej, .int .i64 r.trap, .int .i64 r.v, .int .i64 r.gas]) false) := by rw [hS0]; simp (maxSteps := 4000000) (maxDischargeDepth := 8) only [zk, hG]
 clear hS0
 refine W.mono (Ro hT (d := d + 5) hG0 r) ?_
 rintro ⟨v1, s1⟩ ⟨h1, X1⟩
 simp only at h1 X1
 subst h1
 have X01 := X0.trans' X1
 have hG1 := X01.good hG
 have g1 := X1.keep g0 (by simp)
 have hl1 : s.next < s1.next := DS.get_lt' g1
 rw [decide_eq_true hmay]
 have hb1 : Nat.ble (s1.next + 1) s1.next = false := by rw [ZW]; omega
 have hb2 : Nat.beq s.next s1.next = false := by rw [ZZ]; omega
 have hb3 : Nat.ble (s1.next + 1) s.next = false := by rw [ZW]; omega
 simp (maxSteps := 4000000) (maxDischargeDepth := 8) only [zq, zg, zD, zO, za, zf, zl, zo, Yp, WL, zt, ze, Zn, Yd, zr, zU, ZC, zj, YU, Zl, zF, z9, Zx, zW, zB, zp, zi, zA, zd, zE, zb, zc, z0, z1, z5, zG, Cells.get, getN, Nat.zero_add, Nat.reduceAdd, Zd, ZK, ZO, zx, List.length_cons, List.length_nil, zL, zH, Bool.and_self, Bool.and_true, Bool.and_eq_true, Nat.beq_eq, Nat.ble_eq, Nat.reduceLeDiff, Nat.le_refl, and_self, if_true, Bool.not_true, Bool.not_false, DS.wrC, Cells.size, Cells.fillFrom, Cells.set, Zb, zM, List.take_zero, List.take_succ_cons, List.drop_succ_cons, List.drop_zero, List.nil_append, List.cons_append, List.drop_nil, List.append_nil, DS.upd_get_self, DS.upd_get_ne, DS.upd_next, DS.upd_wr, Option.map_some, zQ, wrN, Dw, Yh, ldA, Nat.add_zero, foot, Yf, hidden, noteAt, Bool.or_false, Bool.false_and, DS.read, Cells.take, zk, zw, zC, DS.upd_good, Zi, zJ, ZF, Nat.reduceLT, Nat.lt_add_one, hG1, g1, hl1, JS, WY, shielded, ZD, hb1, hb2, hb3, Bool.not_false, Bool.and_true]
 obtain ⟨S3, hS3⟩ : ∃ S3 : DS, S3 = ((((((s1.new (.cells (.list [.int .i64 0, .int .i64 0, .bool false, .int .i64 0, .int .i64 0, .int .i64 0]) false)).upd s1.next (.cells (.list [.int .i64 0, .int .i64 0, .bool false, .int .i64 0, .int .i64 0, .int .i64 0]) false)).upd s1.next (.cells (.list [.int .i64 r.c, .int .i64 r.n, .bool false, .int .i64 0, .int .i64 0, .int .i64 0]) false)).upd s1.next (.cells (.list [.int .i64 r.c, .int .i64 r.n, .bool r.rej, .int .i64 0, .int .i64 0, .int .i64 0]) false)).upd s1.next (.cells (.list [.int .i64 r.c, .int .i64 r.n, .bool r.rej, .int .i64 r.trap, .int .i64 0, .int .i64 0]) false)).upd s1.next (.cells (.list [.int .i64 r.c, .int .i64 r.n, .bool r.rej, .int .i64 r.trap, .int .i64 r.v, .int .i64 r.gas]) false)) := ⟨_, rfl⟩
 rw [← hS3]
 have X3 : Ext [] s1 S3 := by
  rw [hS3]
  have y : ∀ (S : DS) o, Ext [s1.next] S (S.upd s1.next o) := fun S o => Ext.upd (.inl (by simp))
  exact (Ext.new (F := [])).trans ((y _ _).trans' ((y _ _).trans' ((y _ _).trans' ((y _ _).trans' (y _ _))))) (by simp)
 have hG3 := X3.good hG1
 have n3 : S3.next = s1.next + 1 := by rw [hS3]; simp (maxSteps := 4000000) (maxDischargeDepth := 8) only [DS.upd_next, zQ]
 clear hS3
 have hhid : ∀ k, hidden [⟨[s1.next], s1.next + 1, s1.next + 1⟩] [0] k = false := fun k => by (simp only [hidden, shielded, noteAt, ZD, Bool.or_false, Bool.or_eq_false_iff, Bool.and_eq_false_iff, ZW, Yb, ZZ, true_and, and_true, true_or, or_true] <;> omega)
 refine W.masked (hE.fr _) (Lv hC hT hE (d := d + 5) (YL hG3 fun k hk => ⟨hhid k, ?_⟩)) ?_
 · have : ¬ k = s1.next := by omega
   (simp only [hidden, shielded, noteAt, ZD, Bool.or_false, Bool.or_eq_false_iff, Bool.and_eq_false_iff, ZW, Yb, ZZ, true_and, and_true, true_or, or_true] <;> omega)
 rintro v4 s4 ⟨h4, X4⟩ df
 simp only at h4 X4
 have X4' := Ext.unmask' X4 df
 obtain ⟨S4, hS4⟩ : ∃ S4 : DS, S4 = Ys S3 s4 := ⟨_, rfl⟩
 have n4 : s4.next = S4.next := by rw [hS4]; rfl
 have h4' : ZG E 6 S3.next S4 v4 SW HF FC := by
  rw [hS4]
  obtain ⟨f, a, b, g, a', b', D, e1, e2, e3, e4⟩ := h4
  exact ⟨f, a, b, g, a', b', D, e1, fun p hp => (Cx hhid X4).trans (e2 p hp), fun p hp => e3 p hp, e4⟩
 rw [← hS4] at X4'
 have hG4 := X4'.good hG3
 simp (maxSteps := 4000000) only [Yp, Yd, zB, zi, zA, zd, zb, zc, Nat.reduceEqDiff, z0, z1, z4, z5, List.nil_append, List.cons_append, foot, ← hS4, n4]
 have hrep : SW S4.next S4 (.agg ⟨[.int .i64 r.c, .int .i64 r.n, .bool r.rej, .int .i64 r.trap, .int .i64 r.v, .int .i64 r.gas]⟩) (((r.c, r.n), r.rej), (r.trap, (r.v, r.gas))) :=
  ⟨.agg ⟨[.int .i64 r.c, .int .i64 r.n, .bool r.rej]⟩, .agg ⟨[.int .i64 r.trap, .int .i64 r.v, .int .i64 r.gas]⟩, rfl, ⟨.agg ⟨[.int .i64 r.c, .int .i64 r.n]⟩, .bool r.rej, rfl, ⟨.int .i64 r.c, .int .i64 r.n, rfl, rfl, rfl⟩, rfl⟩, ⟨.int .i64 r.trap, .agg ⟨[.int .i64 r.v, .int .i64 r.gas]⟩, rfl, rfl, ⟨.int .i64 r.v, .int .i64 r.gas, rfl, rfl, rfl⟩⟩⟩
 obtain ⟨_, ⟨w1, w2, w3, w4⟩, w5, w6, w7, w8⟩ := hmay
 have hok : HF (((r.c, r.n), r.rej), (r.trap, (r.v, r.gas))) := ⟨⟨⟨.inr ⟨w1, by show r.c ≤ 255; omega⟩, .inl rfl⟩, trivial⟩, .inr ⟨w5, by show r.trap ≤ 255; omega⟩, .inl rfl, .inl rfl⟩
 have hlen : (FC (((r.c, r.n), r.rej), (r.trap, (r.v, r.gas)))).length ≤ 1048576 := by
  simp only [FC, QG, List.length_append, ZP]
  omega
 refine W.mono (To hC (d := d) hG4 h4' hrep NJ hok hlen rfl hE.fEnc hE.iEnc hE.fclip hE.iclip) ?_
 rintro ⟨v5, s5⟩ ⟨w, h5, h6, h7, h8, X5⟩
 simp only at h5 h6 h8 X5
 subst h5
 simp (maxSteps := 4000000) only [zI, za, zf, zl, Yp, Zn, zr, zj, zK, YJ, zp, zu, zi, zd, zb, zc, Nat.reduceEqDiff, z0, z1, zn, zy, getN, List.nil_append, List.cons_append, foot]
 have Y := X01.trans' (X3.trans' X4')
 exact hQ _ ⟨w, rfl, h6, h7, fun k hk => ⟨by have := (h8 k hk).1; have := Y.le; omega, (h8 k hk).2⟩, Y.trans' X5⟩
end
def FS (S : DS) (q : Nat) (ks : List Int) : Prop := ks ≠ [] → S.get q = some (.cells (.list (ks.map encI)) false)
structure ClI (J : Nat → DS → Prop) (ks : List Int) (vS : Value) (y1 c : Nat) (i : Nat) (x : St) : Prop where
 ex : ∃ j : Nat, i = ks.length - j ∧ j ≤ ks.length ∧ x.defers = [] ∧ (x.t.get 0 = some (.func (.yield y1) #[] #[]) ∧ x.t.get 13 = some vS ∧ x.t.get 14 = some (.int .i64 (ks.length : Int)) ∧ x.t.get 15 = some (.int .i64 (j : Int))) ∧ J j x.s
section
variable {E : Env} (hT : FQ E) (hP : LY E) {s s' : DS} {d : Nat} {t m clock : Nat} {M : TRs} {J : Nat → DS → Prop} {Stop : DS → Prop} {c y1 : Nat}
include hT hP
theorem TX (hM : XJ M clock) (gm : s.get m = some (.map (M.map trE) clock)) (hG : s.Good) :
 ∃ vS S2, (∀ dd, dcall E (dd + 1) (.func (.func 43) #[] #[]) [.func (.func 77) #[] #[.chan (some s.next)]] (s.new (.cells (.list [.map (some m)]) false)) = some (vS, S2)) ∧ Ext [] s S2 ∧ S2.Good ∧ FS S2 (s.next + 1) (ZM M) ∧ (ZM M ≠ [] → s.next + 2 ≤ S2.next) ∧
  ∃ aS, vS = .slice aS (ZM M).length (ZM M).length ∧ (ZM M ≠ [] → aS = some ⟨s.next + 1, 0, some 1⟩) := by
 have hml := DS.get_lt' gm
 have g1 : (s.new (.cells (.list [.map (some m)]) false)).get s.next = some (.cells (.list [.map (some m)]) false) := DS.new_get_self hG
 have g2 : (s.new (.cells (.list [.map (some m)]) false)).get m = some (.map (M.map trE) clock) := (DS.new_get_lt hml).trans gm
 have hn : (s.new (.cells (.list [.map (some m)]) false)).next = s.next + 1 := rfl
 have hG1 : (s.new (.cells (.list [.map (some m)]) false)).Good := DS.new_good hG
 have X1 : Ext [] s (s.new (.cells (.list [.map (some m)]) false)) := Ext.new
 obtain ⟨S, hS⟩ : ∃ S : DS, S = s.new (.cells (.list [.map (some m)]) false) := ⟨_, rfl⟩
 rw [← hS] at g1 g2 hn hG1 X1
 have hlk : (M.map fun x => x.1.key).length ≤ 64 := by
  have h1 : (ZM M).length ≤ 64 := by rw [W3 hM, List.length_map]; exact Ja _
  unfold ZM at h1
  rw [(Wn _).length_eq] at h1
  exact h1
 have hle : Nat.ble (M.map fun x => x.1.key).length 1000000 = true := Nat.ble_eq.mpr (by omega)
 have hrun : ∀ r, (match KY (M.map fun x => x.1.key) with
               | [] => some (Value.slice none 0 0, S)
               | x :: r => some (.slice (some ⟨S.next, 0, some 1⟩) (r.length + 1) (r.length + 1), S.new (.cells (.list ((x :: r).map encI)) false))) = some r → WV 77 [.func (.func 77) ⟨[]⟩ ⟨[.chan (some s.next)]⟩] S = some r := fun r hr => by
  unfold WV
  simp only [Nat.beq_refl, if_true, g1, Cells.get, getN, g2, C7 hM, hle]
  exact hr
 rw [← hS]
 cases hk : ZM M with
 | nil =>
  refine ⟨.slice none 0 0, S, fun dd => Vd hP.isorted (hrun _ ?_), X1, hG1, fun h => absurd rfl h, fun h => absurd rfl h, none, rfl, fun h => absurd rfl h⟩
  unfold ZM at hk
  rw [hk]
 | cons x r =>
  refine ⟨.slice (some ⟨S.next, 0, some 1⟩) (r.length + 1) (r.length + 1), S.new (.cells (.list ((x :: r).map encI)) false), fun dd => Vd hP.isorted (hrun _ ?_), X1.trans' Ext.new, DS.new_good hG1, fun _ => ?_, fun _ => ?_, some ⟨S.next, 0, some 1⟩, rfl, fun _ => by rw [hn]⟩
  · unfold ZM at hk
    rw [hk]
  · rw [← hn]; exact DS.new_get_self hG1
  · show s.next + 2 ≤ S.next + 1
    omega
theorem FI (hG : s.Good) : dcall E (d + 1) (.func (.func 20) #[] #[]) [.pointer (some ⟨t, 0, none⟩)] s = some (.func (.func 42) #[] #[.pointer (some ⟨s.next, 0, none⟩)], s.new (.cells (.list [.pointer (some ⟨t, 0, none⟩)]) false)) := by
 rw [← V6, zP hP.icl hP.fcl rfl]
 simp (maxSteps := 4000000) only [zq, zg, zI, za, zf, zl, zo, ze, zj, zK, Ww, ZA, zu, zi, zm, zd, zb, zc, Nat.reduceEqDiff, z0, zh, List.getElem?_cons_zero, z1, zn, zy, z4, z5, VD, pp, pv, d20]
theorem RL (hM : XJ M clock) (hlf : 1000 ≤ E.lf) (hG : s.Good)
 (gc : s.get c = some (.cells (.list [.pointer (some ⟨t, 0, none⟩)]) false)) (go : s.get t = some (.cells (.list [.map (some m)]) false)) (gm : s.get m = some (.map (M.map trE) clock))
 (hJ : ∀ i S, J i S → FS S (s.next + 1) (ZM M))
 (hstep : ∀ (i : Nat) (k : Int) (S : DS), (ZM M)[i]? = some k → J i S → W (dcall E (d + 1) (.func (.yield y1) #[] #[]) [.int .i64 k] S) fun r => (r.1 = .bool true ∧ J (i + 1) r.2) ∨ (r.1 = .bool false ∧ Stop r.2))
 (h0 : ∀ S, Ext [] s S → S.Good → FS S (s.next + 1) (ZM M) → (ZM M ≠ [] → s.next + 2 ≤ S.next) → J 0 S) :
 W (dcall E (d + 2) (.func (.func 42) #[] #[.pointer (some ⟨c, 0, none⟩)]) [.func (.yield y1) #[] #[]] s) fun r => J (ZM M).length r.2 ∨ Stop r.2 := by
 have hol := DS.get_lt' go
 have hml := DS.get_lt' gm
 have hcl := DS.get_lt' gc
 have hkl : (ZM M).length ≤ 64 := by rw [W3 hM, List.length_map]; exact Ja _
 refine Zh fun Q hQ => ?_
 rw [Yw hP.icl1 hP.fcl1 rfl]
 obtain ⟨vS, S2, hs, X2, hG2, hq, hn2, aS, rfl, haS⟩ := TX hT hP hM gm hG
 have hmade := KW hT go (d := d)
 have hk : ∀ dd, dcall E (dd + 1) (.func (.func 44) #[] #[]) [.map (some m)] s = some (.func (.func 77) #[] #[.chan (some s.next)], s.new (.cells (.list [.map (some m)]) false)) := fun dd => Vd hP.ikeys rfl
 simp (maxSteps := 4000000) only [zq, zg, zD, Zp, zO, za, zf, zl, zo, zt, ze, zr, zj, zK, YU, z8, zF, ZE, z9, zB, zp, zi, zm, zA, zd, zb, zc, Nat.reduceEqDiff, z0, zh, List.getElem?_cons_zero, List.getElem?_cons_succ, z1, z4, z5, zG, Cells.get, getN, Bool.not_true, List.nil_append, List.cons_append, pp, pv, Nat.add_zero, d42, gc, go, hmade, hk, hs]
 refine Wc (ClI J (ZM M) (.slice aS (ZM M).length (ZM M).length) y1 c) (ZM M).length (by omega) ⟨0, rfl, Nat.zero_le _, rfl, ?_, h0 S2 X2 hG2 hq hn2⟩ ?_
 · simp (maxSteps := 4000000) only [zb, zc, Nat.reduceEqDiff, z0, zh, List.getElem?_cons_zero, Bool.true_and, true_and, reduceCtorEq]
   rfl
 rintro n ⟨t1, S, ds⟩ hn ⟨i, rfl, hi, hds, ⟨g0, g13, g14, g15⟩, hj⟩
 simp only at hds g0 g13 g14 g15 hj
 subst hds
 by_cases c1 : i < (ZM M).length
 · have hx : (ZM M)[i]? = some (ZM M)[i] := List.getElem?_eq_getElem c1
   generalize (ZM M)[i] = k at hx
   have hne : ZM M ≠ [] := fun e => by rw [e] at c1; simp at c1
   have hqS := hJ i S hj hne
   rw [haS hne] at g13
   have hg : getN ((ZM M).map encI) i = some (.int .i64 k) := by rw [Yu, List.getElem?_map, hx]; rfl
   have e1 : (i : Int) < ((ZM M).length : Int) := by omega
   have w1 : Zj .i64 ((i : Int) + 1) = ((i + 1 : Nat) : Int) := by rw [ZV (by omega) (by omega)]; omega
   simp (maxSteps := 4000000) only [zq, zg, zD, Zp, zO, za, zf, zl, zo, zN, ze, zr, zj, zK, zV, FO, z9, zB, zp, Zc, zX, zi, zd, zb, zc, Nat.reduceEqDiff, z0, z1, z4, z5, zG, Cells.get, Nat.zero_add, Nat.blt_eq, if_true, reduceCtorEq, Zq, Nat.mul_one, decide_true, g0, g13, g14, g15, e1, c1, hqS, hg]
   refine W.mono (hstep i k S hx hj) ?_
   rintro ⟨v, S3⟩ (⟨hv, hj3⟩ | ⟨hv, hst⟩)
   · simp only at hv hj3
     subst hv
     simp (maxSteps := 4000000) only [zg, zD, zO, za, Zk, zf, ZB, zl, zo, zt, ze, zr, zj, zK, zV, YU, zp, Zc, zX, zi, zm, zd, zb, zc, Nat.reduceEqDiff, z0, z1, if_true, Bool.not_true, g0, g13, g14, g15, w1]
     exact ⟨(ZM M).length - (i + 1), by omega, ⟨i + 1, rfl, by omega, rfl, by simp (maxSteps := 4000000) only [zb, zc, Nat.reduceEqDiff, z0, Bool.and_self, and_self, reduceCtorEq, g0, g13, g14, g15, haS hne], hj3⟩⟩
   · simp only at hv hst
     subst hv
     simp (maxSteps := 4000000) only [zD, zI, za, Zf, YA, zf, Xq, zl, zo, zN, ze, zr, zj, YU, zp, zu, zi, zd, zb, z1, zn, zy, Bool.not_false, g0, g13, g14, g15]
     exact hQ _ (.inr hst)
 · obtain rfl : i = (ZM M).length := by omega
   have e1 : ¬ ((ZM M).length : Int) < ((ZM M).length : Int) := by omega
   simp (maxSteps := 4000000) only [zq, zg, zD, Yx, za, ZH, ZI, zf, ZN, zl, zo, zt, ze, zr, zj, zV, Zc, zX, Zw, zi, zd, zb, z1, zn, zy, if_true, decide_false, g0, g13, g14, g15, e1]
   exact hQ _ (.inl hj)
end
end Go.Dx.TbA
namespace Go.Dx.TbA
open Go Go.Dx Go.Dx.Tab Go.Proofs.YtffgmngdgkpflaaGreat
def JT (x : TR) : ZL := ((x.key, x.num), (x.done, if x.done = true then encR x.rep else []))
def QX (A : Int → Option TR) (k : Int) : ZL := match A k with | some x => JT x | none => ((0, 0), (false, []))
def QY (A : Int → Option TR) : List ZL := (XL A).map fun i : Nat => QX A (i : Int)
def Qc (A : Int → Option TR) : List Int := KJ (QY A)
theorem Tp (r : Rp) : (encR r).length = 27 := by
 simp only [encR, FC, QG, List.length_append, ZP]
theorem DH (x : ZL) : (V3 x).length = 14 + x.2.2.length := by
 simp only [V3, QG, List.length_append, ZP]
 omega
theorem Fg (A : Int → Option TR) (k : Int) : (QX A k).2.2.length ≤ 27 := by
 unfold QX
 split
 · unfold JT
   split
   · rw [Tp]; exact Nat.le_refl _
   · exact Nat.zero_le _
 · exact Nat.zero_le _
theorem MG : ∀ (l : List ZL), (∀ x, x ∈ l → x.2.2.length ≤ 27) → (l.flatMap V3).length ≤ l.length * 41
 | [], _ => Nat.zero_le _
 | x :: l, h => by
  have h1 := h x (List.mem_cons_self ..)
  have h2 := MG l fun y hy => h y (List.mem_cons_of_mem _ hy)
  rw [List.flatMap_cons, List.length_append, DH, List.length_cons]
  omega
theorem C4 (A : Int → Option TR) : (QY A).length ≤ 64 := by unfold QY; rw [List.length_map]; exact Ja A
theorem Px (A : Int → Option TR) : (Qc A).length ≤ 2626 := by
 have h1 := MG (QY A) fun x hx => by
  obtain ⟨i, _, rfl⟩ := List.mem_map.1 hx
  exact Fg A _
 have h2 := C4 A
 unfold Qc KJ
 rw [List.length_append, ZP]
 omega
def En (n : Nat) (s : DS) (v : Value) (x : ZL) : Prop := ∃ b n c, v = .agg ⟨[.int .i64 x.1.1, .int .i64 x.1.2, .bool x.2.1, .slice b n c]⟩ ∧ SlV s 1 (.slice b n c) (Zy x.2.2)
theorem W4 : MQ En := fun n s s' row x ⟨b, m, c, h, hw⟩ hg => ⟨b, m, c, h, hw.of fun k hk => hg k (by
 cases h
 simp only [List.flatMap_cons, List.flatMap_nil, List.mem_append, List.append_nil]
 exact .inr (.inr (.inr hk)))⟩
def Gb : DCode := (.region [pv 4 14])
def Jg : DCode := (.block 1 (.seq (.region [pp 15 (.ld none (tm 1)), pp 16 (.nilck (tm 15)), pp 17 (.fadr 0 (tm 16)), pp 18 (.ld none (tm 17)), pv 19 4, pp 20 (.look .num (.agg #[.int .i64 0, .bool false, .int .i64 0, .int .i64 0, .bool false, .int .i64 0, .int .i64 0, .int .i64 0]) false (tm 18) (tm 19)), pp 5 (.alloc [.int .i64 0, .bool false, .int .i64 0, .int .i64 0, .bool false, .int .i64 0, .int .i64 0, .int .i64 0]), ⟨none, .st 8 (tm 5) (tm 20), none, [], false⟩]) (.seq (.region [pv 21 4, pp 22 (.fadr 0 (tm 5)), pp 23 (.ld none (tm 22)), pp 24 (.build [.int .i64 0, .int .i64 0] [(0, 1, .tmp 21), (1, 1, .tmp 23)]), pp 25 (.build [.int .i64 0, .int .i64 0, .bool false, .slice none 0 0] [(0, 2, .tmp 24)]), pp 6 (.alloc [.int .i64 0, .int .i64 0, .bool false, .slice none 0 0]), ⟨none, .st 4 (tm 6) (tm 25), none, [], false⟩]) (.seq (.seq (.region [pp 26 (.fadr 1 (tm 5)), pp 27 (.ld none (tm 26)), pp 28 (.fadr 2 (tm 6)), pp 29 (.fadr 0 (tm 28)), ⟨none, .st 1 (tm 29) (tm 27), none, [], false⟩]) (.seq (.region [pp 30 (.fadr 1 (tm 5)), pp 31 (.ld none (tm 30))]) (.cond (tm 31) (.region [pp 33 (.fadr 2 (tm 5)), pp 34 (.ld (some 6) (tm 33)), pp 35 (.call (.func 35) [.tmp 34]), pv 32 35, pp 36 (.ext (tm 32) 0), pp 37 (.ext (tm 32) 1), pp 38 (.fadr 2 (tm 6)), pp 39 (.fadr 1 (tm 38)), ⟨none, .st 1 (tm 39) (tm 36), none, [], false⟩]) (.skip)))) (.region [pp 40 (.ld none (tm 3)), pp 41 (.ld (some 4) (tm 6)), pp 42 (.bslice 1 4 [.int .i64 0, .int .i64 0, .bool false, .slice none 0 0] [(0, 4, .tmp 41)]), pp 43 (.bapp 48 4 (tm 40) (tm 42)), ⟨none, .st 1 (tm 3) (tm 43), none, [], false⟩])))))
structure PkJ (U : DS) (b0 : Nat) (tt : PT Value) (A : Int → Option TR) (ks : List Int) (i : Nat) (S : DS) : Prop where
 X : Ext [b0 + 1, b0 + 4] U S
 lp : S.get (b0 + 4) = some (.loop .ready .normal tt [14] Gb Jg)
 kat : FS S (U.next + 1) ks
 big : ks ≠ [] → U.next + 2 ≤ S.next
 ex : ∃ lv rows, S.get (b0 + 1) = some (.cells (.list [lv]) false) ∧ SlC S 4 lv rows ∧ Z0 4 rows ∧ VF En (U.next + 2) S lv rows ((ks.take i).map (QX A)) ∧ ∀ k, k ∈ blk lv → U.next + 2 ≤ k
section
variable {E : Env} (hC : KQ E) (hT : FQ E) (hE : PX E) (hF : FP E) (hW : LX E) (hP : LY E) {s s' : DS} {d : Nat} {t m clock : Nat} {M : TRs}
include hC hT hE hF hW hP
theorem Ld (hM : XJ M clock) {U S : DS} {b0 i : Nat} {k : Int} {tt : PT Value} (hGU : U.Good) (hGS : S.Good) (nU : U.next = b0 + 5) (wU : ∀ k, b0 ≤ k → U.wr k = true) (htl : t < b0) (hml : m < b0)
 (gp : U.get b0 = some (.cells (.list [.pointer (some ⟨t, 0, none⟩)]) false)) (go : U.get t = some (.cells (.list [.map (some m)]) false)) (gm : U.get m = some (.map (M.map trE) clock))
 (t1 : tt.get 1 = some (.pointer (some ⟨b0, 0, none⟩))) (t3 : tt.get 3 = some (.pointer (some ⟨b0 + 1, 0, none⟩)))
 (hx : (ZM M)[i]? = some k) (hj : PkJ U b0 tt (Go.Dx.Tab.rowOf M) (ZM M) i S) :
 W (dcall E (d + 10) (.func (.yield (b0 + 4)) #[] #[]) [.int .i64 k] S) fun r => (r.1 = .bool true ∧ PkJ U b0 tt (Go.Dx.Tab.rowOf M) (ZM M) (i + 1) r.2) ∨ (r.1 = .bool false ∧ False) := by
 obtain ⟨X, gy, hks, hbig, lv, rows, gl, hsl, hok, hrr, hlb⟩ := hj
 have hne : ZM M ≠ [] := fun e => by rw [e] at hx; simp at hx
 have hbig := hbig hne
 have hks := hks hne
 have hkm : k ∈ ZM M := List.mem_of_getElem? hx
 have hsome := (Kh hM).1 hkm
 have hwS : ∀ k, b0 ≤ k → S.wr k = true := fun k hk => X.wrs (wU k hk)
 have gpS := X.keep gp (by simp)
 have goS := X.keep go (by simp; omega)
 have gmS := X.keep gm (by simp; omega)
 refine Zh fun Q hQ => ?_
 refine RU gy rfl ?_
 simp (maxSteps := 4000000) only [zg, zf, zl, zo, ze, zK, zi, zd, zb, z1, pv, Kt, JI, Gb]
 refine Tx gy (hwS _ (by omega)) ?_
 obtain ⟨Sb, hSb⟩ : ∃ Sb : DS, Sb = S.upd (b0 + 4) (.loop .busy .normal tt [14] Gb Jg) := ⟨_, rfl⟩
 have Xb : Ext [b0 + 4] S Sb := by rw [hSb]; exact Ext.upd (.inl (by simp))
 have gby : Sb.get (b0 + 4) = some (.loop .busy .normal tt [14] Gb Jg) := by rw [hSb, DS.upd_get_self, gy]; rfl
 have nb : Sb.next = S.next := by rw [hSb, DS.upd_next]
 show WC _ _ _ Jg ⟨_, S.upd (b0 + 4) (.loop .busy .normal tt [14] Gb Jg), []⟩ _
 rw [← hSb]
 clear hSb
 have hGb := Xb.good hGS
 have bp := Xb.keep gpS (by simp)
 have bo := Xb.keep goS (by simp; omega)
 have bm := Xb.keep gmS (by simp; omega)
 have bl := Xb.keep gl (by simp)
 have lp := DS.get_lt' bp
 have lo := DS.get_lt' bo
 have lm := DS.get_lt' bm
 have ll := DS.get_lt' bl
 have wb' : ∀ k, b0 ≤ k → Sb.wr k = true := fun k hk => Xb.wrs (hwS k hk)
 rcases J4 M k 0 with ⟨_, hno, _⟩ | ⟨j, x, hf, hj2, hk2, _⟩
 · rw [hno] at hsome; cases hsome
 have hxk : x.1.key = k := Q7 hk2
 have hrow := hM.row x (List.mem_of_getElem? hj2)
 have hv : (trE x).val = .agg ⟨[.int .i64 x.1.num, .bool x.1.done, .int .i64 x.1.rep.c, .int .i64 x.1.rep.n, .bool x.1.rep.rej, .int .i64 x.1.rep.trap, .int .i64 x.1.rep.v, .int .i64 x.1.rep.gas]⟩ := rfl
 obtain ⟨T1, hT1⟩ : ∃ T1 : DS, T1 = (Sb.new (.cells (.list [.int .i64 0, .bool false, .int .i64 0, .int .i64 0, .bool false, .int .i64 0, .int .i64 0, .int .i64 0]) false)).upd Sb.next (.cells (.list [.int .i64 x.1.num, .bool x.1.done, .int .i64 x.1.rep.c, .int .i64 x.1.rep.n, .bool x.1.rep.rej, .int .i64 x.1.rep.trap, .int .i64 x.1.rep.v, .int .i64 x.1.rep.gas]) false) := ⟨_, rfl⟩
 have Z1 : Ext [] Sb T1 := by
  rw [hT1]
  exact (Ext.new (F := [])).trans (Ext.upd (F := [Sb.next]) (.inl (by simp))) (by simp)
 have G1 := Z1.good hGb
 have n1 : T1.next = Sb.next + 1 := by rw [hT1, DS.upd_next]; rfl
 have g1 : T1.get Sb.next = some (.cells (.list [.int .i64 x.1.num, .bool x.1.done, .int .i64 x.1.rep.c, .int .i64 x.1.rep.n, .bool x.1.rep.rej, .int .i64 x.1.rep.trap, .int .i64 x.1.rep.v, .int .i64 x.1.rep.gas]) false) := by rw [hT1, DS.upd_get_self, DS.new_get_self hGb]; rfl
 have l1 := DS.get_lt' g1
 obtain ⟨T2, hT2⟩ : ∃ T2 : DS, T2 = ((T1.new (.cells (.list [.int .i64 0, .int .i64 0, .bool false, .slice none 0 0]) false)).upd T1.next (.cells (.list [.int .i64 k, .int .i64 x.1.num, .bool false, .slice none 0 0]) false)).upd T1.next (.cells (.list [.int .i64 k, .int .i64 x.1.num, .bool x.1.done, .slice none 0 0]) false) := ⟨_, rfl⟩
 have Z2 : Ext [] T1 T2 := by
  rw [hT2]
  have a1 : Ext [] T1 (T1.new (.cells (.list [.int .i64 0, .int .i64 0, .bool false, .slice none 0 0]) false)) := Ext.new
  have a2 : ∀ (S : DS) o, Ext [T1.next] S (S.upd T1.next o) := fun S o => Ext.upd (.inl (by simp))
  exact a1.trans ((a2 _ _).trans' (a2 _ _)) (by simp)
 have G2 := Z2.good G1
 have n2 : T2.next = T1.next + 1 := by rw [hT2, DS.upd_next, DS.upd_next]; rfl
 have g2 : T2.get T1.next = some (.cells (.list [.int .i64 k, .int .i64 x.1.num, .bool x.1.done, .slice none 0 0]) false) := by rw [hT2, DS.upd_get_self, DS.upd_get_self, DS.new_get_self G1]; rfl
 have g12 := Z2.keep g1 (by simp)
 simp (maxSteps := 4000000) (maxDischargeDepth := 8) only [zq, zg, zD, Zp, za, zf, zl, zo, ze, zr, zU, ZC, zj, zK, z8, Zl, zF, z9, KO, Zx, zW, zp, zZ, zi, zd, zE, zb, zc, z0, z1, zG, Cells.get, getN, Nat.zero_add, Nat.reduceAdd, Zd, ZK, ZO, zx, List.length_cons, List.length_nil, zL, zH, Bool.and_self, Bool.and_true, Bool.and_eq_true, Nat.beq_eq, Nat.ble_eq, Nat.reduceLeDiff, Nat.le_refl, and_self, if_true, if_false, z3, DS.wrC, Cells.size, Cells.fillFrom, Cells.set, Zb, zM, List.take_zero, List.take_succ_cons, List.drop_succ_cons, List.drop_zero, List.nil_append, List.cons_append, List.drop_nil, List.append_nil, pp, pv, DS.upd_get_self, DS.upd_get_ne, DS.upd_wr, Option.map_some, wrN, Nat.add_zero, zk, zw, zC, DS.upd_good, Zi, zJ, ZF, Nat.reduceLT, Nat.lt_add_one, Jg, t1, t3, hGb, bp, bo, bm, bl, lp, lo, lm, ll, isKey, hf, hv, ← hT1, g1, l1, G1, ← hT2, g2, g12]
 have hlen : (JT x.1).2.2 = if x.1.done = true then encR x.1.rep else [] := rfl
 cases hd : x.1.done with
 | false =>
  rw [hd] at g2 g12 hlen
  obtain ⟨S5, hS5⟩ : ∃ S5 : DS, S5 = T2 := ⟨_, rfl⟩
  have Y5 : Ext [T1.next] T2 S5 := by rw [hS5]; exact .refl
  obtain ⟨wb, wn, wc, hwE⟩ : ∃ wb wn wc, Value.slice wb wn wc = .slice none 0 0 := ⟨_, _, _, rfl⟩
  have g5 : S5.get T1.next = some (.cells (.list [.int .i64 k, .int .i64 x.1.num, .bool x.1.done, .slice wb wn wc]) false) := by rw [hS5, hwE, hd]; exact g2
  have hw5 : SlV S5 1 (.slice wb wn wc) (Zy (JT x.1).2.2) := by rw [hwE, hlen]; exact .inl ⟨rfl, rfl⟩
  have hb5 : ∀ k, k ∈ blk (.slice wb wn wc) → T2.next ≤ k ∧ k < S5.next := by rw [hwE]; exact fun k hk => nomatch hk
  simp (maxSteps := 4000000) only [zg, zO, za, zo, zt, z9, zi, zc, Nat.reduceEqDiff, z0, z1, zG, Cells.get, t1, t3]
  rw [← hS5]
  have X5b : Ext [] Sb S5 := (Z1.trans' Z2).trans Y5 (by simp; omega)
  have G5 := X5b.good hGb
  have bl5 := X5b.keep bl (by simp)
  have by5 := X5b.keep gby (by simp)
  have hld5 : ldA 4 (.pointer (some ⟨T1.next, 0, none⟩)) S5 = some (.agg ⟨[.int .i64 k, .int .i64 x.1.num, .bool x.1.done, .slice wb wn wc]⟩) := by
   simp only [ldA, DS.read, g5]
   rfl
  simp (maxSteps := 4000000) (maxDischargeDepth := 8) only [zo, ze, zr, Wg, zj, zi, zd, zb, zc, z0, z1, getN, Nat.zero_add, Nat.reduceAdd, zx, List.length_cons, List.length_nil, Bool.and_self, Bool.and_eq_true, Nat.beq_eq, Nat.ble_eq, Nat.reduceLeDiff, Nat.le_refl, and_self, if_true, zM, List.take_zero, List.drop_succ_cons, List.nil_append, List.drop_nil, List.append_nil, KC, W6, repeatZ, Nat.reduceMul, Wg, Yh, zJ, Nat.reduceLT, Nat.lt_add_one, t1, t3, bl5, hld5, G5]
  obtain ⟨S6, hS6⟩ : ∃ S6 : DS, S6 = S5.new (.cells (.list [.int .i64 k, .int .i64 x.1.num, .bool x.1.done, .slice wb wn wc]) false) := ⟨_, rfl⟩
  rw [← hS6]
  have Z6 : ∀ F, Ext F S5 S6 := fun F => by rw [hS6]; exact Ext.new
  have g6 : S6.get S5.next = some (.cells (.list [.int .i64 k, .int .i64 x.1.num, .bool x.1.done, .slice wb wn wc]) false) := by rw [hS6]; exact DS.new_get_self G5
  have n6 : S6.next = S5.next + 1 := by rw [hS6]; rfl
  clear hS6
  have hw6 : SlV S6 4 (.slice (some ⟨S5.next, 0, none⟩) 1 1) [[.int .i64 k, .int .i64 x.1.num, .bool x.1.done, .slice wb wn wc]] := .inr ⟨S5.next, 0, none, 1, rfl, by unfold DS.read; rw [g6]; simp only [List.length_cons, List.length_nil, List.flatten_cons, List.flatten_nil, List.append_nil]; rfl⟩
  have ok1 : Z0 4 [[.int .i64 k, .int .i64 x.1.num, .bool x.1.done, .slice wb wn wc]] := ⟨fun y hy => by rw [List.mem_singleton.1 hy]; rfl, fun y hy => by rw [List.mem_singleton.1 hy]; rfl⟩
  have hkl : (ZM M).length ≤ 64 := by rw [W3 hM, List.length_map]; exact Ja _
  have hrl : rows.length ≤ 64 := by rw [hrr.len, List.length_map, List.length_take]; omega
  have bkS : ∀ k, k ∈ blk lv → k < S.next := fun k hk => hsl.lt k hk
  have XS5 : Ext [b0 + 4] S S5 := Xb.trans X5b (by simp)
  have le5 := XS5.le
  have leb := X5b.le
  refine W.mono (Gq ((hsl.keep XS5 (fun k hk => by have := hlb k hk; simp; omega)).keep (Z6 []) (by simp)) hw6 hok ok1 ((Z6 []).good G5) (by simp; omega) (by simp; omega)) ?_
  rintro ⟨lv7, S7⟩ ⟨sk7, X7, b7, _⟩
  simp only at sk7 X7 b7
  have bl7 := X7.keep ((Z6 []).keep bl5 (by simp)) (fun h => by have := hlb _ h; omega)
  have by7 := X7.keep ((Z6 []).keep by5 (by simp)) (fun h => by have := hlb _ h; omega)
  have w7 : ∀ k, b0 ≤ k → S7.wr k = true := fun k hk => X7.wrs ((Z6 []).wrs (X5b.wrs (wb' k hk)))
  have le7 := X7.le
  obtain ⟨a7, c7, hlv7⟩ := sk7.shape
  have hcl7 : lv7.cells.toList = [lv7] := by rw [hlv7]; rfl
  have hal7 : zL [lv7] = true := by rw [hlv7]; rfl
  simp (maxSteps := 4000000) only [Zk, zf, zl, zo, ze, zU, zj, Zx, zi, zd, zE, zb, zc, Nat.reduceEqDiff, z0, z1, Nat.zero_add, Zd, List.length_cons, List.length_nil, Bool.and_true, Nat.beq_eq, Nat.ble_eq, Nat.le_refl, if_true, DS.wrC, Cells.size, Cells.fillFrom, Cells.set, Zb, t1, t3, bl7, w7 (b0 + 1) (Nat.le_succ _), hcl7, hal7]
  obtain ⟨S8, hS8⟩ : ∃ S8 : DS, S8 = S7.upd (b0 + 1) (.cells (.list [lv7]) false) := ⟨_, rfl⟩
  rw [← hS8]
  have X8 : Ext [b0 + 1] S7 S8 := by rw [hS8]; exact Ext.upd (.inl (by simp))
  have g8 : S8.get (b0 + 1) = some (.cells (.list [lv7]) false) := by rw [hS8, DS.upd_get_self, bl7]; rfl
  clear hS8
  have gy8 := X8.keep by7 (by simp)
  refine FH gy8 (X8.wrs (w7 _ (by omega))) ?_
  show Q (.bool true, S8.upd (b0 + 4) (.loop .ready .normal tt [14] Gb Jg))
  obtain ⟨S9, hS9⟩ : ∃ S9 : DS, S9 = S8.upd (b0 + 4) (.loop .ready .normal tt [14] Gb Jg) := ⟨_, rfl⟩
  rw [← hS9]
  have X9 : Ext [b0 + 4] S8 S9 := by rw [hS9]; exact Ext.upd (.inl (by simp))
  have g9 : S9.get (b0 + 4) = some (.loop .ready .normal tt [14] Gb Jg) := by rw [hS9, DS.upd_get_self, gy8]; rfl
  clear hS9
  have le8 := X8.le
  have le9 := X9.le
  have nT : S.next ≤ T2.next := by omega
  have hb4 : ∀ k, k < S6.next → k ∉ blk lv → k ∉ blk lv7 := fun k k1 k2 hk => by
   rcases b7 k hk with h | h
   · exact k2 h
   · omega
  have hb7 : ∀ k, k ∈ blk lv7 → U.next + 2 ≤ k := fun k hk => by
   rcases b7 k hk with h | h
   · exact hlb k h
   · omega
  refine hQ _ (.inl ⟨rfl, ⟨?_, g9, fun _ => ?_, fun _ => ?_, lv7, _, X9.keep g8 (by simp), ?_, hok.append ok1, ?_, hb7⟩⟩)
  · exact ((((X.trans' (XS5.weaken (by simp))).trans' (Z6 _)).trans X7 (fun k hk => .inr (by have := hlb k hk; omega))).trans' (X8.weaken (by simp))).trans' (X9.weaken (by simp))
  · exact X9.keep (X8.keep (X7.keep ((Z6 []).keep (XS5.keep hks (by simp; omega)) (by simp)) (fun h => by have := hlb _ h; omega)) (by simp; omega)) (by simp; omega)
  · show U.next + 2 ≤ S9.next
    omega
  · exact (sk7.keep X8 (fun k hk => by have := hb7 k hk; simp; omega)).keep X9 (fun k hk => by have := hb7 k hk; simp; omega)
  · have h3 := hrr.step (s' := S6) (lv' := lv) W4 (fun k k1 k2 _ => ((Z6 []).get k (by omega) (by simp)).trans (XS5.get k k2 (by simp; omega))) (by omega) (fun k _ h => h)
    have h4 := h3.step (s' := S7) (lv' := lv7) W4 (fun k k1 k2 k3 => X7.get k k2 k3) le7 hb4
    have hfl : ([.int .i64 k, .int .i64 x.1.num, .bool x.1.done, .slice wb wn wc] : List Value).flatMap blk = blk (.slice wb wn wc) := by simp [blk]
    have h5 := h4.snoc (row := [.int .i64 k, .int .i64 x.1.num, .bool x.1.done, .slice wb wn wc]) (x := JT x.1) ⟨wb, wn, wc, by rw [← hxk]; rfl, hw5.of fun k hk => (X7.get k (by have := hb5 k hk; omega) (fun h => by have := hb5 k hk; have := bkS k h; omega)).trans ((Z6 []).get k (hb5 k hk).2 (by simp))⟩ (by
     rw [hfl]
     intro k hk
     have h1 := hb5 k hk
     exact ⟨hb4 k (by omega) (fun h => by have := bkS k h; omega), by omega, by omega⟩)
    have hl : (((ZM M).take (i + 1)).map (QX (Go.Dx.Tab.rowOf M))) = ((ZM M).take i).map (QX (Go.Dx.Tab.rowOf M)) ++ [JT x.1] := by
     rw [List.take_add_one, hx, List.map_append]
     simp only [Option.toList, z4, z5, QX, hk2]
    rw [hl]
    exact h5.step (s' := S9) (lv' := lv7) W4 (fun k k1 k2 _ => (X9.get k (by omega) (by simp; omega)).trans (X8.get k k2 (by simp; omega))) (by omega) (fun k _ h => h)
 | true =>
  rw [hd] at g2 g12 hlen
  have hld : ldA 6 (.pointer (some ⟨Sb.next, 2, none⟩)) T2 = some (.agg ⟨x.1.rep.cells⟩) := by
   simp only [ldA, DS.read, g12]
   rfl
  simp (maxSteps := 4000000) (maxDischargeDepth := 8) only [zg, zo, zN, ze, zr, zj, zF, zB, zp, zi, zA, zd, zb, zc, z0, z1, z4, z5, Nat.zero_add, Yh, zJ, Nat.reduceLT, Nat.lt_add_one, hld]
  refine W.mono (Sv hC hT hE (d := d) G2 x.1.rep (hrow.done hd).1) ?_
  rintro ⟨v4, s4⟩ ⟨w, h4, h6, ⟨wa, h7, _⟩, h8, X4⟩
  simp only at h4 h6 h8 X4
  subst h4
  subst h7
  have g24 := X4.keep g2 (by simp)
  have w24 : s4.wr T1.next = true := X4.wrs (Z2.wrs (G1 _ (Nat.le_refl _)).2)
  simp (maxSteps := 4000000) only [zg, za, zf, zl, zo, ze, zr, zU, zj, zK, zF, YJ, z9, Zx, zp, zi, zd, zE, zb, zc, Nat.reduceEqDiff, z0, z1, zG, Cells.get, getN, Nat.zero_add, Nat.reduceAdd, Zd, YE, List.length_cons, List.length_nil, zL, zH, Bool.and_self, Bool.and_true, Nat.beq_eq, Nat.ble_eq, Nat.le_refl, if_true, DS.wrC, Cells.size, Cells.fillFrom, Cells.set, Zb, t1, t3, g24, w24]
  obtain ⟨S5, hS5⟩ : ∃ S5 : DS, S5 = s4.upd T1.next (.cells (.list [.int .i64 k, .int .i64 x.1.num, .bool true, .slice wa (encR x.1.rep).length (encR x.1.rep).length]) false) := ⟨_, rfl⟩
  rw [← hS5]
  have Y5' : Ext [T1.next] s4 S5 := by rw [hS5]; exact Ext.upd (.inl (by simp))
  have Y5 : Ext [T1.next] T2 S5 := (X4.weaken (by simp)).trans' Y5'
  obtain ⟨wb, wn, wc, hwE⟩ : ∃ wb wn wc, Value.slice wb wn wc = .slice wa (encR x.1.rep).length (encR x.1.rep).length := ⟨_, _, _, rfl⟩
  have g5 : S5.get T1.next = some (.cells (.list [.int .i64 k, .int .i64 x.1.num, .bool x.1.done, .slice wb wn wc]) false) := by rw [hS5, DS.upd_get_self, g24, hwE, hd]; rfl
  have hw5 : SlV S5 1 (.slice wb wn wc) (Zy (JT x.1).2.2) := by
   rw [hwE, hlen, if_pos rfl]
   exact h6.of fun k hk => Y5'.get k (h8 k hk).2 (by have := (h8 k hk).1; simp; omega)
  have hb5 : ∀ k, k ∈ blk (.slice wb wn wc) → T2.next ≤ k ∧ k < S5.next := by
   rw [hwE]
   exact fun k hk => ⟨(h8 k hk).1, Nat.lt_of_lt_of_le (h8 k hk).2 Y5'.le⟩
  have X5b : Ext [] Sb S5 := (Z1.trans' Z2).trans Y5 (by simp; omega)
  have G5 := X5b.good hGb
  have bl5 := X5b.keep bl (by simp)
  have by5 := X5b.keep gby (by simp)
  have hld5 : ldA 4 (.pointer (some ⟨T1.next, 0, none⟩)) S5 = some (.agg ⟨[.int .i64 k, .int .i64 x.1.num, .bool x.1.done, .slice wb wn wc]⟩) := by
   simp only [ldA, DS.read, g5]
   rfl
  simp (maxSteps := 4000000) (maxDischargeDepth := 8) only [zo, ze, zr, Wg, zj, zi, zd, zb, zc, z0, z1, getN, Nat.zero_add, Nat.reduceAdd, zx, List.length_cons, List.length_nil, Bool.and_self, Bool.and_eq_true, Nat.beq_eq, Nat.ble_eq, Nat.reduceLeDiff, Nat.le_refl, and_self, if_true, zM, List.take_zero, List.drop_succ_cons, List.nil_append, List.drop_nil, List.append_nil, KC, W6, repeatZ, Nat.reduceMul, Wg, Yh, zJ, Nat.reduceLT, Nat.lt_add_one, t1, t3, bl5, hld5, G5]
  obtain ⟨S6, hS6⟩ : ∃ S6 : DS, S6 = S5.new (.cells (.list [.int .i64 k, .int .i64 x.1.num, .bool x.1.done, .slice wb wn wc]) false) := ⟨_, rfl⟩
  rw [← hS6]
  have Z6 : ∀ F, Ext F S5 S6 := fun F => by rw [hS6]; exact Ext.new
  have g6 : S6.get S5.next = some (.cells (.list [.int .i64 k, .int .i64 x.1.num, .bool x.1.done, .slice wb wn wc]) false) := by rw [hS6]; exact DS.new_get_self G5
  have n6 : S6.next = S5.next + 1 := by rw [hS6]; rfl
  clear hS6
  have hw6 : SlV S6 4 (.slice (some ⟨S5.next, 0, none⟩) 1 1) [[.int .i64 k, .int .i64 x.1.num, .bool x.1.done, .slice wb wn wc]] := .inr ⟨S5.next, 0, none, 1, rfl, by unfold DS.read; rw [g6]; simp only [List.length_cons, List.length_nil, List.flatten_cons, List.flatten_nil, List.append_nil]; rfl⟩
  have ok1 : Z0 4 [[.int .i64 k, .int .i64 x.1.num, .bool x.1.done, .slice wb wn wc]] := ⟨fun y hy => by rw [List.mem_singleton.1 hy]; rfl, fun y hy => by rw [List.mem_singleton.1 hy]; rfl⟩
  have hkl : (ZM M).length ≤ 64 := by rw [W3 hM, List.length_map]; exact Ja _
  have hrl : rows.length ≤ 64 := by rw [hrr.len, List.length_map, List.length_take]; omega
  have bkS : ∀ k, k ∈ blk lv → k < S.next := fun k hk => hsl.lt k hk
  have XS5 : Ext [b0 + 4] S S5 := Xb.trans X5b (by simp)
  have le5 := XS5.le
  have leb := X5b.le
  refine W.mono (Gq ((hsl.keep XS5 (fun k hk => by have := hlb k hk; simp; omega)).keep (Z6 []) (by simp)) hw6 hok ok1 ((Z6 []).good G5) (by simp; omega) (by simp; omega)) ?_
  rintro ⟨lv7, S7⟩ ⟨sk7, X7, b7, _⟩
  simp only at sk7 X7 b7
  have bl7 := X7.keep ((Z6 []).keep bl5 (by simp)) (fun h => by have := hlb _ h; omega)
  have by7 := X7.keep ((Z6 []).keep by5 (by simp)) (fun h => by have := hlb _ h; omega)
  have w7 : ∀ k, b0 ≤ k → S7.wr k = true := fun k hk => X7.wrs ((Z6 []).wrs (X5b.wrs (wb' k hk)))
  have le7 := X7.le
  obtain ⟨a7, c7, hlv7⟩ := sk7.shape
  have hcl7 : lv7.cells.toList = [lv7] := by rw [hlv7]; rfl
  have hal7 : zL [lv7] = true := by rw [hlv7]; rfl
  simp (maxSteps := 4000000) only [Zk, zf, zl, zo, ze, zU, zj, Zx, zi, zd, zE, zb, zc, Nat.reduceEqDiff, z0, z1, Nat.zero_add, Zd, List.length_cons, List.length_nil, Bool.and_true, Nat.beq_eq, Nat.ble_eq, Nat.le_refl, if_true, DS.wrC, Cells.size, Cells.fillFrom, Cells.set, Zb, t1, t3, bl7, w7 (b0 + 1) (Nat.le_succ _), hcl7, hal7]
  obtain ⟨S8, hS8⟩ : ∃ S8 : DS, S8 = S7.upd (b0 + 1) (.cells (.list [lv7]) false) := ⟨_, rfl⟩
  rw [← hS8]
  have X8 : Ext [b0 + 1] S7 S8 := by rw [hS8]; exact Ext.upd (.inl (by simp))
  have g8 : S8.get (b0 + 1) = some (.cells (.list [lv7]) false) := by rw [hS8, DS.upd_get_self, bl7]; rfl
  clear hS8
  have gy8 := X8.keep by7 (by simp)
  refine FH gy8 (X8.wrs (w7 _ (by omega))) ?_
  show Q (.bool true, S8.upd (b0 + 4) (.loop .ready .normal tt [14] Gb Jg))
  obtain ⟨S9, hS9⟩ : ∃ S9 : DS, S9 = S8.upd (b0 + 4) (.loop .ready .normal tt [14] Gb Jg) := ⟨_, rfl⟩
  rw [← hS9]
  have X9 : Ext [b0 + 4] S8 S9 := by rw [hS9]; exact Ext.upd (.inl (by simp))
  have g9 : S9.get (b0 + 4) = some (.loop .ready .normal tt [14] Gb Jg) := by rw [hS9, DS.upd_get_self, gy8]; rfl
  clear hS9
  have le8 := X8.le
  have le9 := X9.le
  have nT : S.next ≤ T2.next := by omega
  have hb4 : ∀ k, k < S6.next → k ∉ blk lv → k ∉ blk lv7 := fun k k1 k2 hk => by
   rcases b7 k hk with h | h
   · exact k2 h
   · omega
  have hb7 : ∀ k, k ∈ blk lv7 → U.next + 2 ≤ k := fun k hk => by
   rcases b7 k hk with h | h
   · exact hlb k h
   · omega
  refine hQ _ (.inl ⟨rfl, ⟨?_, g9, fun _ => ?_, fun _ => ?_, lv7, _, X9.keep g8 (by simp), ?_, hok.append ok1, ?_, hb7⟩⟩)
  · exact ((((X.trans' (XS5.weaken (by simp))).trans' (Z6 _)).trans X7 (fun k hk => .inr (by have := hlb k hk; omega))).trans' (X8.weaken (by simp))).trans' (X9.weaken (by simp))
  · exact X9.keep (X8.keep (X7.keep ((Z6 []).keep (XS5.keep hks (by simp; omega)) (by simp)) (fun h => by have := hlb _ h; omega)) (by simp; omega)) (by simp; omega)
  · show U.next + 2 ≤ S9.next
    omega
  · exact (sk7.keep X8 (fun k hk => by have := hb7 k hk; simp; omega)).keep X9 (fun k hk => by have := hb7 k hk; simp; omega)
  · have h3 := hrr.step (s' := S6) (lv' := lv) W4 (fun k k1 k2 _ => ((Z6 []).get k (by omega) (by simp)).trans (XS5.get k k2 (by simp; omega))) (by omega) (fun k _ h => h)
    have h4 := h3.step (s' := S7) (lv' := lv7) W4 (fun k k1 k2 k3 => X7.get k k2 k3) le7 hb4
    have hfl : ([.int .i64 k, .int .i64 x.1.num, .bool x.1.done, .slice wb wn wc] : List Value).flatMap blk = blk (.slice wb wn wc) := by simp [blk]
    have h5 := h4.snoc (row := [.int .i64 k, .int .i64 x.1.num, .bool x.1.done, .slice wb wn wc]) (x := JT x.1) ⟨wb, wn, wc, by rw [← hxk]; rfl, hw5.of fun k hk => (X7.get k (by have := hb5 k hk; omega) (fun h => by have := hb5 k hk; have := bkS k h; omega)).trans ((Z6 []).get k (hb5 k hk).2 (by simp))⟩ (by
     rw [hfl]
     intro k hk
     have h1 := hb5 k hk
     exact ⟨hb4 k (by omega) (fun h => by have := bkS k h; omega), by omega, by omega⟩)
    have hl : (((ZM M).take (i + 1)).map (QX (Go.Dx.Tab.rowOf M))) = ((ZM M).take i).map (QX (Go.Dx.Tab.rowOf M)) ++ [JT x.1] := by
     rw [List.take_add_one, hx, List.map_append]
     simp only [Option.toList, z4, z5, QX, hk2]
    rw [hl]
    exact h5.step (s' := S9) (lv' := lv7) W4 (fun k k1 k2 _ => (X9.get k (by omega) (by simp; omega)).trans (X8.get k k2 (by simp; omega))) (by omega) (fun k _ h => h)
theorem Dk (hM : XJ M clock) (c : TabAt s t m M clock) (hG : s.Good) :
 W (dcall E (d + 12) (.func (.func 9) #[] #[]) [.pointer (some ⟨t, 0, none⟩)] s) fun r => SlV r.2 1 r.1 (Zy (Qc (Go.Dx.Tab.rowOf M))) ∧ (∃ a, r.1 = .slice a (Qc (Go.Dx.Tab.rowOf M)).length (Qc (Go.Dx.Tab.rowOf M)).length ∧ ∀ z, a = some z → z.spot = none) ∧ (∀ k, k ∈ blk r.1 → s.next ≤ k ∧ k < r.2.next) ∧ Ext [] s r.2 := by
 have hlf := hC.lf
 have gp := c.go
 have gm := c.gm
 have hpl := DS.get_lt' gp
 have hml := DS.get_lt' gm
 refine Zh fun Q hQ => ?_
 rw [zP hP.ipack hP.fpack rfl]
 obtain ⟨S1, hS1⟩ : ∃ S1 : DS, S1 = s.new (.cells (.list [.pointer (some ⟨t, 0, none⟩)]) false) := ⟨_, rfl⟩
 have X1 : Ext [] s S1 := by rw [hS1]; exact Ext.new
 have g1 : S1.get s.next = some (.cells (.list [.pointer (some ⟨t, 0, none⟩)]) false) := by rw [hS1]; exact DS.new_get_self hG
 have n1 : S1.next = s.next + 1 := by rw [hS1]; rfl
 have hG1 := X1.good hG
 have hm1 := KW hT (X1.keep gp (by simp)) (d := d + 10)
 simp (maxSteps := 4000000) only [zq, zg, zD, zO, za, zf, zl, zo, zt, ze, zr, zj, zK, YU, z9, zW, ZA, zB, zp, zi, zm, zA, zd, zb, zc, Nat.reduceEqDiff, z0, zh, List.getElem?_cons_zero, z1, z4, z5, zG, Cells.get, getN, VD, Bool.not_true, pp, pv, d9, ← hS1, g1, hm1]
 obtain ⟨S2, hS2⟩ : ∃ S2 : DS, S2 = S1.new (.cells (.list [.slice none 0 0]) false) := ⟨_, rfl⟩
 rw [← hS2]
 have X2 : Ext [] S1 S2 := by rw [hS2]; exact Ext.new
 have g2 : S2.get S1.next = some (.cells (.list [.slice none 0 0]) false) := by rw [hS2]; exact DS.new_get_self hG1
 have n2 : S2.next = s.next + 2 := by rw [hS2]; show S1.next + 1 = _; omega
 have g12 := X2.keep g1 (by simp)
 have hG2 := X2.good hG1
 rw [n1] at g2 ⊢
 clear hS2
 have hcl := FI hT hP (d := d + 10) (t := t) hG2
 simp (maxSteps := 4000000) only [Zp, za, zf, zl, zo, ze, zr, zj, zB, zi, zA, zd, zb, z1, z4, z5, getN, g12, hcl]
 refine Hr (by simp (maxSteps := 4000000) only [zi, zb, z1]; rfl) ?_
 generalize hO : Ff _ _ _ _ = O
 obtain ⟨tt, hO2, tt1, tt3⟩ : ∃ tt, O = Ff tt [14] Gb Jg ∧ tt.get 1 = some (.pointer (some ⟨s.next, 0, none⟩)) ∧ tt.get 3 = some (.pointer (some ⟨s.next + 1, 0, none⟩)) := ⟨_, hO.symm, by simp (maxSteps := 4000000) only [zb, zc, Nat.reduceEqDiff, z0], by simp (maxSteps := 4000000) only [zb, zc, Nat.reduceEqDiff, z0]⟩
 obtain ⟨S3, hS3⟩ : ∃ S3 : DS, S3 = S2.new (.cells (.list [.pointer (some ⟨t, 0, none⟩)]) false) := ⟨_, rfl⟩
 rw [← hS3]
 have X3 : Ext [] S2 S3 := by rw [hS3]; exact Ext.new
 have g3 : S3.get S2.next = some (.cells (.list [.pointer (some ⟨t, 0, none⟩)]) false) := by rw [hS3]; exact DS.new_get_self hG2
 have n3 : S3.next = s.next + 3 := by rw [hS3]; show S2.next + 1 = _; omega
 have hG3 := X3.good hG2
 clear hS3
 rw [n2] at g3 ⊢
 obtain ⟨U, hU⟩ : ∃ U : DS, U = (S3.new .dfr).new O := ⟨_, rfl⟩
 rw [← hU]
 have XU : Ext [] S3 U := by rw [hU]; exact Ext.new.trans' Ext.new
 have gy : U.get (s.next + 4) = some O := by rw [hU]; simp (maxSteps := 4000000) (maxDischargeDepth := 8) only [Nat.reduceAdd, zQ, zk, zC, Nat.add_assoc, hG3, n3]
 have gd : U.get (s.next + 3) = some .dfr := by rw [hU]; simp (maxSteps := 4000000) (maxDischargeDepth := 8) only [Nat.reduceAdd, zQ, zk, zw, zC, Nat.add_assoc, Nat.lt_add_one, hG3, n3]
 have nU : U.next = s.next + 5 := by rw [hU]; simp (maxSteps := 4000000) (maxDischargeDepth := 8) only [Nat.reduceAdd, zQ, Nat.add_assoc, n3]
 clear hU
 have X03 : Ext [] s S3 := X1.trans' (X2.trans' X3)
 have X0U : Ext [] s U := X03.trans' XU
 have hGU := X0U.good hG
 have wU : ∀ k, s.next ≤ k → U.wr k = true := fun k hk => X0U.wrs (hG k hk).2
 have gpU := X0U.keep gp (by simp)
 have gmU := X0U.keep gm (by simp)
 have g1U := (X3.trans' XU).keep g12 (by simp)
 have g3U := XU.keep g3 (by simp)
 have g2U := (X3.trans' XU).keep g2 (by simp)
 rw [n3]
 refine W.mono (RL hT hP (d := d + 9) (J := PkJ U s.next tt (Go.Dx.Tab.rowOf M) (ZM M)) (Stop := fun _ => False) hM (by omega) hGU g3U gpU gmU (fun i S hj => hj.kat) (fun i k S hx hj => ?_) (fun S X hGS hks hbig => ?_)) ?_
 · exact Ld hC hT hE hF hW hP hM hGU (hj.X.good hGU) nU wU (by omega) (by omega) g1U gpU gmU tt1 tt3 hx hj
 · exact ⟨X.weaken (by simp), by rw [X.keep gy (by simp), hO2]; rfl, hks, hbig, _, [], X.keep g2U (by simp), SlC.nil, Z0.nil, VF.nil, by simp [blk]⟩
 rintro ⟨v4, s4⟩ (hj | hf)
 case inr => exact absurd hf id
 obtain ⟨X4, gy4, _, _, lv, rows, gl4, hsl, hok, hrr, hlb⟩ := hj
 simp only at X4 gy4 gl4 hsl hrr
 have gd4 := X4.keep gd (by simp)
 have w4 : ∀ k, s.next ≤ k → s4.wr k = true := fun k hk => X4.wrs (wU k hk)
 refine Tz (gy4.trans rfl) (.inl rfl) (w4 _ (by omega)) ?_
 generalize hOE : DObj.loop .exhausted .normal _ _ _ _ = OE
 have X5 : Ext [s.next + 3 + 1] s4 (s4.upd (s.next + 3 + 1) OE) := Ext.upd (.inl (by simp))
 obtain ⟨S5, hS5⟩ : ∃ S5 : DS, S5 = s4.upd (s.next + 3 + 1) OE := ⟨_, rfl⟩
 rw [← hS5] at X5 ⊢
 clear hS5
 have g5 := X5.keep gl4 (by simp)
 have gd5 := X5.keep gd4 (by simp)
 have X05 : Ext [] s S5 := (X0U.trans X4 (by simp)).trans X5 (by simp; omega)
 have hG5 := X05.good hG
 have n5 : s.next + 5 ≤ S5.next := by have := X5.le; have := X4.le; omega
 simp (maxSteps := 4000000) only [zq, zg, za, Zk, Yp, WL, Zn, zr, zj, z9, zB, zi, zA, zd, zb, zc, Nat.reduceEqDiff, z0, z1, z5, zG, Cells.get, getN, List.nil_append, foot, g5]
 have hlb5 : ∀ k, k ∈ blk lv → k ∉ [s.next + 3 + 1] := fun k hk => by have := hlb k hk; simp; omega
 have hsl5 := hsl.keep X5 hlb5
 have hrr5 := hrr.step (s' := S5) (lv' := lv) W4 (fun k k1 k2 _ => X5.get k k2 (by simp; omega)) X5.le (fun k _ h => h)
 have hln : ((ZM M).take (ZM M).length).map (QX (Go.Dx.Tab.rowOf M)) = QY (Go.Dx.Tab.rowOf M) := by
  rw [List.take_length, W3 hM, List.map_map]
  rfl
 rw [hln] at hrr5
 refine W.masked (hE.fr _) (P8 hC hT hE hF hW (d := d + 8) (YL hG5 fun k hk => ?_)) ?_
 · exact ⟨by (simp only [hidden, shielded, noteAt, ZD, Bool.or_false, Bool.or_eq_false_iff, Bool.and_eq_false_iff, ZW, Yb, ZZ, true_and, and_true, true_or, or_true] <;> omega), by (simp only [hidden, shielded, noteAt, ZD, Bool.or_false, Bool.or_eq_false_iff, Bool.and_eq_false_iff, ZW, Yb, ZZ, true_and, and_true, true_or, or_true] <;> omega)⟩
 rintro v6 s6 ⟨q6, X6⟩ df
 simp only at q6 X6
 have hhid : ∀ k, hidden [⟨[s.next + 1], S5.next, S5.next⟩] [0] k = false ∨ k = s.next + 1 := fun k => by
  by_cases h : k = s.next + 1
  · exact .inr h
  · exact .inl (by (simp only [hidden, shielded, noteAt, ZD, Bool.or_false, Bool.or_eq_false_iff, Bool.and_eq_false_iff, ZW, Yb, ZZ, true_and, and_true, true_or, or_true] <;> omega))
 have hsame : ∀ k, k ≠ s.next + 1 → (Ys S5 s6).get k = s6.get k := fun k hk => XV ((hhid k).resolve_right hk) X6
 have X6' := Ext.unmask' X6 df
 obtain ⟨S6, hS6⟩ : ∃ S6 : DS, S6 = Ys S5 s6 := ⟨_, rfl⟩
 have n6 : s6.next = S6.next := by rw [hS6]; rfl
 have q6' : ∃ m, ZG E 7 m S6 v6 (CI 4 Dp) (fun xs => xs.length ≤ 4096 ∧ ∀ x, x ∈ xs → N1 x) KJ := by
  obtain ⟨f, a, b, g, a', b', D, e1, e2, e3, e4⟩ := q6
  exact ⟨S5.next, f, a, b, g, a', b', D, e1, fun p hp => by rw [hS6]; exact (hsame _ (by have : S5.next ≤ p.1 := (e3 p hp).1; omega)).trans (e2 p hp), fun p hp => by rw [← n6]; exact e3 p hp, e4⟩
 rw [← hS6] at X6'
 have hG6 := X6'.good hG5
 have le6 := X6'.le
 have hsl6 := hsl5.keep X6' (by simp)
 have hrr6 := hrr5.step (s' := S6) (lv' := lv) W4 (fun k k1 k2 _ => X6'.get k k2 (by simp)) X6'.le (fun k _ h => h)
 have hlvl := hsl6.lt
 simp (maxSteps := 4000000) only [Yp, Yd, zB, zi, zA, zd, zb, zc, Nat.reduceEqDiff, z0, z1, z4, z5, List.nil_append, List.cons_append, foot, ← hS6, n6]
 have hrep : CI 4 Dp S6.next S6 lv (QY (Go.Dx.Tab.rowOf M)) := by
  refine ⟨rows, hrr6.len, hok, ?_, fun i r x h1 h2 => ?_⟩
  · rcases hsl6.view hok with h | ⟨b, off, sp, c, h1, h2⟩
    · exact .inl h
    · exact .inr ⟨b, off, sp, c, h1, hlvl b (by rw [h1]; simp [blk]), h2⟩
  · obtain ⟨⟨wb, wn, wc, h3, h4⟩, h5⟩ := hrr6.at_ i r x h1 h2
    injection h3 with h3
    injection h3 with h3
    subst h3
    exact ⟨.agg ⟨[.int .i64 x.1.1, .int .i64 x.1.2]⟩, .agg ⟨[.bool x.2.1, .slice wb wn wc]⟩, rfl, ⟨.int .i64 x.1.1, .int .i64 x.1.2, rfl, rfl, rfl⟩, ⟨.bool x.2.1, .slice wb wn wc, rfl, rfl, h4, fun k hk => (h5 k (by simp [blk] at hk ⊢; exact hk)).2.2⟩⟩
 have hokL : (QY (Go.Dx.Tab.rowOf M)).length ≤ 4096 ∧ ∀ x, x ∈ QY (Go.Dx.Tab.rowOf M) → N1 x := by
  refine ⟨Nat.le_trans (C4 _) (by omega), fun x hx => ?_⟩
  obtain ⟨i, hi, rfl⟩ := List.mem_map.1 hx
  have hl := Fg (Go.Dx.Tab.rowOf M) (i : Int)
  obtain ⟨y, hy⟩ := Option.isSome_iff_exists.1 (List.mem_filter.1 hi).2
  obtain ⟨b, hb⟩ := Ql hy
  have hw := (hM.row _ hb).who
  have he : QX (Go.Dx.Tab.rowOf M) (i : Int) = JT y := by unfold QX; rw [hy]
  refine ⟨⟨.inr ?_, .inl rfl⟩, trivial, by omega⟩
  rw [he]
  exact ⟨hw.1, by have hw2 : y.key ≤ 63 := hw.2.1; show y.key ≤ 255; omega⟩
 refine W.mono (M0 hC (d := d + 2) hE hW hG6 q6' hrep hokL (Nat.le_trans (Px _) (by omega))) ?_
 rintro ⟨v7, s7⟩ ⟨w, hv7, hw1, hw2, hw3, X7⟩
 simp only at hv7 hw1 hw3 X7
 subst hv7
 have gd7 := X7.keep (X6'.keep gd5 (by simp)) (by simp)
 have w7 := X7.wrs (X6'.wrs (X5.wrs (w4 (s.next + 3) (by omega))))
 simp (maxSteps := 4000000) only [zq, zg, zI, za, zf, zl, zo, Yp, ze, Zn, zr, zj, zK, YJ, zp, zi, zd, zb, zc, Nat.reduceEqDiff, z0, z1, getN, List.nil_append, List.cons_append, foot]
 rw [DR gd7 w7]
 have hX : Ext [] s (s7.rid (s.next + 3)) := ((X05.trans' X6').trans' X7).trans (Ext.rid (F := [s.next + 3]) (.inl (by simp))) (by simp)
 simp (maxSteps := 4000000) only [zj, zb, z1, zn, zy]
 refine hQ _ ⟨hw1.of fun k hk => ?_, hw2, fun k hk => ?_, hX⟩
 · have := (hw3 k hk).1
   exact DS.rid_get_ne (by omega)
 · have := hw3 k hk
   rw [DS.rid_next]
   omega
end
end Go.Dx.TbA
