/- A part. -/
import Derived.Test.YthmgnfeljhdioaaGreatP1Wr
set_option linter.unusedVariables false
set_option linter.unusedSimpArgs false
set_option linter.unusedSectionVars false
set_option maxRecDepth 100000
set_option maxHeartbeats 4000000
namespace Go.Dx.TbA
open Go Go.Dx Go.Dx.Tab Go.Proofs.YthmgnfeljhdioaaGreat
def CG : Nat → DS → Value → List Int × Int → Prop := XB VI Jq
def CK : Nat → DS → Value → List Int × (List Int × Int) → Prop := XB DH CG
def T9 : Nat → DS → Value → Z4 → Prop := XB CI CK
theorem VF : Z2 CG := QY Jp XU
theorem VK : Z2 CK := QY K1 VF
theorem T8 : Z2 T9 := QY VJ VK
theorem VE : ∀ (o : Nat) (s : DS) (v : Value) (x : List Int × Int), CG o s v x → ∃ b n c q, v = .agg ⟨[.slice b n c, .int .i64 q]⟩ := fun o s v x ⟨a, b, e, h1, h2⟩ => by
 have h2 : b = _ := h2
 obtain ⟨b', n', c', rfl⟩ := VG _ _ _ _ h1
 subst h2
 exact ⟨_, _, _, _, e⟩
theorem CJ : ∀ (o : Nat) (s : DS) (v : Value) (x : List Int × (List Int × Int)), CK o s v x → ∃ b n c b2 n2 c2 q, v = .agg ⟨[.slice b n c, .slice b2 n2 c2, .int .i64 q]⟩ := fun o s v x ⟨a, b, e, h1, h2⟩ => by
 obtain ⟨b', n', c', rfl⟩ := FD _ _ _ _ h1
 obtain ⟨b2, n2, c2, q, rfl⟩ := VE _ _ _ _ h2
 exact ⟨_, _, _, _, _, _, _, e⟩
def okQ (x : Z4) : Prop := (WR 1 255 x.1.1 ∧ WR 8 0 x.1.2) ∧ (x.2.1.length ≤ 65536 ∧ ((x.2.2.1.length ≤ 4096 ∧ ∀ a, a ∈ x.2.2.1 → WR 8 0 a) ∧ WR 8 0 x.2.2.2))
def YJ (x : Z4) : List Int := (leB x.1.1 1 ++ leB x.1.2 8) ++ (DV x.2.1 ++ ((leB x.2.2.1.length 2 ++ WE (fun a => leB a 8) x.2.2.1) ++ leB x.2.2.2 8))
theorem Ro : ∀ l : List Int, (WE (fun a => leB a 8) l).length = l.length * 8
 | [] => rfl
 | a :: l => by
  have := Ro l
  unfold WE at this ⊢
  rw [List.flatMap_cons, List.length_append, zX, this, List.length_cons]
  omega
theorem Tc {x : Z4} (h : WG x) : (YJ x).length ≤ 20000 := by
 obtain ⟨_, h1, h2, _⟩ := h
 unfold YJ DV
 simp only [List.length_append, zX, Ro]
 omega
theorem WG.ok {x : Z4} (h : WG x) : okQ x := by
 obtain ⟨⟨h1, h2, h3, h4⟩, h5, h6, h7, h8⟩ := h
 exact ⟨⟨.inr ⟨h1, by omega⟩, .inl rfl⟩, by omega, ⟨by omega, fun _ _ => .inl rfl⟩, .inl rfl⟩
section
variable {E : Env} (hC : Fu E) (hE : Pg E) (hQf : SQ E) (hW : Rr E) {s : DS} {d : Nat}
include hC hE hQf hW
theorem DI (hG : s.Good) : W (dcall E (d + 3) (.func (.func 26) #[] #[]) [] s) fun r => zA E 7 s.next r.2 r.1 T9 okQ YJ ∧ Ext [] s r.2 := by
 refine Zz fun Q hQ => ?_
 rw [zC hQf.iqform hQf.fqform rfl]
 simp (maxDischargeDepth := 8) only [sA, pp, d26, hG]
 have h0 : ∀ o, (s.new o).get s.next = some o := fun o => DS.new_get_self hG
 have w0 : (s.new (.cells (.list [.nilFunc, .nilFunc]) false)).wr s.next = true := (hG _ (Nat.le_refl _)).2
 have l0 : s.next + 1 ≤ (s.new (.cells (.list [.nilFunc, .nilFunc]) false)).next := Nat.le_refl _
 have hG0 := DS.new_good (o := .cells (.list [.nilFunc, .nilFunc]) false) hG
 refine W.mono (VS hC (m := s.next + 1) hG0 l0 hE.fbyte hE.ibyte) ?_
 rintro ⟨v1, s1⟩ ⟨q1, X1⟩
 simp only at q1 X1
 have hG1 := X1.good hG0
 have l1 := Nat.le_trans l0 X1.le
 simp only [sA]
 refine W.mono (XE hC (m := s.next + 1) hG1 l1 hE.fint hE.iint) ?_
 rintro ⟨v2, s2⟩ ⟨q2, X2⟩
 simp only at q2 X2
 have hG2 := X2.good hG1
 have l2 := Nat.le_trans l1 X2.le
 simp only [sA, Nat.reduceEqDiff]
 refine W.mono (Vk hC l2 hG2 (q1.keep X2) q2 hE.fII hE.iII fun ha hb => Fl hC ha hb XU XU (fun _ _ _ x h => ⟨x, h⟩) (fun _ _ _ x h => ⟨x, h⟩) hE.fII1 hE.iII1) ?_
 rintro ⟨v3, s3⟩ ⟨q3, X3⟩
 simp only at q3 X3
 have hG3 := X3.good hG2
 have l3 := Nat.le_trans l2 X3.le
 simp only [sA]
 refine W.mono (Fo hC hG3 l3 hQf.fblob hQf.iblob hW.fblob1 hW.iblob1) ?_
 rintro ⟨v4, s4⟩ ⟨q4, X4⟩
 simp only at q4 X4
 have hG4 := X4.good hG3
 have l4 := Nat.le_trans l3 X4.le
 simp only [sA]
 refine W.mono (XE hC (m := s.next + 1) hG4 l4 hE.fint hE.iint) ?_
 rintro ⟨v5, s5⟩ ⟨q5, X5⟩
 simp only at q5 X5
 have hG5 := X5.good hG4
 have l5 := Nat.le_trans l4 X5.le
 simp only [sA]
 refine W.mono (K8 hC l5 hG5 q5 (Nat.le_refl _) hQf.fmanyI hQf.imanyI hW.fmanyI1 hW.imanyI1) ?_
 rintro ⟨v6, s6⟩ ⟨q6, X6⟩
 simp only at q6 X6
 have hG6 := X6.good hG5
 have l6 := Nat.le_trans l5 X6.le
 simp only [sA]
 refine W.mono (XE hC (m := s.next + 1) hG6 l6 hE.fint hE.iint) ?_
 rintro ⟨v7, s7⟩ ⟨q7, X7⟩
 simp only at q7 X7
 have hG7 := X7.good hG6
 have l7 := Nat.le_trans l6 X7.le
 simp only [sA, Nat.reduceEqDiff]
 refine W.mono (Vi hC l7 hG7 (q6.keep X7) (q7.mono (show 3 ≤ 4 by omega)) hQf.fbLI hQf.ibLI fun ha hb => Fj hC ha hb Jp XU VG (fun _ _ _ x h => ⟨x, h⟩) hW.fbLI1 hW.ibLI1) ?_
 rintro ⟨v8, s8⟩ ⟨q8, X8⟩
 simp only at q8 X8
 have hG8 := X8.good hG7
 have l8 := Nat.le_trans l7 X8.le
 simp only [sA, Nat.reduceEqDiff]
 refine W.mono (Vj hC l8 hG8 ((q4.keep (X5.trans' (X6.trans' (X7.trans' X8)))).mono (show 4 ≤ 5 by omega)) q8 hQf.fbBP hQf.ibBP fun ha hb => Fk hC ha hb K1 VF FD VE hW.fbBP1 hW.ibBP1) ?_
 rintro ⟨v9, s9⟩ ⟨q9, X9⟩
 simp only at q9 X9
 have hG9 := X9.good hG8
 have l9 := Nat.le_trans l8 X9.le
 simp only [sA, Nat.reduceEqDiff]
 have X39 := X4.trans' (X5.trans' (X6.trans' (X7.trans' (X8.trans' X9))))
 refine W.mono (Vl hC l9 hG9 ((q3.keep X39).mono (show 4 ≤ 6 by omega)) q9 hQf.fbQ hQf.ibQ fun ha hb => Fm hC ha hb VJ VK CH CJ hW.fbQ1 hW.ibQ1) ?_
 rintro ⟨vb, sb⟩ ⟨qb, Xb⟩
 simp only at qb Xb
 have X0b := (X1.trans' (X2.trans' X3)).trans' (X39.trans' Xb)
 have g6 := X0b.keep (h0 _) (by simp)
 have w6 := X0b.wrs w0
 obtain ⟨f, a, b, g, a', b', D, rfl, k2, k3, k4⟩ := qb
 simp (maxDischargeDepth := 8) only [sA, sM, zi, ze, zh, Cells.get, getN, Nat.reduceAdd, zm, zB, DS.wrC, Cells.size, Cells.fillFrom, Cells.set, Zq, DS.read, Cells.take, g6, w6]
 have XF : ∀ o, Ext [] s (sb.upd s.next o) := fun o => (Ext.new.trans' X0b).trans (Ext.upd (F := [s.next]) (.inl (by simp))) (by simp)
 refine hQ _ ⟨⟨f, a, b, g, a', b', D, rfl, fun p hp => ?_, fun p hp => ?_, k4⟩, XF _⟩
 · have := (k3 p hp).1
   simp (maxDischargeDepth := 8) only [sA, k2 p hp, show ¬ p.1 = s.next by omega]
 · have := k3 p hp
   simp (maxDischargeDepth := 8) only [DS.upd_next]
   omega
theorem Wx (hT : D7 E) {n : Nat} {cs : List Value} {x : Z4} (hG : s.Good) (hr : Ym n s cs x) :
 W (dcall E (d + 10) (.func (.func 7) #[] #[]) [.agg ⟨cs⟩] s) fun p => Ext [] s p.2 ∧ ((¬ WG x ∧ p.1 = .tuple ⟨[.slice none 0 0, .int .i64 1]⟩) ∨
  (WG x ∧ ∃ w, p.1 = .tuple ⟨[w, .int .i64 0]⟩ ∧ SlV p.2 1 w (zH (YJ x)) ∧ (∃ a, w = .slice a (YJ x).length (YJ x).length ∧ ∀ z, a = some z → z.spot = none) ∧ ∀ k, k ∈ blk w → s.next ≤ k ∧ k < p.2.next)) := by
 obtain ⟨b1, c1, b2, c2, rfl, m1, a1⟩ := hr
 refine Zz fun Q hQ => ?_
 rw [zC hW.iqEncode hW.fqEncode rfl]
 simp (maxDischargeDepth := 8) only [sA, sM, Cells.get, getN, pp, ldA, DS.read, Cells.take, Nat.reduceLT, d7, hG]
 obtain ⟨S0, hS0⟩ : ∃ S0 : DS, S0 = s.new (.cells (.list [.int .i64 x.1.1, .int .i64 x.1.2, .slice b1 x.2.1.length c1, .slice b2 x.2.2.1.length c2, .int .i64 x.2.2.2]) false) := ⟨_, rfl⟩
 rw [← hS0]
 have X0 : Ext [] s S0 := by rw [hS0]; exact Ext.new
 have hG0 := X0.good hG
 have g0 : S0.get s.next = some (.cells (.list [.int .i64 x.1.1, .int .i64 x.1.2, .slice b1 x.2.1.length c1, .slice b2 x.2.2.1.length c2, .int .i64 x.2.2.2]) false) := by rw [hS0]; simp (maxDischargeDepth := 8) only [YF, hG]
 clear hS0
 refine W.mono (Se hT (d := d + 6) hG0 x b1 b2 c1 c2) ?_
 rintro ⟨v1, s1⟩ ⟨h1, X1⟩
 simp only at h1 X1
 subst h1
 have X01 := X0.trans' X1
 have hG1 := X01.good hG
 have g1 := X1.keep g0 (by simp)
 have hl1 : s.next < s1.next := DS.get_lt' g1
 by_cases hmay : WG x
 · rw [decide_eq_true hmay]
   have hb1 : Nat.ble (s1.next + 1) s1.next = false := by rw [J2]; omega
   have hb2 : Nat.beq s.next s1.next = false := by rw [Fp]; omega
   have hb3 : Nat.ble (s1.next + 1) s.next = false := by rw [J2]; omega
   simp (maxDischargeDepth := 8) only [sA, sM, zc, Cells.get, getN, Nat.reduceAdd, zm, zB, Nat.reduceLeDiff, DS.wrC, Cells.size, Cells.fillFrom, Cells.set, Zq, zq, ldA, foot, hidden, noteAt, DS.read, Cells.take, Nat.reduceLT, hG1, g1, hl1, CR, Vx, shielded, Yk, hb1, hb2, hb3]
   obtain ⟨S3, hS3⟩ : ∃ S3 : DS, S3 = (((((s1.new (.cells (.list [.int .i64 0, .int .i64 0, .slice none 0 0, .slice none 0 0, .int .i64 0]) false)).upd s1.next (.cells (.list [.int .i64 x.1.1, .int .i64 x.1.2, .slice none 0 0, .slice none 0 0, .int .i64 0]) false)).upd s1.next (.cells (.list [.int .i64 x.1.1, .int .i64 x.1.2, .slice b1 x.2.1.length c1, .slice none 0 0, .int .i64 0]) false)).upd s1.next (.cells (.list [.int .i64 x.1.1, .int .i64 x.1.2, .slice b1 x.2.1.length c1, .slice b2 x.2.2.1.length c2, .int .i64 0]) false)).upd s1.next (.cells (.list [.int .i64 x.1.1, .int .i64 x.1.2, .slice b1 x.2.1.length c1, .slice b2 x.2.2.1.length c2, .int .i64 x.2.2.2]) false)) := ⟨_, rfl⟩
   rw [← hS3]
   have X3 : Ext [] s1 S3 := by
    rw [hS3]
    have y : ∀ (S : DS) o, Ext [s1.next] S (S.upd s1.next o) := fun S o => Ext.upd (.inl (by simp))
    exact (Ext.new (F := [])).trans ((y _ _).trans' ((y _ _).trans' ((y _ _).trans' (y _ _)))) (by simp)
   have hG3 := X3.good hG1
   have n3 : S3.next = s1.next + 1 := by rw [hS3]; simp (maxDischargeDepth := 8) only [sA]
   clear hS3
   have hhid : ∀ k, hidden [⟨[s1.next], s1.next + 1, s1.next + 1⟩] [0] k = false := fun k => by (simp only [hidden, shielded, noteAt, Yk, Bool.or_false, Bool.or_eq_false_iff, Bool.and_eq_false_iff, J2, D0, Fp, true_and, and_true, true_or, or_true] <;> omega)
   refine W.masked (hE.fr _) (DI hC hE hQf hW (d := d + 6) (Kq hG3 fun k hk => ⟨hhid k, ?_⟩)) ?_
   · have : ¬ k = s1.next := by omega
     (simp only [hidden, shielded, noteAt, Yk, Bool.or_false, Bool.or_eq_false_iff, Bool.and_eq_false_iff, J2, D0, Fp, true_and, and_true, true_or, or_true] <;> omega)
   rintro v4 s4 ⟨h4, X4⟩ df
   simp only at h4 X4
   have X4' := Ext.unmask' X4 df
   obtain ⟨S4, hS4⟩ : ∃ S4 : DS, S4 = Z5 S3 s4 := ⟨_, rfl⟩
   have n4 : s4.next = S4.next := by rw [hS4]; rfl
   have h4' : zA E 7 S3.next S4 v4 T9 okQ YJ := by
    rw [hS4]
    obtain ⟨f, a, b, g, a', b', D, e1, e2, e3, e4⟩ := h4
    exact ⟨f, a, b, g, a', b', D, e1, fun p hp => (Vy hhid X4).trans (e2 p hp), fun p hp => e3 p hp, e4⟩
   rw [← hS4] at X4'
   have hG4 := X4'.good hG3
   simp only [sA, Nat.reduceEqDiff, foot, ← hS4, n4]
   have X04 := X01.trans' (X3.trans' X4')
   have hm4 := m1.1.keep X04 (by simp)
   have ha4 := a1.1.keep X04 (by simp)
   have hmv := hm4.view
   rw [← XN] at hmv
   have hrep : T9 S4.next S4 (.agg ⟨[.int .i64 x.1.1, .int .i64 x.1.2, .slice b1 x.2.1.length c1, .slice b2 x.2.2.1.length c2, .int .i64 x.2.2.2]⟩) x :=
    ⟨.agg ⟨[.int .i64 x.1.1, .int .i64 x.1.2]⟩, .agg ⟨[.slice b1 x.2.1.length c1, .slice b2 x.2.2.1.length c2, .int .i64 x.2.2.2]⟩, rfl, ⟨.int .i64 x.1.1, .int .i64 x.1.2, rfl, rfl, rfl⟩,
     ⟨.slice b1 x.2.1.length c1, .agg ⟨[.slice b2 x.2.2.1.length c2, .int .i64 x.2.2.2]⟩, rfl, ⟨hmv, hm4.lt⟩, ⟨.slice b2 x.2.2.1.length c2, .int .i64 x.2.2.2, rfl, ⟨ha4, ha4.lt⟩, rfl⟩⟩⟩
   have hlen := Tc hmay
   refine W.mono (Gk hC (d := d) hG4 h4' hrep T8 hmay.ok (by omega) rfl hW.fqEncA hW.iqEncA hE.fclip hE.iclip) ?_
   rintro ⟨v5, s5⟩ ⟨w, h5, h6, h7, h8, X5⟩
   simp only at h5 h6 h8 X5
   subst h5
   simp only [sA, zc, Nat.reduceEqDiff, ze, zh, getN, foot]
   have le4 := X04.le
   exact hQ _ ⟨X04.trans' X5, .inr ⟨hmay, w, rfl, h6, h7, fun k hk => ⟨by have := (h8 k hk).1; omega, (h8 k hk).2⟩⟩⟩
 · rw [decide_eq_false hmay]
   simp only [sA, zc, Nat.reduceEqDiff, ze, zh]
   exact hQ _ ⟨X01, .inl ⟨hmay, rfl⟩⟩
end
end Go.Dx.TbA
