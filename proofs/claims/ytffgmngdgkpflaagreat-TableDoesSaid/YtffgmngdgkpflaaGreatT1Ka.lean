/- A part. -/
import Derived.Test.YtffgmngdgkpflaaGreatT1Ga
import Derived.Test.YtffgmngdgkpflaaGreatDxF
import Derived.Test.YtffgmngdgkpflaaGreatT1Ia
set_option linter.unusedVariables false
set_option linter.unusedSimpArgs false
set_option linter.unusedSectionVars false
set_option maxRecDepth 100000
set_option maxHeartbeats 4000000
namespace Go.Dx.TbA
open Go Go.Dx Go.Dx.Tab Go.Proofs.YtffgmngdgkpflaaGreat
structure TV (E : Env) : Prop where
 fMay : E.fn 38 = some d38
 iMay : E.intr 38 = none
 fmay : E.fn 31 = some d31
 imay : E.intr 31 = none
 fr : ∀ d, zG (dcall E d)
 lf : 10000 ≤ E.lf
end Go.Dx.TbA
namespace Go.Dx.TbA
open Go Go.Dx Go.Dx.Tab Go.Proofs.YtffgmngdgkpflaaGreat
section
variable {E : Env} {s : DS} {d : Nat}
theorem Fm (hf : E.fn 38 = some d38) (hi : E.intr 38 = none) (hG : s.Good) (r : Rp) : W (dcall E (d + 1) (.func (.func 38) #[] #[]) [.agg ⟨r.cells⟩] s) fun x => x.1 = .bool (decide (ZR r)) ∧ Ext [] s x.2 := by
 refine zr fun Q hQ => ?_
 rw [zh hi hf rfl]
 cases hrej : r.rej with
 | false =>
  have hnr : ¬ (r.rej = true ∧ (r.trap ≠ 0 ∨ r.v ≠ 0 ∨ r.gas ≠ 0)) := fun h => by rw [hrej] at h; cases h.1
  by_cases c1 : 0 ≤ r.c
  · skip
    by_cases c2 : r.c ≤ 63
    · skip
      by_cases c3 : 1 ≤ r.n
      · skip
        by_cases c4 : r.n ≤ 1099511627776
        · skip
          by_cases c5 : 0 ≤ r.trap
          · skip
            by_cases c6 : r.trap ≤ 6
            · skip
              by_cases c7 : 0 ≤ r.gas
              · skip
                by_cases c8 : r.gas ≤ 1048576
                · skip
                  have hyes : ZR r := ⟨hnr, ⟨c1, c2, c3, c4⟩, c5, c6, c7, c8⟩
                  rw [decide_eq_true hyes] at hQ
                  simp (maxDischargeDepth := 8) only [sA, sM, zb, zl, zm, za, zd, Cells.get, getN, pp, pv, pw, pg, Nat.reduceLT, d38, hG, Rp.cells, hrej, c1, c2, c3, c4, c5, c6, c7, c8]
                  exact hQ _ ⟨rfl, Ext.new⟩
                · have hno : ¬ ZR r := fun h => c8 h.2.2.2.2.2
                  rw [decide_eq_false hno] at hQ
                  simp (maxDischargeDepth := 8) only [sA, sM, zb, zl, zm, za, zd, Cells.get, getN, pp, pv, pw, pg, Nat.reduceLT, d38, hG, Rp.cells, hrej, c1, c2, c3, c4, c5, c6, c7, c8]
                  exact hQ _ ⟨rfl, Ext.new⟩
              · have hno : ¬ ZR r := fun h => c7 h.2.2.2.2.1
                rw [decide_eq_false hno] at hQ
                simp (maxDischargeDepth := 8) only [sA, sM, zb, zl, zm, za, zd, Cells.get, getN, pp, pv, pw, pg, Nat.reduceLT, d38, hG, Rp.cells, hrej, c1, c2, c3, c4, c5, c6, c7]
                exact hQ _ ⟨rfl, Ext.new⟩
            · have hno : ¬ ZR r := fun h => c6 h.2.2.2.1
              rw [decide_eq_false hno] at hQ
              simp (maxDischargeDepth := 8) only [sA, sM, zb, zl, zm, za, zd, Cells.get, getN, pp, pv, pw, pg, Nat.reduceLT, d38, hG, Rp.cells, hrej, c1, c2, c3, c4, c5, c6]
              exact hQ _ ⟨rfl, Ext.new⟩
          · have hno : ¬ ZR r := fun h => c5 h.2.2.1
            rw [decide_eq_false hno] at hQ
            simp (maxDischargeDepth := 8) only [sA, sM, zb, zl, zm, za, zd, Cells.get, getN, pp, pv, pw, pg, Nat.reduceLT, d38, hG, Rp.cells, hrej, c1, c2, c3, c4, c5]
            exact hQ _ ⟨rfl, Ext.new⟩
        · have hno : ¬ ZR r := fun h => c4 h.2.1.2.2.2
          rw [decide_eq_false hno] at hQ
          simp (maxDischargeDepth := 8) only [sA, sM, zb, zl, zm, za, zd, Cells.get, getN, pp, pv, pw, pg, Nat.reduceLT, d38, hG, Rp.cells, hrej, c1, c2, c3, c4]
          exact hQ _ ⟨rfl, Ext.new⟩
      · have hno : ¬ ZR r := fun h => c3 h.2.1.2.2.1
        rw [decide_eq_false hno] at hQ
        simp (maxDischargeDepth := 8) only [sA, sM, zb, zl, zm, za, zd, Cells.get, getN, pp, pv, pw, pg, Nat.reduceLT, d38, hG, Rp.cells, hrej, c1, c2, c3]
        exact hQ _ ⟨rfl, Ext.new⟩
    · have hno : ¬ ZR r := fun h => c2 h.2.1.2.1
      rw [decide_eq_false hno] at hQ
      simp (maxDischargeDepth := 8) only [sA, sM, zb, zl, zm, za, zd, Cells.get, getN, pp, pv, pw, pg, Nat.reduceLT, d38, hG, Rp.cells, hrej, c1, c2]
      exact hQ _ ⟨rfl, Ext.new⟩
  · have hno : ¬ ZR r := fun h => c1 h.2.1.1
    rw [decide_eq_false hno] at hQ
    simp (maxDischargeDepth := 8) only [sA, sM, zb, zl, zm, za, zd, Cells.get, getN, pp, pv, pw, pg, Nat.reduceLT, d38, hG, Rp.cells, hrej, c1]
    exact hQ _ ⟨rfl, Ext.new⟩
 | true =>
  by_cases a1 : r.trap = 0
  · by_cases a2 : r.v = 0
    · by_cases a3 : r.gas = 0
      · have hnr : ¬ (r.rej = true ∧ (r.trap ≠ 0 ∨ r.v ≠ 0 ∨ r.gas ≠ 0)) := fun h => by rcases h.2 with h | h | h <;> contradiction
        by_cases c1 : 0 ≤ r.c
        · skip
          by_cases c2 : r.c ≤ 63
          · skip
            by_cases c3 : 1 ≤ r.n
            · skip
              by_cases c4 : r.n ≤ 1099511627776
              · skip
                have hyes : ZR r := ⟨hnr, ⟨c1, c2, c3, c4⟩, by omega, by omega, by omega, by omega⟩
                rw [decide_eq_true hyes] at hQ
                simp (maxDischargeDepth := 8) only [sA, sM, zb, zl, zm, za, zd, Cells.get, getN, pp, pv, pw, pg, Int.reduceLE, Nat.reduceLT, d38, hG, Rp.cells, hrej, a1, a2, a3, c1, c2, c3, c4]
                exact hQ _ ⟨rfl, Ext.new⟩
              · have hno : ¬ ZR r := fun h => c4 h.2.1.2.2.2
                rw [decide_eq_false hno] at hQ
                simp (maxDischargeDepth := 8) only [sA, sM, zb, zl, zm, za, zd, Cells.get, getN, pp, pv, pw, pg, Nat.reduceLT, d38, hG, Rp.cells, hrej, a1, a2, a3, c1, c2, c3, c4]
                exact hQ _ ⟨rfl, Ext.new⟩
            · have hno : ¬ ZR r := fun h => c3 h.2.1.2.2.1
              rw [decide_eq_false hno] at hQ
              simp (maxDischargeDepth := 8) only [sA, sM, zb, zl, zm, za, zd, Cells.get, getN, pp, pv, pw, pg, Nat.reduceLT, d38, hG, Rp.cells, hrej, a1, a2, a3, c1, c2, c3]
              exact hQ _ ⟨rfl, Ext.new⟩
          · have hno : ¬ ZR r := fun h => c2 h.2.1.2.1
            rw [decide_eq_false hno] at hQ
            simp (maxDischargeDepth := 8) only [sA, sM, zb, zl, zm, za, zd, Cells.get, getN, pp, pv, pw, pg, Nat.reduceLT, d38, hG, Rp.cells, hrej, a1, a2, a3, c1, c2]
            exact hQ _ ⟨rfl, Ext.new⟩
        · have hno : ¬ ZR r := fun h => c1 h.2.1.1
          rw [decide_eq_false hno] at hQ
          simp (maxDischargeDepth := 8) only [sA, sM, zb, zl, zm, za, zd, Cells.get, getN, pp, pv, pw, pg, Nat.reduceLT, d38, hG, Rp.cells, hrej, a1, a2, a3, c1]
          exact hQ _ ⟨rfl, Ext.new⟩
      · have hno : ¬ ZR r := fun h => h.1 ⟨hrej, .inr (.inr a3)⟩
        rw [decide_eq_false hno] at hQ
        simp (maxDischargeDepth := 8) only [sA, sM, zb, zl, zm, za, zd, Cells.get, getN, pp, pv, pw, pg, Nat.reduceLT, d38, hG, Rp.cells, hrej, a1, a2, a3]
        exact hQ _ ⟨rfl, Ext.new⟩
    · have hno : ¬ ZR r := fun h => h.1 ⟨hrej, .inr (.inl a2)⟩
      rw [decide_eq_false hno] at hQ
      simp (maxDischargeDepth := 8) only [sA, sM, zb, zl, zm, za, zd, Cells.get, getN, pp, pv, pw, pg, Nat.reduceLT, d38, hG, Rp.cells, hrej, a1, a2]
      exact hQ _ ⟨rfl, Ext.new⟩
  · have hno : ¬ ZR r := fun h => h.1 ⟨hrej, .inl a1⟩
    rw [decide_eq_false hno] at hQ
    simp (maxDischargeDepth := 8) only [sA, sM, zb, zl, zm, za, zd, Cells.get, getN, pp, pv, pw, pg, Nat.reduceLT, d38, hG, Rp.cells, hrej, a1]
    exact hQ _ ⟨rfl, Ext.new⟩
end
section
variable {E : Env} (hR : TV E) {s : DS} {r : Nat} {bv : Value} {bs : List Int} {bad : Bool} {d : Nat}
include hR
theorem Mu (hG : s.Good) (c n : Int) : W (dcall E (d + 2) (.func (.func 31) #[] #[]) [.int .i64 c, .int .i64 n] s) fun x => x.1 = .bool (decide (Who c n)) ∧ Ext [] s x.2 := by
 refine zr fun Q hQ => ?_
 rw [zh hR.imay hR.fmay rfl]
 simp only [sA, Nat.reduceEqDiff, Nat.reduceAdd, Nat.reduceLeDiff, reduceCtorEq, zg, pp, pv, d31]
 refine W.mono (Fm hR.fMay hR.iMay hG (d := d) ⟨c, n, false, 0, 0, 0⟩) ?_
 rintro ⟨v, s1⟩ ⟨h1, X1⟩
 simp only at h1 X1
 subst h1
 have e : decide (ZR ⟨c, n, false, 0, 0, 0⟩) = decide (Who c n) := by
  refine decide_eq_decide.2 (Iff.intro (fun h => h.2.1) fun h => ?_)
  unfold ZR
  exact ⟨fun h => by simp at h, h, by simp⟩
 rw [e]
 simp only [sA, za, zd]
 exact hQ _ ⟨rfl, X1⟩
end
end Go.Dx.TbA
namespace Go.Dx.TbA
open Go Go.Dx Go.Dx.Tab Go.Proofs.YtffgmngdgkpflaaGreat
theorem Wr.row {x : zX} (h : Wr x) : Kx (ZT x) := by
 unfold Wr at h
 by_cases c : x.2.1 = true
 · rw [if_pos c] at h
   obtain ⟨hg, h1, h2⟩ := h
   have hm : ZR (Vj x.2.2) := by unfold Vj; rw [if_pos hg]; exact hg.2
   have hr : (ZT x).rep = Vj x.2.2 := by unfold ZT; exact if_pos c
   refine ⟨?_, fun _ => by rw [hr]; exact ⟨hm, h1, h2⟩, fun e => ?_⟩
   · have := hm.2.1
     rw [h1, h2] at this
     exact this
   · have e : x.2.1 = false := e
     rw [c] at e
     cases e
 · rw [if_neg c] at h
   refine ⟨h.2, fun e => absurd e c, fun _ => ?_⟩
   unfold ZT
   exact if_neg c
theorem Zu.one {xs : List zX} (h : Zu xs) {x : zX} (hx : x ∈ xs) : Wr x := by
 obtain ⟨i, hi⟩ := List.mem_iff_getElem?.1 hx
 exact (h i x hi).1
theorem Zu.rise {xs : List zX} (h : Zu xs) : xs.Pairwise fun a b => a.1.1 < b.1.1 := by
 rw [List.pairwise_iff_getElem]
 intro i j hi hj hij
 exact h.lt j i _ _ hij (List.getElem?_eq_getElem hj) (List.getElem?_eq_getElem hi)
theorem Zu.pre {l r : List zX} (h : Zu (l ++ r)) : Zu l := by
 intro i x hx
 have hi := (List.getElem?_eq_some_iff.1 hx).1
 obtain ⟨h1, h2⟩ := h i x (by rw [List.getElem?_append_left hi]; exact hx)
 exact ⟨h1, fun y h3 h4 => h2 y h3 (by rw [List.getElem?_append_left (by omega)]; exact h4)⟩
theorem Pj (xs : List zX) : (YC xs).map (fun x => x.1.key) = xs.map fun x => x.1.1 := by
 unfold YC
 have h : ∀ (l : List zX) (n : Nat), ((l.map ZT).zipIdx n).map (fun x => x.1.key) = l.map fun x => x.1.1 := fun l => by
  induction l with
  | nil => intro n; rfl
  | cons a l ih =>
   intro n
   simp only [z4, List.zipIdx_cons, ih]
   rfl
 exact h xs 0
theorem Mn {xs : List zX} {x : TR × Nat} (h : x ∈ YC xs) : ∃ y, y ∈ xs ∧ x.1 = ZT y := by
 unfold YC at h
 obtain ⟨a, b⟩ := x
 have h1 := List.mem_zipIdx h
 simp only [Nat.zero_le, Nat.zero_add, true_and, List.length_map, Nat.sub_zero] at h1
 obtain ⟨h2, h3⟩ := h1
 refine ⟨xs[b], List.getElem_mem h2, ?_⟩
 simp only at h3 ⊢
 rw [h3, List.getElem_map]
theorem Zu.trs {xs : List zX} (h : Zu xs) : Zn (YC xs) xs.length := by
 refine ⟨?_, fun x hx => ?_, fun x hx => ?_, ?_⟩
 · rw [Pj]
   unfold List.Nodup
   rw [List.pairwise_map]
   exact h.rise.imp fun {a b} h => by omega
 · obtain ⟨y, hy, e⟩ := Mn hx
   rw [e]
   exact (h.one hy).row
 · obtain ⟨a, b⟩ := x
   have h1 := List.mem_zipIdx (show (a, b) ∈ (xs.map ZT).zipIdx from hx)
   simp only [Nat.zero_le, Nat.zero_add, true_and, List.length_map, Nat.sub_zero] at h1
   exact h1.1
 · unfold YC
   have : ((xs.map ZT).zipIdx).map (fun x => x.2) = List.range' 0 (xs.map ZT).length := by
    simp
   rw [this]
   exact List.nodup_range'
end Go.Dx.TbA
namespace Go.Dx.TbA
open Go Go.Dx Go.Dx.Tab Go.Proofs.YtffgmngdgkpflaaGreat
structure ZY (s : DS) (q : Nat) (A : Int → Option TR) : Prop where
 gq : s.get q = some (.cells (.list (Ql A)) false)
 wq : s.wr q = true
theorem ZY.keep {s s' : DS} {q : Nat} {A : Int → Option TR} {F : List Nat} (c : ZY s q A) (e : Ext F s s') (h : q ∉ F) : ZY s' q A := ⟨e.keep c.gq h, e.wrs c.wq⟩
theorem Hf : zT = Ql fun _ => none := rfl
theorem SlX.toR' {s : DS} {v : Value} {l : List Int} (h : SlX s 1 v (zC l)) : SlR s v l := by
 rcases h with ⟨rfl, h0⟩ | ⟨b, sp, rfl, h1, h2, h3⟩
 · exact .inl ⟨rfl, by simpa [zC] using h0⟩
 · refine .inr ⟨b, 0, sp, (zC l).length, by rw [zt], h1, by rw [zt]; exact Nat.le_refl _, ?_⟩
   unfold DS.read
   rw [h2]
   show (Cells.list (zC l).flatten).take 0 l.length = some (u8s l)
   rw [YP, Yf]
   refine Qg (List.length_map ..) fun i hi => ?_
   rw [Nat.zero_add]
   show getN (u8s l) i = _
   rw [zw]
def Nb (l : List zX) : Int := match l.getLast? with | none => -1 | some x => x.1.1
theorem Zu.snoc {l : List zX} {x : zX} : Zu (l ++ [x]) ↔ Zu l ∧ Wr x ∧ Nb l < x.1.1 := by
 constructor
 · intro h
   have hx := h l.length x (by simp)
   refine ⟨h.pre, hx.1, ?_⟩
   unfold Nb
   cases e : l.getLast? with
   | none =>
    have hr := hx.1.row.who
    have : (0 : Int) ≤ x.1.1 := hr.1
    show (-1 : Int) < x.1.1
    omega
   | some y =>
    have hne : l ≠ [] := fun h0 => by rw [h0] at e; cases e
    have hl := List.length_pos_iff.2 hne
    refine hx.2 y (by omega) ?_
    rw [List.getElem?_append_left (by omega), ← List.getLast?_eq_getElem?]
    exact e
 · rintro ⟨h1, h2, h3⟩ i y hy
   by_cases hi : i < l.length
   · rw [List.getElem?_append_left hi] at hy
     obtain ⟨h4, h5⟩ := h1 i y hy
     exact ⟨h4, fun z h6 h7 => h5 z h6 (by rwa [List.getElem?_append_left (by omega)] at h7)⟩
   · have hi2 := (List.getElem?_eq_some_iff.1 hy).1
     simp only [List.length_append, List.length_singleton] at hi2
     have hi3 : i = l.length := by omega
     subst hi3
     have e : x = y := by simpa using hy
     subst e
     refine ⟨h2, fun z h6 h7 => ?_⟩
     rw [List.getElem?_append_left (by omega), ← List.getLast?_eq_getElem?] at h7
     unfold Nb at h3
     rw [h7] at h3
     exact h3
end Go.Dx.TbA
namespace Go.Dx.TbA
open Go Go.Dx Go.Dx.Tab Go.Proofs.YtffgmngdgkpflaaGreat
structure Jb (s : DS) (o : Nat) (bv : Value) (bs : List Int) : Prop where
 go : s.get o = some (.cells (.list [bv, .bool false, .bool false]) false)
 wo : s.wr o = true
 sl : SlX s 1 bv (zC bs)
 ne : o ∉ blk bv
structure Ky (E : Env) : Prop where
 fput : E.fn 98 = some d98
 iput : E.intr 98 = none
 flow : E.fn 97 = some d97
 ilow : E.intr 97 = none
 fcount : E.fn 96 = some d96
 icount : E.intr 96 = none
 fmany : E.fn 58 = some d58
 imany : E.intr 58 = none
 fint : E.fn 60 = some d60
 iint : E.intr 60 = none
 fbyte : E.fn 59 = some d59
 ibyte : E.intr 59 = none
 fflag : E.fn 61 = some d61
 iflag : E.intr 61 = none
 fblob : E.fn 62 = some d62
 iblob : E.intr 62 = none
 fenc : E.fn 63 = some d63
 ienc : E.intr 63 = none
 fpack : E.fn 33 = some d33
 ipack : E.intr 33 = none
 lf : 10000 ≤ E.lf
def Ja (s : DS) (o : Nat) (cs : List Int) (r : Value × DS) : Prop := r.1 = .tuple #[] ∧ ∃ bv', Jb r.2 o bv' cs ∧ Ext [o] s r.2 ∧ ∀ k, k ∈ blk bv' → s.next ≤ k
theorem Jb.keep {s s' : DS} {o : Nat} {bv : Value} {bs : List Int} {F : List Nat} (h : Jb s o bv bs) (X : Ext F s s') (h1 : o ∉ F) (h2 : ∀ k, k ∈ blk bv → k ∉ F) : Jb s' o bv bs :=
 ⟨X.keep h.go h1, X.wrs h.wo, h.sl.keep X h2, h.ne⟩
structure He (S : DS) (o : Nat) (x : Int) (size : Nat) (n : Nat) (y : St) : Prop where
 ex : ∃ (j : Nat) (w : Value), n = size - j ∧ j ≤ size ∧ y.defers = [] ∧ (y.t.get 0 = some (.pointer (some ⟨o, 0, none⟩)) ∧ y.t.get 1 = some (.int .u64 (zf .u64 x)) ∧ y.t.get 2 = some (.int .i64 (size : Int)) ∧ y.t.get 6 = some w ∧ y.t.get 7 = some (.int .i64 (j : Int))) ∧
  Ext [] S y.s ∧ SlX y.s 1 w (zC (leB x j)) ∧ ∀ k, k ∈ blk w → S.next ≤ k
section
variable {E : Env} (hO : Ky E) {s : DS} {o : Nat} {bv : Value} {bs cs : List Int} {d : Nat}
include hO
theorem Sp (h : Jb s o bv bs) (hG : s.Good) {y : Value} (hy : SlX s 1 y (zC cs)) (hlen : bs.length + cs.length ≤ 1048576) :
 W (dcall E (d + 1) (.func (.func 98) #[] #[]) [.pointer (some ⟨o, 0, none⟩), y] s) (Ja s o (bs ++ cs)) := by
 have go := h.go
 have wo := h.wo
 have hol := DS.get_lt' go
 have hyl := hy.lt
 have hbl := h.sl.lt
 obtain ⟨ab, hbv⟩ := h.sl.shape
 obtain ⟨ay, hyv⟩ := hy.shape
 rw [zt] at hbv hyv
 have w1 : zf .i64 (1048576 - (bs.length : Int)) = 1048576 - (bs.length : Int) := zi (by omega) (by omega)
 have e1 : ¬ 1048576 - (bs.length : Int) < (cs.length : Int) := by omega
 refine zr fun Q hQ => ?_
 rw [zh hO.iput hO.fput rfl]
 have hv1 := (h.sl.view (ZK _))
 have hv2 := (hy.view (ZK _))
 subst hbv hyv
 have hn : ∀ ob, (s.new ob).get o = some (.cells (.list [.slice ab bs.length bs.length, .bool false, .bool false]) false) := fun ob => (DS.new_get_lt hol).trans go
 simp only [sA, zb, zl, zm, Nat.reduceEqDiff, Cells.get, getN, Nat.reduceLeDiff, reduceCtorEq, zg, pp, pv, pw, pg, repeatZ, d98, go, w1, e1, hn]
 obtain ⟨S1, hS1⟩ : ∃ S1 : DS, S1 = s.new (.cells (.list []) false) := ⟨_, rfl⟩
 rw [← hS1]
 have X1 : Ext [] s S1 := by rw [hS1]; exact Ext.new
 have g1 : S1.get s.next = some (.cells (.list []) false) := by rw [hS1]; exact DS.new_get_self hG
 have hx : SlX S1 1 (.slice (some ⟨s.next, 0, none⟩) 0 0) [] := .inr ⟨s.next, none, rfl, .inl rfl, g1, X1.wrs (hG _ (Nat.le_refl _)).2⟩
 have hG1 := X1.good hG
 refine W.mono (Jw hx (hv1.of fun k hk => X1.get k (hbl k hk) (by simp)) zW.nil (ZK _) hG1 (by rw [zt]; simp; omega) (by rw [zt]; simp; omega)) ?_
 rintro ⟨w2, s2⟩ ⟨x2, X2, b2⟩
 simp only [List.nil_append] at x2 X2 b2
 have XA : Ext [] s s2 := X1.trans X2 (by simp [blk])
 have hb2 : ∀ k, k ∈ blk w2 → s.next ≤ k := fun k hk => by
  rcases b2 k hk with h | h
  · simp [blk] at h; omega
  · have := X1.le; omega
 simp only [sA, Nat.reduceEqDiff]
 refine W.mono (Jw x2 (hv2.of fun k hk => XA.get k (hyl k hk) (by simp)) (ZK _) (ZK _) (XA.good hG) (by rw [zt, zt]; omega) (by rw [zt, zt]; omega)) ?_
 rintro ⟨w3, s3⟩ ⟨x3, X3, b3⟩
 simp only at x3 X3 b3
 have XB : Ext [] s s3 := XA.trans X3 (fun k hk => .inr (hb2 k hk))
 have hb3 : ∀ k, k ∈ blk w3 → s.next ≤ k := fun k hk => by
  rcases b3 k hk with h | h
  · exact hb2 k h
  · have := XA.le; omega
 have go3 := XB.keep go (by simp)
 have wo3 := XB.wrs wo
 rw [← JP] at x3
 obtain ⟨a3, hw3⟩ := x3.shape
 rw [zt] at hw3
 subst hw3
 simp only [sA, zb, Nat.reduceEqDiff, za, zd, Nat.reduceAdd, allOne, ze, Nat.reduceLeDiff, DS.wrC, Cells.size, Cells.fillFrom, Cells.set, zk, go3, wo3]
 have XU : ∀ ob, Ext [o] s3 (s3.upd o ob) := fun ob => Ext.upd (.inl (by simp))
 refine hQ _ ⟨rfl, _, ⟨?_, ?_, ?_, fun hk => by have := hb3 o hk; omega⟩, ?_, hb3⟩
 · rw [DS.upd_get_self, go3]; simp [List.length_append]
 · rw [DS.upd_wr]; exact wo3
 · exact x3.keep (XU _) fun k hk => by have := hb3 k hk; simp; omega
 · exact (XB.weaken (by simp)).trans' (XU _)
theorem Sq (h : Jb s o bv bs) (hG : s.Good) (x : Int) {size : Nat} (hs : size ≤ 8) (hlen : bs.length + size ≤ 1048576) :
 W (dcall E (d + 2) (.func (.func 97) #[] #[]) [.pointer (some ⟨o, 0, none⟩), .int .u64 (zf .u64 x), .int .i64 (size : Int)] s) (Ja s o (bs ++ leB x size)) := by
 have hlf := hO.lf
 have hol := DS.get_lt' h.go
 have hbl := h.sl.lt
 refine zr fun Q hQ => ?_
 rw [zh hO.ilow hO.flow rfl]
 simp only [sA, pp, pv, d97]
 refine zY (He s o x size) size (by omega) ⟨0, .slice none 0 0, rfl, Nat.zero_le _, rfl, ?_, .refl, .inl ⟨rfl, rfl⟩, by simp [blk]⟩ ?_
 · simp only [sA, Nat.reduceEqDiff, reduceCtorEq]
   rfl
 rintro n ⟨t, s2, ds⟩ hn ⟨j, w, rfl, hj, hds, ⟨g0, g1, g2, g6, g7⟩, X2, hw, hwb⟩
 simp only at hds g0 g1 g2 g6 g7 X2 hw
 subst hds
 have hG2 := X2.good hG
 by_cases c1 : j < size
 · have e1 : (j : Int) < (size : Int) := by omega
   have w1 : zf .i64 ((j : Int) + 1) = ((j + 1 : Nat) : Int) := by rw [zi (by omega) (by omega)]; omega
   have w2 : zf .i64 (8 * (j : Int)) = ((8 * j : Nat) : Int) := by rw [zi (by omega) (by omega)]; omega
   have hsh : Zx .shr .u64 (zf .u64 x) ((8 * j : Nat) : Int) = some (.int .u64 ((zf .u64 x).fdiv (Int.ofNat (2 ^ (8 * j))))) := by
    unfold Zx
    rw [if_neg (by omega)]
    have e2 : Nat.ble (bitsOf .u64) ((8 * j : Nat) : Int).toNat = false := by rw [zD]; simp [bitsOf]; omega
    simp only [e2, z3, if_false]
    rfl
   simp only [sA, zb, zl, zm, Nat.reduceEqDiff, Nat.reduceLeDiff, zg, repeatZ, g0, g1, g2, g6, g7, e1, w1, w2, hsh]
   obtain ⟨S3, hS3⟩ : ∃ S3 : DS, S3 = s2.new (.cells (.list [.int .u8 (leI x j)]) false) := ⟨_, rfl⟩
   rw [show zf .u8 ((zf .u64 x).fdiv (Int.ofNat (2 ^ (8 * j)))) = leI x j from rfl, ← hS3]
   have X3 : Ext [] s2 S3 := by rw [hS3]; exact Ext.new
   have g3 : S3.get s2.next = some (.cells (.list [.int .u8 (leI x j)]) false) := by rw [hS3]; exact DS.new_get_self hG2
   have hv : SlV S3 1 (.slice (some ⟨s2.next, 0, none⟩) 1 1) (zC [leI x j]) := .inr ⟨s2.next, 0, none, 1, rfl, by unfold DS.read; rw [g3]; rfl⟩
   refine W.mono (Jw (hw.keep X3 (by simp)) hv (ZK _) (ZK _) (X3.good hG2) (by rw [zt, zt, zB]; simp; omega) (by rw [zt, zt, zB]; simp; omega)) ?_
   rintro ⟨w4, s4⟩ ⟨x4, X4, b4⟩
   simp only at x4 X4 b4
   rw [← JP, ← Ke] at x4
   have hb4 : ∀ k, k ∈ blk w4 → s.next ≤ k := fun k hk => by
    rcases b4 k hk with h | h
    · exact hwb k h
    · have := X3.le; have := X2.le; omega
   simp only [sA, zl, zm, Nat.reduceEqDiff, g0, g1, g2, g6, g7, w1]
   exact ⟨size - (j + 1), by omega, ⟨j + 1, w4, rfl, by omega, rfl, by simp only [sA, Nat.reduceEqDiff, reduceCtorEq, g0, g1, g2], (X2.trans' X3).trans X4 (fun k hk => .inr (hwb k hk)), x4, hb4⟩⟩
 · obtain rfl : j = size := by omega
   have e1 : ¬ (j : Int) < (j : Int) := by omega
   simp only [sA, zl, zm, Nat.reduceEqDiff, reduceCtorEq, g0, g1, g2, g6, g7, e1]
   refine W.mono (Sp hO (h.keep X2 (by simp) (by simp)) hG2 hw (by rw [zB]; exact hlen)) ?_
   rintro ⟨v5, s5⟩ ⟨hv5, bv5, h5, X5, b5⟩
   simp only at hv5 h5 X5
   subst hv5
   simp only [sA, za, zd]
   exact hQ _ ⟨rfl, bv5, h5, (X2.weaken (by simp)).trans' X5, fun k hk => by have := b5 k hk; have := X2.le; omega⟩
theorem KH (h : Jb s o bv bs) (hG : s.Good) {x most : Int} (hx : 0 ≤ x) (hm : x ≤ most) {size : Nat} (hs : size ≤ 8) (hlen : bs.length + size ≤ 1048576) :
 W (dcall E (d + 3) (.func (.func 96) #[] #[]) [.pointer (some ⟨o, 0, none⟩), .int .i64 x, .int .i64 (size : Int), .int .i64 most] s) (Ja s o (bs ++ leB x size)) := by
 have go := h.go
 have hol := DS.get_lt' go
 refine zr fun Q hQ => ?_
 rw [zh hO.icount hO.fcount rfl]
 have e1 : ¬ x < 0 := by omega
 have e2 : ¬ most < x := by omega
 simp only [sA, zb, zl, zm, Nat.reduceEqDiff, Cells.get, getN, reduceCtorEq, pp, pv, pw, pg, d96, go, e1, e2]
 refine W.mono (Sq hO h hG x hs hlen) ?_
 rintro ⟨v5, s5⟩ ⟨hv5, h5⟩
 simp only at hv5 h5
 subst hv5
 simp only [sA, za, zd]
 exact hQ _ ⟨rfl, h5⟩
theorem PZ (h : Jb s o bv bs) (hG : s.Good) {x : Int} (hx : 0 ≤ x) (hm : x ≤ 4096) (hlen : bs.length + 2 ≤ 1048576) :
 W (dcall E (d + 4) (.func (.func 58) #[] #[]) [.pointer (some ⟨o, 0, none⟩), .int .i64 x] s) (Ja s o (bs ++ leB x 2)) := by
 refine zr fun Q hQ => ?_
 rw [zh hO.imany hO.fmany rfl]
 simp only [sA, Nat.reduceEqDiff, pp, pv, d58]
 refine W.mono (KH hO h hG hx hm (size := 2) (by omega) hlen) ?_
 rintro ⟨v5, s5⟩ ⟨hv5, h5⟩
 simp only at hv5 h5
 subst hv5
 simp only [sA, za, zd]
 exact hQ _ ⟨rfl, h5⟩
theorem Vw (h : Jb s o bv bs) (hG : s.Good) (x : Int) (hlen : bs.length + 8 ≤ 1048576) :
 W (dcall E (d + 3) (.func (.func 60) #[] #[]) [.pointer (some ⟨o, 0, none⟩), .int .i64 x] s) (Ja s o (bs ++ leB x 8)) := by
 refine zr fun Q hQ => ?_
 rw [zh hO.iint hO.fint rfl]
 simp only [sA, zb, Nat.reduceEqDiff, pp, pv, d60]
 refine W.mono (Sq hO h hG x (size := 8) (by omega) hlen) ?_
 rintro ⟨v5, s5⟩ ⟨hv5, h5⟩
 simp only at hv5 h5
 subst hv5
 simp only [sA, za, zd]
 exact hQ _ ⟨rfl, h5⟩
theorem QY (h : Jb s o bv bs) (hG : s.Good) {x : Int} (hx : 0 ≤ x) (hm : x ≤ 255) (hlen : bs.length + 1 ≤ 1048576) :
 W (dcall E (d + 4) (.func (.func 59) #[] #[]) [.pointer (some ⟨o, 0, none⟩), .int .i64 x] s) (Ja s o (bs ++ leB x 1)) := by
 refine zr fun Q hQ => ?_
 rw [zh hO.ibyte hO.fbyte rfl]
 simp only [sA, Nat.reduceEqDiff, pp, pv, d59]
 refine W.mono (KH hO h hG hx hm (size := 1) (by omega) hlen) ?_
 rintro ⟨v5, s5⟩ ⟨hv5, h5⟩
 simp only at hv5 h5
 subst hv5
 simp only [sA, za, zd]
 exact hQ _ ⟨rfl, h5⟩
theorem DY (h : Jb s o bv bs) (hG : s.Good) (x : Bool) (hlen : bs.length + 1 ≤ 1048576) :
 W (dcall E (d + 5) (.func (.func 61) #[] #[]) [.pointer (some ⟨o, 0, none⟩), .bool x] s) (Ja s o (bs ++ Xp x)) := by
 refine zr fun Q hQ => ?_
 rw [zh hO.iflag hO.fflag rfl]
 cases x with
 | false =>
  simp only [sA, reduceCtorEq, pp, pv, d61]
  refine W.mono (QY hO h hG (x := 0) (by omega) (by omega) hlen) ?_
  rintro ⟨v5, s5⟩ ⟨hv5, h5⟩
  simp only at hv5 h5
  subst hv5
  simp only [sA, za, zd]
  exact hQ _ ⟨rfl, h5⟩
 | true =>
  simp only [sA, reduceCtorEq, pp, pv, d61]
  refine W.mono (QY hO h hG (x := 1) (by omega) (by omega) hlen) ?_
  rintro ⟨v5, s5⟩ ⟨hv5, h5⟩
  simp only at hv5 h5
  subst hv5
  simp only [sA, za, zd]
  exact hQ _ ⟨rfl, h5⟩
theorem DZ (h : Jb s o bv bs) (hG : s.Good) {y : Value} (hy : SlX s 1 y (zC cs)) (hne : o ∉ blk y) (hc : cs.length ≤ 65536) (hlen : bs.length + 4 + cs.length ≤ 1048576) :
 W (dcall E (d + 4) (.func (.func 62) #[] #[]) [.pointer (some ⟨o, 0, none⟩), y] s) (Ja s o (bs ++ (leB (cs.length : Int) 4 ++ cs))) := by
 obtain ⟨a, hyv⟩ := hy.shape
 rw [zt] at hyv
 refine zr fun Q hQ => ?_
 rw [zh hO.iblob hO.fblob rfl]
 subst hyv
 simp only [sA, zb, Nat.reduceEqDiff, pp, pv, d62]
 refine W.mono (KH hO h hG (x := (cs.length : Int)) (most := 65536) (by omega) (by omega) (size := 4) (by omega) (by omega)) ?_
 rintro ⟨v5, s5⟩ ⟨hv5, b5, h5, X5, n5⟩
 simp only at hv5 h5 X5
 subst hv5
 simp only [sA, Nat.reduceEqDiff, reduceCtorEq]
 refine W.mono (Sp hO (d := d + 2) h5 (X5.good hG) (hy.keep X5 (fun k hk e => hne (List.mem_singleton.1 e ▸ hk))) (by rw [List.length_append, zB]; omega)) ?_
 rintro ⟨v6, s6⟩ ⟨hv6, b6, h6, X6, n6⟩
 simp only at hv6 h6 X6
 subst hv6
 simp only [sA, za, zd]
 rw [List.append_assoc] at h6
 exact hQ _ ⟨rfl, b6, h6, X5.trans' X6, fun k hk => by have := n6 k hk; have := X5.le; omega⟩
omit hO in
theorem Ja.next {s1 s2 : DS} {v : Value} {cs : List Int} (X : Ext [o] s s1) (h : Ja s1 o cs (v, s2)) : Ja s o cs (v, s2) := by
 obtain ⟨h1, b, h2, h3, h4⟩ := h
 exact ⟨h1, b, h2, X.trans' h3, fun k hk => Nat.le_trans X.le (h4 k hk)⟩
theorem MB (hG : s.Good) (r : Rp) (hm : ZR r) : W (dcall E (d + 6) (.func (.func 63) #[] #[]) [.agg ⟨r.cells⟩] s) fun p => SlX p.2 1 p.1 (zC (encR r)) ∧ Ext [] s p.2 ∧ ∀ k, k ∈ blk p.1 → s.next ≤ k := by
 obtain ⟨_, ⟨w1, w2, w3, w4⟩, w5, w6, w7, w8⟩ := hm
 refine zr fun Q hQ => ?_
 rw [zh hO.ienc hO.fenc rfl]
 simp (maxDischargeDepth := 8) only [sA, sM, zb, Cells.get, getN, zg, pp, pv, Nat.reduceLT, d63, hG, Rp.cells]
 obtain ⟨S0, hS0⟩ : ∃ S0 : DS, S0 = (s.new (.cells (.list [.int .i64 r.c, .int .i64 r.n, .bool r.rej, .int .i64 r.trap, .int .i64 r.v, .int .i64 r.gas]) false)).new (.cells (.list [.slice none 0 0, .bool false, .bool false]) false) := ⟨_, rfl⟩
 rw [← hS0]
 have X0 : Ext [] s S0 := by rw [hS0]; exact Ext.new.trans' Ext.new
 have g0 : S0.get s.next = some (.cells (.list [.int .i64 r.c, .int .i64 r.n, .bool r.rej, .int .i64 r.trap, .int .i64 r.v, .int .i64 r.gas]) false) := by rw [hS0]; simp (maxDischargeDepth := 8) only [sM, zU, hG]
 have O0 : Jb S0 (s.next + 1) (.slice none 0 0) [] := ⟨by rw [hS0]; simp (maxDischargeDepth := 8) only [sM, zU, hG], X0.wrs (hG _ (Nat.le_succ _)).2, .inl ⟨rfl, rfl⟩, by simp [blk]⟩
 have G0 := X0.good hG
 have l0 := DS.get_lt' g0
 clear hS0
 skip
 refine W.mono (QY hO (d := d + 1) O0 G0 (x := r.c) (by omega) (by omega) (by simp [zB, Xp])) ?_
 rintro ⟨v1, S1⟩ ⟨hv1, bv1, O1, Z1, n1⟩
 simp only at hv1 O1 Z1 n1
 subst hv1
 have X1 : Ext [] s S1 := X0.trans Z1 (by simp)
 have G1 := X1.good hG
 have g1 := Z1.keep g0 (by simp)
 have le1 := X1.le
 simp only [sA, zb, Nat.reduceEqDiff, Cells.get, getN, g1]
 refine W.mono (Vw hO (d := d + 2) O1 G1 r.n (by simp [zB, Xp])) ?_
 rintro ⟨v2, S2⟩ ⟨hv2, bv2, O2, Z2, n2⟩
 simp only at hv2 O2 Z2 n2
 subst hv2
 have X2 : Ext [] s S2 := X1.trans Z2 (by simp)
 have G2 := X2.good hG
 have g2 := Z2.keep g1 (by simp)
 have le2 := X2.le
 simp only [sA, zb, Nat.reduceEqDiff, Cells.get, getN, g2]
 refine W.mono (DY hO (d := d) O2 G2 r.rej (by simp [zB, Xp])) ?_
 rintro ⟨v3, S3⟩ ⟨hv3, bv3, O3, Z3, n3⟩
 simp only at hv3 O3 Z3 n3
 subst hv3
 have X3 : Ext [] s S3 := X2.trans Z3 (by simp)
 have G3 := X3.good hG
 have g3 := Z3.keep g2 (by simp)
 have le3 := X3.le
 simp only [sA, zb, Nat.reduceEqDiff, Cells.get, getN, g3]
 refine W.mono (QY hO (d := d + 1) O3 G3 (x := r.trap) (by omega) (by omega) (by simp [zB, Xp])) ?_
 rintro ⟨v4, S4⟩ ⟨hv4, bv4, O4, Z4, n4⟩
 simp only at hv4 O4 Z4 n4
 subst hv4
 have X4 : Ext [] s S4 := X3.trans Z4 (by simp)
 have G4 := X4.good hG
 have g4 := Z4.keep g3 (by simp)
 have le4 := X4.le
 simp only [sA, zb, Nat.reduceEqDiff, Cells.get, getN, g4]
 refine W.mono (Vw hO (d := d + 2) O4 G4 r.v (by simp [zB, Xp])) ?_
 rintro ⟨v5, S5⟩ ⟨hv5, bv5, O5, Z5, n5⟩
 simp only at hv5 O5 Z5 n5
 subst hv5
 have X5 : Ext [] s S5 := X4.trans Z5 (by simp)
 have G5 := X5.good hG
 have g5 := Z5.keep g4 (by simp)
 have le5 := X5.le
 simp only [sA, zb, Nat.reduceEqDiff, Cells.get, getN, g5]
 refine W.mono (Vw hO (d := d + 2) O5 G5 r.gas (by simp [zB, Xp])) ?_
 rintro ⟨v6, S6⟩ ⟨hv6, bv6, O6, Z6, n6⟩
 simp only at hv6 O6 Z6 n6
 subst hv6
 have X6 : Ext [] s S6 := X5.trans Z6 (by simp)
 have G6 := X6.good hG
 have g6 := Z6.keep g5 (by simp)
 have le6 := X6.le
 have gf := O6.go
 obtain ⟨a6, h6⟩ := O6.sl.shape
 subst h6
 simp only [sA, zb, Nat.reduceEqDiff, za, zd, Cells.get, getN, gf]
 have he : encR r = ((((([] ++ leB r.c 1) ++ leB r.n 8) ++ Xp r.rej) ++ leB r.trap 1) ++ leB r.v 8) ++ leB r.gas 8 := by
  simp only [encR, Q5, List.nil_append, List.append_assoc]
 refine hQ _ ⟨by rw [he]; exact O6.sl, X6, fun k hk => ?_⟩
 have h1 := n6 k hk
 have h2 := le5
 omega
end
theorem Cd {A : Int → Option TR} {i : Nat} : (rrC (A (i : Int)))[0]? = some (.bool (isAt A i)) := by
 unfold isAt
 cases A (i : Int) <;> rfl
def Do (A : Int → Option TR) (i : Nat) : Nat := ((List.range i).filter (isAt A)).length
theorem L8 (A : Int → Option TR) (i : Nat) : Do A (i + 1) = if isAt A i = true then Do A i + 1 else Do A i := by
 unfold Do
 rw [List.range_succ, List.filter_append, List.length_append]
 cases h : isAt A i <;> simp [h]
theorem MX (A : Int → Option TR) (i : Nat) : Do A i ≤ i := by
 have := List.length_filter_le (isAt A) (List.range i)
 rw [List.length_range] at this
 exact this
def rtB (A : Int → Option TR) (i : Nat) : List Int := leB (((Yl A).length : Nat) : Int) 2 ++ ((List.range i).filter (isAt A)).flatMap fun j : Nat => Q6 (XL A (j : Int))
theorem Ld (A : Int → Option TR) (i : Nat) : rtB A (i + 1) = if isAt A i = true then rtB A i ++ Q6 (XL A (i : Int)) else rtB A i := by
 unfold rtB
 rw [List.range_succ, List.filter_append, List.flatMap_append]
 cases h : isAt A i <;> simp [h]
theorem Mr (A : Int → Option TR) : rtB A 64 = Yk A := by
 unfold rtB Yk JL Ys
 rw [List.length_map, List.flatMap_map]
 rfl
theorem Sd (A : Int → Option TR) : ∀ i, (rtB A i).length ≤ 2 + i * 41
 | 0 => by simp [rtB, zB]
 | i + 1 => by
  have := Sd A i
  have h2 := Kc A (i : Int)
  rw [Ld]
  split
  · rw [List.length_append, FB]
    omega
  · omega
structure RP1 (S : DS) (q o : Nat) (A : Int → Option TR) (n : Nat) (y : St) : Prop where
 ex : ∃ i : Nat, n = 64 - i ∧ i ≤ 64 ∧ y.s = S ∧ y.defers = [] ∧ (y.t.get 0 = some (.pointer (some ⟨q, 0, none⟩)) ∧ y.t.get 3 = some (.pointer (some ⟨o, 0, none⟩)) ∧ y.t.get 4 = some (.int .i64 (Do A i : Int)) ∧ y.t.get 5 = some (.int .i64 (i : Int)))
structure RP2 (S : DS) (q o : Nat) (A : Int → Option TR) (n : Nat) (y : St) : Prop where
 ex : ∃ (i : Nat) (bv : Value), n = 64 - i ∧ i ≤ 64 ∧ y.defers = [] ∧ (y.t.get 0 = some (.pointer (some ⟨q, 0, none⟩)) ∧ y.t.get 3 = some (.pointer (some ⟨o, 0, none⟩)) ∧ y.t.get 6 = some (.int .i64 (i : Int))) ∧ Jb y.s o bv (rtB A i) ∧ (∀ k, k ∈ blk bv → S.next ≤ k) ∧ Ext [o] S y.s
section
variable {E : Env} (hO : Ky E) {s : DS} {d q : Nat} {A : Int → Option TR}
include hO
theorem Fh (c : ZY s q A) (hA : ∀ (i : Nat) (x : TR), A (i : Int) = some x → Kx x ∧ x.key = (i : Int)) (hG : s.Good) :
 W (dcall E (d + 7) (.func (.func 33) #[] #[]) [.pointer (some ⟨q, 0, none⟩)] s) fun p => SlX p.2 1 p.1 (zC (Yk A)) ∧ Ext [] s p.2 ∧ ∀ k, k ∈ blk p.1 → s.next ≤ k := by
 have hlf := hO.lf
 have gq := c.gq
 have hql := DS.get_lt' gq
 refine zr fun Q hQ => ?_
 rw [zh hO.ipack hO.fpack rfl]
 simp (maxDischargeDepth := 8) only [sA, zg, pp, pv, d33, hG]
 obtain ⟨S0, hS0⟩ : ∃ S0 : DS, S0 = s.new (.cells (.list [.slice none 0 0, .bool false, .bool false]) false) := ⟨_, rfl⟩
 rw [← hS0]
 have X0 : Ext [] s S0 := by rw [hS0]; exact Ext.new
 have O0 : Jb S0 s.next (.slice none 0 0) [] := ⟨by rw [hS0]; exact DS.new_get_self hG, X0.wrs (hG _ (Nat.le_refl _)).2, .inl ⟨rfl, rfl⟩, by simp [blk]⟩
 have G0 := X0.good hG
 have gq0 := X0.keep gq (by simp)
 clear hS0
 refine zY (RP1 S0 q s.next A) 64 (by omega) ⟨0, rfl, by omega, rfl, rfl, by simp only [sA, Nat.reduceEqDiff, reduceCtorEq]; exact ⟨rfl, rfl⟩⟩ ?_
 rintro n ⟨t, S, ds⟩ hn ⟨i, rfl, hi, hS, hds, ⟨t0, t3, t4, t5⟩⟩
 simp only at hS hds t0 t3 t4 t5
 subst hS hds
 by_cases ci : i < 64
 · have e1 : (i : Int) < 64 := by omega
   have hg := Qk A ci Cd
   have hle := MX A i
   have w1 : zf .i64 ((i : Int) + 1) = ((i + 1 : Nat) : Int) := by rw [zi (by omega) (by omega)]; omega
   have w2 : zf .i64 ((Do A i : Int) + 1) = ((Do A i + 1 : Nat) : Int) := by rw [zi (by omega) (by omega)]; omega
   have hs := L8 A i
   rw [Nat.add_zero] at hg
   cases hia : isAt A i with
   | true =>
    rw [hia] at hg
    rw [hia, if_pos rfl] at hs
    simp only [sA, zb, zl, zm, Nat.reduceEqDiff, Cells.get, reduceCtorEq, t0, t3, t4, t5, e1, gq0, ci, hg, w1, w2]
    exact ⟨64 - (i + 1), by omega, ⟨i + 1, rfl, by omega, rfl, rfl, by simp only [sA, Nat.reduceEqDiff, reduceCtorEq, t0, t3, t4, t5, hs]⟩⟩
   | false =>
    rw [hia] at hg
    rw [hia, if_neg (by simp)] at hs
    simp only [sA, zb, zl, zm, Nat.reduceEqDiff, Cells.get, reduceCtorEq, t0, t3, t4, t5, e1, gq0, ci, hg, w1, w2]
    exact ⟨64 - (i + 1), by omega, ⟨i + 1, rfl, by omega, rfl, rfl, by simp only [sA, Nat.reduceEqDiff, reduceCtorEq, t0, t3, t4, t5, hs]⟩⟩
 obtain rfl : i = 64 := by omega
 have e1 : ¬ (((64 : Nat) : Int) < 64) := by omega
 have hcn : Do A 64 = (Yl A).length := rfl
 have hol := W1 A
 rw [hcn] at t4
 simp only [sA, zl, zm, Nat.reduceEqDiff, t0, t3, t4, t5, e1]
 refine W.mono (PZ hO (d := d + 2) O0 G0 (x := ((Yl A).length : Int)) (by omega) (by omega) (by simp)) ?_
 rintro ⟨v1, S1⟩ ⟨hv1, bv1, O1, Z1, n1⟩
 simp only [List.nil_append] at hv1 O1 Z1 n1
 subst hv1
 have X1 : Ext [] s S1 := X0.trans Z1 (by simp)
 simp only [sA, t0, t3]
 have hr0 : rtB A 0 = leB ((Yl A).length : Int) 2 := by unfold rtB; simp
 refine zY (RP2 s q s.next A) 64 (by omega) ⟨0, bv1, rfl, by omega, rfl, by simp only [sA, Nat.reduceEqDiff, reduceCtorEq, t0, t3]; rfl, by rw [hr0]; exact O1, fun k hk => by have := n1 k hk; have := X0.le; omega, X1.weaken (by simp)⟩ ?_
 rintro n ⟨t, S, ds⟩ hn ⟨i, bv, rfl, hi, hds, ⟨t0, t3, t6⟩, O2, hb2, X2⟩
 simp only at hds t0 t3 t6 O2 hb2 X2
 subst hds
 have G2 := X2.good hG
 have gq2 := X2.keep gq (by simp; omega)
 have ho2 := DS.get_lt' O2.go
 by_cases ci : i < 64
 · have e1 : (i : Int) < 64 := by omega
   have w1 : zf .i64 ((i : Int) + 1) = ((i + 1 : Nat) : Int) := by rw [zi (by omega) (by omega)]; omega
   have hs := Ld A i
   have hlen := Sd A i
   have hld : ldA 9 (.pointer (some ⟨q, i * 9, none⟩)) S = some (.agg ⟨rrC (A (i : Int))⟩) := by
    have := KG A ci (j := 0) (n := 9) (by omega)
    simp only [ldA, DS.read, gq2]
    rw [Nat.add_zero] at this
    rw [this, List.drop_zero, List.take_of_length_le (by rw [Qi]; exact Nat.le_refl _)]
   cases hia : A (i : Int) with
   | none =>
    have hz : isAt A i = false := by unfold isAt; rw [hia]; rfl
    rw [hz, if_neg (by simp)] at hs
    rw [hia] at hld
    simp only [rrC] at hld
    simp (maxDischargeDepth := 8) only [sA, sM, zb, zl, zm, Cells.get, getN, Nat.reduceAdd, allOne, ze, DS.wrC, Cells.size, Cells.fillFrom, Cells.set, zk, Nat.reduceLT, t0, t3, t6, e1, ci, hld, G2, w1]
    have X3 : ∀ o1 o2, Ext [] S ((S.new o1).upd S.next o2) := fun o1 o2 => (Ext.new (F := [])).trans (Ext.upd (F := [S.next]) (.inl (by simp))) (by simp)
    exact ⟨64 - (i + 1), by omega, ⟨i + 1, bv, rfl, by omega, rfl, by simp only [sA, Nat.reduceEqDiff, reduceCtorEq, t0, t3, t6], by rw [hs]; exact O2.keep (X3 _ _) (by simp) (by simp), hb2, X2.trans' ((X3 _ _).weaken (by simp))⟩⟩
   | some x =>
    have hz : isAt A i = true := by unfold isAt; rw [hia]; rfl
    rw [hz, if_pos rfl] at hs
    rw [hia] at hld
    simp only [rrC, Rp.cells] at hld
    obtain ⟨hrow, hkey⟩ := hA i x hia
    have hln : XL A (i : Int) = XK x := by unfold XL; rw [hia]
    obtain ⟨S3, hS3⟩ : ∃ S3 : DS, S3 = (S.new (.cells (.list [.bool false, .int .i64 0, .bool false, .int .i64 0, .int .i64 0, .bool false, .int .i64 0, .int .i64 0, .int .i64 0]) false)).upd S.next (.cells (.list [.bool true, .int .i64 x.num, .bool x.done, .int .i64 x.rep.c, .int .i64 x.rep.n, .bool x.rep.rej, .int .i64 x.rep.trap, .int .i64 x.rep.v, .int .i64 x.rep.gas]) false) := ⟨_, rfl⟩
    have X3 : Ext [] S S3 := by rw [hS3]; exact (Ext.new (F := [])).trans (Ext.upd (F := [S.next]) (.inl (by simp))) (by simp)
    have g3 : S3.get S.next = some (.cells (.list [.bool true, .int .i64 x.num, .bool x.done, .int .i64 x.rep.c, .int .i64 x.rep.n, .bool x.rep.rej, .int .i64 x.rep.trap, .int .i64 x.rep.v, .int .i64 x.rep.gas]) false) := by rw [hS3, DS.upd_get_self, DS.new_get_self G2]; rfl
    simp (maxDischargeDepth := 8) only [sA, sM, zb, zl, zm, Cells.get, getN, Nat.reduceAdd, allOne, ze, DS.wrC, Cells.size, Cells.fillFrom, Cells.set, zk, Nat.reduceLT, t0, t3, t6, e1, ci, hld, G2, w1, ← hS3, g3]
    clear hS3
    have O3 := O2.keep X3 (by simp) (by simp)
    have G3 := X3.good G2
    refine W.mono (QY hO (d := d + 2) O3 G3 (x := (i : Int)) (by omega) (by omega) (by omega)) ?_
    rintro ⟨v4, S4⟩ ⟨hv4, bv4, O4, Z4, n4⟩
    simp only at hv4 O4 Z4 n4
    subst hv4
    have g4 := Z4.keep g3 (by simp; omega)
    have G4 := Z4.good G3
    simp only [sA, zb, Nat.reduceEqDiff, Cells.get, getN, t3, g4]
    refine W.mono (Vw hO (d := d + 3) O4 G4 x.num (by rw [List.length_append, zB]; omega)) ?_
    rintro ⟨v5, S5⟩ ⟨hv5, bv5, O5, Z5, n5⟩
    simp only at hv5 O5 Z5 n5
    subst hv5
    have g5 := Z5.keep g4 (by simp; omega)
    have G5 := Z5.good G4
    simp only [sA, zb, Nat.reduceEqDiff, Cells.get, getN, t3, g5]
    refine W.mono (DY hO (d := d + 1) O5 G5 x.done (by simp only [List.length_append, zB]; omega)) ?_
    rintro ⟨v6, S6⟩ ⟨hv6, bv6, O6, Z6, n6⟩
    simp only at hv6 O6 Z6 n6
    subst hv6
    have g6 := Z6.keep g5 (by simp; omega)
    have G6 := Z6.good G5
    have ho6 := DS.get_lt' O6.go
    have le3 := X3.le
    have le4 := Z4.le
    have le5 := Z5.le
    have le6 := Z6.le
    have ls := DS.get_lt' g3
    have X06 : Ext [s.next] s S6 := ((((X2.trans' (X3.weaken (by simp))).trans' Z4).trans' Z5).trans' Z6)
    have fin : ∀ (S9 : DS) (b9 : Value) (body : List Int), (XK x).2.2 = body → Jb S9 s.next b9 ((((rtB A i ++ leB (i : Int) 1) ++ leB x.num 8) ++ Xp x.done) ++ (leB (body.length : Int) 4 ++ body)) → Jb S9 s.next b9 (rtB A (i + 1)) := by
     intro S9 b9 body hb h
     have he : rtB A (i + 1) = (((rtB A i ++ leB (i : Int) 1) ++ leB x.num 8) ++ Xp x.done) ++ (leB (body.length : Int) 4 ++ body) := by
      rw [hs, hln, ← hb, ← hkey]
      simp only [Q6, XK, List.append_assoc]
     rw [he]
     exact h
    cases hd : x.done with
    | false =>
     rw [hd] at g6 O6 fin
     simp only [sA, zb, Nat.reduceEqDiff, Cells.get, getN, t3, g6]
     refine W.mono (DZ hO (d := d + 2) (cs := []) (y := .slice none 0 0) O6 G6 (.inl ⟨rfl, rfl⟩) (by simp [blk]) (by simp) (by simp only [List.length_append, zB, Xp, List.length_nil]; omega)) ?_
     rintro ⟨v7, S7⟩ ⟨hv7, bv7, O7, Z7, n7⟩
     simp only at hv7 O7 Z7 n7
     subst hv7
     simp only [sA, zl, zm, Nat.reduceEqDiff, t0, t3, t6, w1]
     exact ⟨64 - (i + 1), by omega, ⟨i + 1, bv7, rfl, by omega, rfl, by simp only [sA, Nat.reduceEqDiff, reduceCtorEq, t0, t3], fin _ _ [] (by unfold XK; rw [hd]; rfl) O7, fun k hk => by have := n7 k hk; have := X2.le; omega, X06.trans' Z7⟩⟩
    | true =>
     rw [hd] at g6 O6 fin
     have hld6 : ldA 6 (.pointer (some ⟨S.next, 3, none⟩)) S6 = some (.agg ⟨x.rep.cells⟩) := by
      simp only [ldA, DS.read, g6]
      rfl
     have hdl : ldV (.pointer (some ⟨S.next, 2, none⟩)) S6 = some (.bool true) := by
      simp only [ldV, g6]
      rfl
     simp (maxDischargeDepth := 8) only [sA, zb, Cells.get, getN, WF, Nat.reduceLT, t3, g6, hld6, Cells.get, getN]
     refine W.mono (MB hO (d := d) G6 x.rep (hrow.done hd).1) ?_
     rintro ⟨v7, S7⟩ ⟨h7, Z7, n7⟩
     simp only at h7 Z7 n7
     simp only [sA, Nat.reduceEqDiff, t3]
     have he27 := Cw x.rep
     refine W.mono (DZ hO (d := d + 2) (cs := encR x.rep) (O6.keep Z7 (by simp) (by simp)) (Z7.good G6) h7 (fun hk => by have := n7 _ hk; omega) (by omega) (by simp only [List.length_append, zB, Xp]; omega)) ?_
     rintro ⟨v8, S8⟩ ⟨hv8, bv8, O8, Z8, n8⟩
     simp only at hv8 O8 Z8 n8
     subst hv8
     have le7 := Z7.le
     simp only [sA, zl, zm, Nat.reduceEqDiff, t0, t3, t6, w1]
     exact ⟨64 - (i + 1), by omega, ⟨i + 1, bv8, rfl, by omega, rfl, by simp only [sA, Nat.reduceEqDiff, reduceCtorEq, t0, t3], fin _ _ (encR x.rep) (by unfold XK; rw [hd]; rfl) O8, fun k hk => by have := n8 k hk; have := X2.le; omega, (X06.trans' (Z7.weaken (by simp))).trans' Z8⟩⟩
 obtain rfl : i = 64 := by omega
 have e1 : ¬ (((64 : Nat) : Int) < 64) := by omega
 have gf := O2.go
 rw [Mr] at O2
 obtain ⟨a6, h6⟩ := O2.sl.shape
 subst h6
 simp only [sA, zb, zl, zm, Nat.reduceEqDiff, za, zd, Cells.get, getN, t0, t3, t6, e1, gf]
 exact hQ _ ⟨O2.sl, (Ext.refl (F := [])).trans X2 (by simp), hb2⟩
end
end Go.Dx.TbA
namespace Go.Dx.TbA
open Go Go.Dx Go.Dx.Tab Go.Proofs.YtffgmngdgkpflaaGreat
theorem TabAt.mask {s : DS} {t m clock : Nat} {M : TRs} {nt : List ZW} {haz : List Nat} (c : TabAt s t m M clock) (h1 : hidden nt haz t = false ∧ shielded nt haz t = false) (h2 : hidden nt haz m = false ∧ shielded nt haz m = false) : TabAt (Go.Dx.mask s nt haz) t m M clock :=
 ⟨(Zg h1.1).trans c.go, Qq c.wo h1.1 h1.2, (Zg h2.1).trans c.gm, Qq c.wm h2.1 h2.2, c.ne⟩
theorem ZY.mask {s : DS} {q : Nat} {A : Int → Option TR} {nt : List ZW} {haz : List Nat} (c : ZY s q A) (h1 : hidden nt haz q = false ∧ shielded nt haz q = false) : ZY (Go.Dx.mask s nt haz) q A :=
 ⟨(Zg h1.1).trans c.gq, Qq c.wq h1.1 h1.2⟩
def CV : DCode := (.region [pv 7 16])
def Kr : DCode := (.block 1 (.seq (.block 2 (.loop (.seq (.seq (.region [pp 17 (.ld none (tm 6)), pp 18 (.bin .lss (tm 17) (.const (.int .i64 64))), pv 19 18, pg 20 (.ld none (tm 3)) 19 true, pg 21 (.ld none (tm 6)) 19 true, pg 22 (.nilck (tm 20)) 19 true, pg 23 (.fadr 0 (tm 22)) 19 true, pg 24 (.ixA 64 9 (tm 23) (tm 21)) 19 true, pg 25 (.fadr 0 (tm 24)) 19 true, pg 26 (.ld none (tm 25)) 19 true, pg 27 (.un .not (tm 26)) 19 true, pp 28 (.pick (tm 19) (tm 27) (.const (.bool false)))]) (.cond (tm 28) (.skip) (.exit 2))) (.block 3 (.region [pp 29 (.ld none (tm 6)), pp 30 (.bin .add (tm 29) (.const (.int .i64 1))), ⟨none, .st 1 (tm 6) (tm 30), none, [], false⟩]))))) (.seq (.seq (.region [pp 31 (.ld none (tm 6)), pv 32 7, pp 33 (.bin .neq (tm 31) (tm 32))]) (.cond (tm 33) (.seq (.region [⟨none, .st 1 (tm 4) (.const (.bool false)), none, [], false⟩]) (.ret)) (.skip))) (.region [pp 34 (.ld none (tm 6)), pp 35 (.bin .add (tm 34) (.const (.int .i64 1))), ⟨none, .st 1 (tm 6) (tm 35), none, [], false⟩]))))
def nxA (A : Int → Option TR) : Nat → Nat
 | 0 => 0
 | i + 1 => (((Yl A)[i]?).getD 0) + 1
theorem V7 (A : Int → Option TR) (i : Nat) : nxA A (i + 1) = (((Yl A)[i]?).getD 0) + 1 := rfl
theorem Ss {A : Int → Option TR} {i n : Nat} (hb : i ≤ (Yl A).length) (hn : n < 64) (h1 : nxA A i ≤ n) (h2 : ∀ a, (Yl A)[i]? = some a → n < a) : isAt A n = false := by
 refine PX hb hn (fun a hi ha => ?_) h2
 obtain ⟨j, rfl⟩ : ∃ j, i = j + 1 := ⟨i - 1, by omega⟩
 rw [Nat.add_sub_cancel] at ha
 rw [V7] at h1
 rw [ha] at h1
 simp only [z1] at h1
 omega
theorem LT {A : Int → Option TR} {i a : Nat} (ha : (Yl A)[i]? = some a) : nxA A i ≤ a := by
 cases i with
 | zero => exact Nat.zero_le _
 | succ j =>
  have hl := (List.getElem?_eq_some_iff.1 ha).1
  have hj : (Yl A)[j]? = some (Yl A)[j] := List.getElem?_eq_getElem (by omega)
  have := Vv hj ha (Nat.lt_succ_self j)
  rw [V7, hj]
  simp only [z1]
  omega
theorem Hy {A : Int → Option TR} {i a : Nat} (ha : (Yl A)[i]? = some a) : nxA A (i + 1) = a + 1 := by
 rw [V7, ha]
 rfl
structure LkJ (U : DS) (b0 : Nat) (tt : PT Value) (A : Int → Option TR) (ks : List Int) (i : Nat) (S : DS) : Prop where
 X : Ext [b0 + 3, b0 + 5] U S
 lp : S.get (b0 + 5) = some (.loop .ready .normal tt [16] CV Kr)
 kat : GK S (U.next + 1) ks
 gn : S.get (b0 + 3) = some (.cells (.list [.int .i64 (nxA A i : Int)]) false)
structure LkR (S0 : DS) (b0 t : Nat) (n : Nat) (y : St) : Prop where
 ex : ∃ i : Nat, n = 64 - i ∧ i ≤ 64 ∧ y.defers = [b0 + 4] ∧ (y.t.get 0 = some (.pointer (some ⟨t, 0, none⟩)) ∧ y.t.get 3 = some (.pointer (some ⟨b0, 0, none⟩)) ∧ y.t.get 4 = some (.pointer (some ⟨b0 + 1, 0, none⟩)) ∧ y.t.get 6 = some (.pointer (some ⟨b0 + 3, 0, none⟩)) ∧ y.t.get 8 = some (.int .i64 (i : Int))) ∧ Ext [] S0 y.s
theorem Rw {M : TRs} {clock : Nat} (hM : Zn M clock) (i : Nat) : VS (Go.Dx.Tab.rowOf M (i : Int)) (((Go.Dx.Tab.rowOf M (i : Int)).map (·.num)).getD 0) = [.agg ⟨((rrC (Go.Dx.Tab.rowOf M (i : Int))).drop 3)⟩, .bool (((Go.Dx.Tab.rowOf M (i : Int)).map (·.done)).getD false)] := by
 cases h : Go.Dx.Tab.rowOf M (i : Int) with
 | none => rfl
 | some x =>
  obtain ⟨b, hb⟩ := Xj h
  have hr := hM.row _ hb
  simp only at hr
  simp only [sA, VS, rrC]
  cases hd : x.done with
  | true => rfl
  | false => rw [hr.rest hd]; rfl
theorem Fi (x : Option TR) : ∃ (b : Bool) (n : Int) (w : Bool) (r : Rp), rrC x = [.bool b, .int .i64 n, .bool w, .int .i64 r.c, .int .i64 r.n, .bool r.rej, .int .i64 r.trap, .int .i64 r.v, .int .i64 r.gas] ∧ (x.map (·.num)).getD 0 = n ∧ (x.map (·.done)).getD false = w ∧ x.isSome = b := by
 cases x with
 | none => exact ⟨false, 0, false, Rp.zero, rfl, rfl, rfl, rfl⟩
 | some x => exact ⟨true, x.num, x.done, x.rep, rfl, rfl, rfl, rfl⟩
theorem VI : ∀ r : List Int, YR (u8s r) = some (r.map fun n => UInt8.ofNat n.toNat)
 | [] => rfl
 | n :: r => by
  show (match YR (u8s r) with | some l => some (UInt8.ofNat n.toNat :: l) | none => none) = _
  rw [VI r]; rfl
theorem RR (bs : List Int) : Nx .eql ⟨⟨bs.map fun n => UInt8.ofNat n.toNat⟩⟩ ⟨⟨bs.map fun n => UInt8.ofNat n.toNat⟩⟩ = some (.bool true) := by
 show some (Value.bool (Xv _ _)) = _
 rw [Xr, beq_self_eq_true]
structure LkI (Sb : DS) (b0 q a lo : Nat) (tt : PT Value) (k : Int) (n : Nat) (y : St) : Prop where
 ex : ∃ j : Nat, n = a - j ∧ lo ≤ j ∧ j ≤ a ∧ y.defers = [] ∧ (y.t.get 3 = some (.pointer (some ⟨b0, 0, none⟩)) ∧ y.t.get 6 = some (.pointer (some ⟨b0 + 3, 0, none⟩)) ∧ y.t.get 7 = some (.int .i64 k)) ∧ y.s.get (b0 + 3) = some (.cells (.list [.int .i64 (j : Int)]) false) ∧ Ext [b0 + 3] Sb y.s
section
variable {E : Env} (hT : Jx E) (hP : R9 E) {s : DS} {d : Nat} {t m clock q : Nat} {M : TRs}
include hT hP
theorem MF (hM : Zn M clock) {U S : DS} {b0 i : Nat} {k : Int} {tt : PT Value} (hlf : 1000 ≤ E.lf) (hGS : S.Good) (nU : U.next = b0 + 6) (wU : ∀ k, b0 ≤ k → U.wr k = true) (hql : q < b0)
 (gp : U.get b0 = some (.cells (.list [.pointer (some ⟨q, 0, none⟩)]) false)) (cq : ZY U q (Go.Dx.Tab.rowOf M))
 (t3 : tt.get 3 = some (.pointer (some ⟨b0, 0, none⟩))) (t6 : tt.get 6 = some (.pointer (some ⟨b0 + 3, 0, none⟩)))
 (hx : (zL M)[i]? = some k) (hj : LkJ U b0 tt (Go.Dx.Tab.rowOf M) (zL M) i S) :
 W (dcall E (d + 1) (.func (.yield (b0 + 5)) #[] #[]) [.int .i64 k] S) fun r => (r.1 = .bool true ∧ LkJ U b0 tt (Go.Dx.Tab.rowOf M) (zL M) (i + 1) r.2) ∨ (r.1 = .bool false ∧ False) := by
 obtain ⟨X, gy, hks, gn⟩ := hj
 obtain ⟨a, ha, hka⟩ : ∃ a : Nat, (Yl (Go.Dx.Tab.rowOf M))[i]? = some a ∧ (a : Int) = k := by
  rw [Wj hM, List.getElem?_map] at hx
  cases h : (Yl (Go.Dx.Tab.rowOf M))[i]? with
  | none => rw [h] at hx; cases hx
  | some a => rw [h] at hx; exact ⟨a, rfl, Option.some.inj hx⟩
 have hil : i ≤ (Yl (Go.Dx.Tab.rowOf M)).length := by have := (List.getElem?_eq_some_iff.1 ha).1; omega
 obtain ⟨ha64, hai⟩ := Da ha
 have hnle := LT ha
 have hwS : ∀ k, b0 ≤ k → S.wr k = true := fun k hk => X.wrs (wU k hk)
 have gpS := X.keep gp (by simp)
 have cqS := cq.keep X (by simp; omega)
 refine zr fun Q hQ => ?_
 refine ST gy rfl ?_
 simp only [sA, pv, CV]
 refine CD gy (hwS _ (by omega)) ?_
 obtain ⟨Sb, hSb⟩ : ∃ Sb : DS, Sb = S.upd (b0 + 5) (.loop .busy .normal tt [16] CV Kr) := ⟨_, rfl⟩
 have Xb : Ext [b0 + 5] S Sb := by rw [hSb]; exact Ext.upd (.inl (by simp))
 have gby : Sb.get (b0 + 5) = some (.loop .busy .normal tt [16] CV Kr) := by rw [hSb, DS.upd_get_self, gy]; rfl
 show WC _ _ _ Kr ⟨_, S.upd (b0 + 5) (.loop .busy .normal tt [16] CV Kr), []⟩ _
 rw [← hSb]
 clear hSb
 have bp := Xb.keep gpS (by simp)
 have bn := Xb.keep gn (by simp)
 have cb := cqS.keep Xb (by simp; omega)
 have wb : ∀ k, b0 ≤ k → Sb.wr k = true := fun k hk => Xb.wrs (hwS k hk)
 rw [← hka]
 simp only [sA, pp, pv, pg, Kr]
 refine zY (LkI Sb b0 q a (nxA (Go.Dx.Tab.rowOf M) i) tt (a : Int)) (a - nxA (Go.Dx.Tab.rowOf M) i) (by omega) ⟨nxA (Go.Dx.Tab.rowOf M) i, rfl, Nat.le_refl _, hnle, rfl, by simp only [sA, Nat.reduceEqDiff, t3, t6], bn, .refl⟩ ?_
 rintro n ⟨t1, S2, ds⟩ hn ⟨j, rfl, hlo, hj, hds, ⟨u3, u6, u7⟩, gn2, X2⟩
 simp only at hds u3 u6 u7 gn2 X2
 subst hds
 have bp2 := X2.keep bp (by simp)
 have cb2 := cb.keep X2 (by simp; omega)
 have gq2 := cb2.gq
 have e1 : (j : Int) < 64 := by omega
 have hj64 : j < 64 := by omega
 have hg := Qk (Go.Dx.Tab.rowOf M) hj64 Cd
 rw [Nat.add_zero] at hg
 have w2 : S2.wr (b0 + 3) = true := X2.wrs (wb _ (by omega))
 have w1 : zf .i64 ((j : Int) + 1) = ((j + 1 : Nat) : Int) := by rw [zi (by omega) (by omega)]; omega
 have Xn : ∀ o, Ext [b0 + 3] S2 (S2.upd (b0 + 3) o) := fun o => Ext.upd (.inl (by simp))
 by_cases hja : j < a
 · have hz := Ss hil hj64 hlo (fun a' h => by rw [ha] at h; have := Option.some.inj h; omega)
   rw [hz] at hg
   simp only [sA, zb, zl, zm, Nat.reduceEqDiff, Cells.get, getN, allOne, ze, DS.wrC, Cells.size, Cells.fillFrom, Cells.set, zk, u3, u6, u7, gn2, bp2, gq2, e1, hj64, hg, w1, w2]
   exact ⟨a - (j + 1), by omega, ⟨j + 1, rfl, by omega, by omega, rfl, by simp only [sA, Nat.reduceEqDiff, u3, u6, u7], by rw [DS.upd_get_self, gn2]; rfl, X2.trans' (Xn _)⟩⟩
 · obtain rfl : j = a := by omega
   rw [hai] at hg
   have hjj : ((j : Int) = (j : Int)) = True := eq_true rfl
   simp only [sA, zb, zl, zm, Nat.reduceEqDiff, Cells.get, getN, allOne, ze, DS.wrC, Cells.size, Cells.fillFrom, Cells.set, zk, u3, u6, u7, gn2, bp2, gq2, e1, hj64, hg, w1, w2, hjj]
   obtain ⟨S3, hS3⟩ : ∃ S3 : DS, S3 = S2.upd (b0 + 3) (.cells (.list [.int .i64 ((j + 1 : Nat) : Int)]) false) := ⟨_, rfl⟩
   have g3 : S3.get (b0 + 3) = some (.cells (.list [.int .i64 ((j + 1 : Nat) : Int)]) false) := by rw [hS3, DS.upd_get_self, gn2]; rfl
   have X3 : Ext [b0 + 3] S2 S3 := by rw [hS3]; exact Xn _
   rw [← hS3]
   clear hS3
   have gy3 := (X2.trans' X3).keep gby (by simp)
   refine Gz gy3 (X3.wrs (X2.wrs (wb _ (by omega)))) ?_
   show Q (.bool true, S3.upd (b0 + 5) (.loop .ready .normal tt [16] CV Kr))
   have X4 : Ext [b0 + 5] S3 (S3.upd (b0 + 5) (.loop .ready .normal tt [16] CV Kr)) := Ext.upd (.inl (by simp))
   refine hQ _ (.inl ⟨rfl, ⟨(((X.trans' (Xb.weaken (by simp))).trans' (X2.weaken (by simp))).trans' (X3.weaken (by simp))).trans' (X4.weaken (by simp)), ?_, fun hne => ?_, ?_⟩⟩)
   · show (DS.upd _ _ _).get _ = _
     rw [DS.upd_get_self, gy3]; rfl
   · exact X4.keep (X3.keep (X2.keep (Xb.keep (hks hne) (by simp; omega)) (by simp; omega)) (by simp; omega)) (by simp; omega)
   · rw [Hy ha]
     exact X4.keep g3 (by simp)
variable (hC : QE E) (hE : Dy E) (hF : Kw E) (hW : R7 E) (hO : Ky E)
include hC hE hF hW hO
theorem XZ (hcode : E.fn 8 = some d8) (hintr : E.intr 8 = none) (hM : Zn M clock) (c : TabAt s t m M clock) (cr : ZY s q (Go.Dx.Tab.rowOf M)) (hne1 : q ≠ t) (hne2 : q ≠ m) (hG : s.Good) :
 W (dcall E (d + 13) (.func (.func 8) #[] #[]) [.pointer (some ⟨t, 0, none⟩), .pointer (some ⟨q, 0, none⟩)] s) fun r => r.1 = .bool true ∧ Ext [] s r.2 := by
 have hlf := hC.lf
 have go := c.go
 have gm := c.gm
 have gq := cr.gq
 have htl := DS.get_lt' go
 have hml := DS.get_lt' gm
 have hql := DS.get_lt' gq
 refine zr fun Q hQ => ?_
 rw [zh hintr hcode rfl]
 obtain ⟨S1, hS1⟩ : ∃ S1 : DS, S1 = (s.new (.cells (.list [.pointer (some ⟨q, 0, none⟩)]) false)).new (.cells (.list [.bool false]) false) := ⟨_, rfl⟩
 have X1 : Ext [] s S1 := by rw [hS1]; exact Ext.new.trans' Ext.new
 have G1 := X1.good hG
 have n1 : S1.next = s.next + 2 := by rw [hS1]; rfl
 have p3 : S1.get s.next = some (.cells (.list [.pointer (some ⟨q, 0, none⟩)]) false) := by rw [hS1]; simp (maxDischargeDepth := 8) only [sM, zU, hG]
 have p4 : S1.get (s.next + 1) = some (.cells (.list [.bool false]) false) := by rw [hS1]; simp (maxDischargeDepth := 8) only [sM, zU, hG]
 have hcl := JO hT hP (d := d + 11) (t := t) G1
 rw [n1] at hcl
 simp only [sA, zJ, allOne, ze, reduceCtorEq, DS.wrC, Cells.size, Cells.fillFrom, Cells.set, pp, pv, pg, d8, ← hS1, hcl]
 clear hS1
 obtain ⟨S2, hS2⟩ : ∃ S2 : DS, S2 = ((S1.new (.cells (.list [.pointer (some ⟨t, 0, none⟩)]) false)).new (.cells (.list [.int .i64 0]) false)).upd (s.next + 3) (.cells (.list [.int .i64 0]) false) := ⟨_, rfl⟩
 have X2 : Ext [] S1 S2 := by
  rw [hS2]
  have a1 : Ext [] S1 ((S1.new (.cells (.list [.pointer (some ⟨t, 0, none⟩)]) false)).new (.cells (.list [.int .i64 0]) false)) := Ext.new.trans' Ext.new
  exact a1.trans (Ext.upd (F := [s.next + 3]) (.inl (by simp))) (by simp; omega)
 have G2 := X2.good G1
 have n2 : S2.next = s.next + 4 := by rw [hS2, DS.upd_next]; show S1.next + 2 = _; omega
 have p2 : S2.get (s.next + 2) = some (.cells (.list [.pointer (some ⟨t, 0, none⟩)]) false) := by rw [hS2]; simp (maxDischargeDepth := 8) only [sA, sM, Nat.reduceAdd, G1, n1]
 have p6 : S2.get (s.next + 3) = some (.cells (.list [.int .i64 0]) false) := by rw [hS2]; simp (maxDischargeDepth := 8) only [sA, sM, Nat.reduceAdd, G1, n1]
 simp (maxDischargeDepth := 8) only [sA, sM, Nat.reduceAdd, Nat.reduceLeDiff, zk, Nat.reduceLT, G1, n1, ← hS2]
 have c2 := (c.keep X1 (by simp) (by simp)).keep X2 (by simp) (by simp)
 have cr2 := (cr.keep X1 (by simp)).keep X2 (by simp)
 have p32 := X2.keep p3 (by simp)
 have p42 := X2.keep p4 (by simp)
 have X02 := X1.trans' X2
 clear hS2
 refine LE (by simp only [sA]; rfl) ?_
 generalize hO' : Ge _ _ _ _ = O
 obtain ⟨tt, hO2, tt0, tt3, tt4, tt6⟩ : ∃ tt, O = Ge tt [16] CV Kr ∧ tt.get 0 = some (.pointer (some ⟨t, 0, none⟩)) ∧ tt.get 3 = some (.pointer (some ⟨s.next, 0, none⟩)) ∧ tt.get 4 = some (.pointer (some ⟨s.next + 1, 0, none⟩)) ∧ tt.get 6 = some (.pointer (some ⟨s.next + 3, 0, none⟩)) := ⟨_, hO'.symm, by simp only [sA, reduceCtorEq], by simp only [sA, Nat.reduceEqDiff], by simp only [sA, Nat.reduceEqDiff], by simp only [sA, Nat.reduceEqDiff]⟩
 obtain ⟨U, hU⟩ : ∃ U : DS, U = (S2.new .dfr).new O := ⟨_, rfl⟩
 rw [← hU]
 have XU : Ext [] S2 U := by rw [hU]; exact Ext.new.trans' Ext.new
 have gy : U.get (s.next + 5) = some O := by rw [hU]; simp (maxDischargeDepth := 8) only [sM, Nat.reduceAdd, zU, G2, n2]
 have gd : U.get (s.next + 4) = some .dfr := by rw [hU]; simp (maxDischargeDepth := 8) only [sM, Nat.reduceAdd, zU, G2, n2]
 have nU : U.next = s.next + 6 := by rw [hU]; simp (maxDischargeDepth := 8) only [Nat.reduceAdd, zU, Nat.add_assoc, n2]
 clear hU
 have X0U : Ext [] s U := X02.trans' XU
 have hGU := X0U.good hG
 have wU : ∀ k, s.next ≤ k → U.wr k = true := fun k hk => X0U.wrs (hG k hk).2
 have cU := c2.keep XU (by simp) (by simp)
 have crU := cr2.keep XU (by simp)
 have g3U := XU.keep p32 (by simp)
 have g4U := XU.keep p42 (by simp)
 have g2U := XU.keep p2 (by simp)
 have g6U := XU.keep p6 (by simp)
 rw [n2]
 refine W.mono (SR hT hP (d := d + 10) (J := LkJ U s.next tt (Go.Dx.Tab.rowOf M) (zL M)) (Stop := fun _ => False) hM (by omega) hGU g2U cU.go cU.gm (fun i S hj => hj.kat) (fun i k S hx hj => ?_) (fun S X hGS hks hbig => ?_)) ?_
 · exact MF hT hP hM (by omega) (hj.X.good hGU) nU wU (by omega) g3U crU tt3 tt6 hx hj
 · exact ⟨X.weaken (by simp), by rw [X.keep gy (by simp), hO2]; rfl, hks, X.keep g6U (by simp)⟩
 rintro ⟨v4, s4⟩ (hj | hf)
 case inr => exact absurd hf id
 obtain ⟨X4, gy4, _, gn4⟩ := hj
 simp only at X4 gy4 gn4
 have hkl : (zL M).length = (Yl (Go.Dx.Tab.rowOf M)).length := by rw [Wj hM, List.length_map]
 rw [hkl] at gn4
 obtain ⟨nE, hnE⟩ : ∃ nE, nE = nxA (Go.Dx.Tab.rowOf M) (Yl (Go.Dx.Tab.rowOf M)).length := ⟨_, rfl⟩
 rw [← hnE] at gn4
 have hlast : ∀ i : Nat, i < 64 → nE ≤ i → isAt (Go.Dx.Tab.rowOf M) i = false := fun i h1 h2 => Ss (Nat.le_refl _) h1 (by rw [← hnE]; exact h2) (fun a ha => by have := (List.getElem?_eq_some_iff.1 ha).1; omega)
 have gd4 := X4.keep gd (by simp)
 have w4 : ∀ k, s.next ≤ k → s4.wr k = true := fun k hk => X4.wrs (wU k hk)
 refine CJ (gy4.trans rfl) (.inl rfl) (w4 _ (by omega)) ?_
 generalize hOE : DObj.loop .exhausted .normal _ _ _ _ = OE
 have X5 : Ext [s.next + 4 + 1] s4 (s4.upd (s.next + 4 + 1) OE) := Ext.upd (.inl (by simp))
 obtain ⟨S5, hS5⟩ : ∃ S5 : DS, S5 = s4.upd (s.next + 4 + 1) OE := ⟨_, rfl⟩
 rw [← hS5] at X5 ⊢
 clear hS5
 have hX45 : Ext [s.next + 3, s.next + 5] U S5 := X4.trans' (X5.weaken (by simp))
 have h5a : ∀ k, k ≠ s.next + 3 → k ≠ s.next + 5 → k ∉ [s.next + 3, s.next + 5] := fun k h1 h2 => by simp; omega
 have c5 := cU.keep hX45 (h5a _ (by omega) (by omega)) (h5a _ (by omega) (by omega))
 have cr5 := crU.keep hX45 (h5a _ (by omega) (by omega))
 have q3 := hX45.keep g3U (h5a _ (by omega) (by omega))
 have q4 := hX45.keep g4U (h5a _ (by omega) (by omega))
 have qd := hX45.keep gd (h5a _ (by omega) (by omega))
 have q6 := X5.keep gn4 (by simp)
 have w5 : ∀ k, s.next ≤ k → S5.wr k = true := fun k hk => X5.wrs (w4 k hk)
 have X05 : Ext [] s S5 := X0U.trans hX45 (by simp)
 have G5 := X05.good hG
 have n5 : s.next + 6 ≤ S5.next := by have := hX45.le; omega
 simp only [sA]
 refine zY (LkR S5 s.next t) 64 (by omega) ⟨0, rfl, by omega, rfl, by simp only [sA, Nat.reduceEqDiff, reduceCtorEq]; rfl, .refl⟩ ?_
 rintro n ⟨t1, S, ds⟩ hn ⟨i, rfl, hi, hds, ⟨t0, t3, t4, t6, t8⟩, X6⟩
 simp only at hds t0 t3 t4 t6 t8 X6
 subst hds
 have G6 := X6.good G5
 have c6 := c5.keep X6 (by simp) (by simp)
 have cr6 := cr5.keep X6 (by simp)
 have r3 := X6.keep q3 (by simp)
 have r4 := X6.keep q4 (by simp)
 have r6 := X6.keep q6 (by simp)
 have rd := X6.keep qd (by simp)
 have gq6 := cr6.gq
 have le6 := X6.le
 by_cases ci : i < 64
 · have e1 : (i : Int) < 64 := by omega
   have w1 : zf .i64 ((i : Int) + 1) = ((i + 1 : Nat) : Int) := by rw [zi (by omega) (by omega)]; omega
   obtain ⟨b, nn, wd, rr, hrr, hnn, hwd, hbb⟩ := Fi (Go.Dx.Tab.rowOf M (i : Int))
   have h0 := Qk (Go.Dx.Tab.rowOf M) ci (j := 0) (by rw [hrr]; rfl)
   have h1 := Qk (Go.Dx.Tab.rowOf M) ci (j := 1) (by rw [hrr]; rfl)
   have h2 := Qk (Go.Dx.Tab.rowOf M) ci (j := 2) (by rw [hrr]; rfl)
   rw [Nat.add_zero] at h0
   have htk := KG (Go.Dx.Tab.rowOf M) ci (j := 3) (n := 6) (by omega)
   rw [hrr] at htk
   have hrep := Rw hM i
   rw [hnn, hrr, hwd] at hrep
   simp only [List.drop_succ_cons, List.drop_zero] at hrep
   simp only [sA, zb, zl, zm, Nat.reduceEqDiff, Cells.get, getN, reduceCtorEq, t0, t3, t4, t6, t8, e1, r3, gq6, ci, h1]
   refine W.mono (Fe hT (d := d + 10) c6 G6 (i : Int) nn) ?_
   rintro ⟨v7, S7⟩ ⟨h7, X7⟩
   simp only at h7 X7
   rw [hrep] at h7
   subst h7
   have G7 := X7.good G6
   obtain ⟨S8, hS8⟩ : ∃ S8 : DS, S8 = (S7.new (.cells (.list [.int .i64 0, .int .i64 0, .bool false, .int .i64 0, .int .i64 0, .int .i64 0]) false)).upd S7.next (.cells (.list [.int .i64 rr.c, .int .i64 rr.n, .bool rr.rej, .int .i64 rr.trap, .int .i64 rr.v, .int .i64 rr.gas]) false) := ⟨_, rfl⟩
   have X8 : Ext [] S7 S8 := by
    rw [hS8]
    exact (Ext.new (F := [])).trans (Ext.upd (F := [S7.next]) (.inl (by simp))) (by simp)
   have g8 : S8.get S7.next = some (.cells (.list [.int .i64 rr.c, .int .i64 rr.n, .bool rr.rej, .int .i64 rr.trap, .int .i64 rr.v, .int .i64 rr.gas]) false) := by rw [hS8, DS.upd_get_self, DS.new_get_self G7]; rfl
   have X68 := X7.trans' X8
   have r38 := X68.keep r3 (by simp)
   have r68 := X68.keep r6 (by simp)
   have gq8 := X68.keep gq6 (by simp)
   have G8 := X8.good G7
   have le7 := X7.le
   have hgeq : ((nE : Int) ≤ (i : Int)) = (nE ≤ i) := propext (by omega)
   have c8 := c6.keep X68 (by simp) (by simp)
   have cr8 := cr6.keep X68 (by simp)
   have lS7 := DS.get_lt' g8
   have hoo1 : YJ 5000 (.one .bool) (.bool wd) (.bool wd) = some true := by simp [YJ, zJ]
   have hoo2 : YJ 5000 (.struct [(0, 1, .one .int), (1, 1, .one .int), (2, 1, .one .bool), (3, 1, .one .int), (4, 1, .one .int), (5, 1, .one .int)]) (.agg ⟨[.int .i64 rr.c, .int .i64 rr.n, .bool rr.rej, .int .i64 rr.trap, .int .i64 rr.v, .int .i64 rr.gas]⟩) (.agg ⟨[.int .i64 rr.c, .int .i64 rr.n, .bool rr.rej, .int .i64 rr.trap, .int .i64 rr.v, .int .i64 rr.gas]⟩) = some true := by
    simp [YJ, Yp, zJ, getN]
   have hnn' : (nn = nn) = True := eq_true rfl
   by_cases hge : nE ≤ i
   · have hb0 : b = false := by rw [← hbb]; exact hlast i ci hge
     subst hb0
     have hge' : ((nE : Int) ≤ (i : Int)) = True := eq_true (by omega)
     simp (maxDischargeDepth := 8) only [sA, sM, zb, zl, zm, Cells.get, getN, Nat.reduceAdd, allOne, ze, DS.wrC, Cells.size, Cells.fillFrom, Cells.set, zk, foot, Nat.reduceLT, t0, t3, t4, t6, t8, G7, ← hS8, r38, r68, hge', gq8, h0, h1, ci]
     refine W.masked (hE.fr _) (VJ hT (d := d + 10) (c8.mask ⟨by (simp only [hidden, shielded, noteAt, zx, Bool.or_false, Bool.or_eq_false_iff, Bool.and_eq_false_iff, zD, zM, zH, true_and, and_true, true_or, or_true] <;> omega), by (simp only [hidden, shielded, noteAt, zx, Bool.or_false, Bool.or_eq_false_iff, Bool.and_eq_false_iff, zD, zM, zH, true_and, and_true, true_or, or_true] <;> omega)⟩ ⟨by (simp only [hidden, shielded, noteAt, zx, Bool.or_false, Bool.or_eq_false_iff, Bool.and_eq_false_iff, zD, zM, zH, true_and, and_true, true_or, or_true] <;> omega), by (simp only [hidden, shielded, noteAt, zx, Bool.or_false, Bool.or_eq_false_iff, Bool.and_eq_false_iff, zD, zM, zH, true_and, and_true, true_or, or_true] <;> omega)⟩) (Zq G8 fun k hk => ⟨by (simp only [hidden, shielded, noteAt, zx, Bool.or_false, Bool.or_eq_false_iff, Bool.and_eq_false_iff, zD, zM, zH, true_and, and_true, true_or, or_true] <;> omega), by (simp only [hidden, shielded, noteAt, zx, Bool.or_false, Bool.or_eq_false_iff, Bool.and_eq_false_iff, zD, zM, zH, true_and, and_true, true_or, or_true] <;> omega)⟩) (i : Int)) ?_
     rintro v9 s9 ⟨h9, X9⟩ df
     simp only at h9 X9
     rw [hnn] at h9
     subst h9
     have X9' := Ext.unmask' X9 df
     obtain ⟨S9, hS9⟩ : ∃ S9 : DS, S9 = unmask S8 s9 := ⟨_, rfl⟩
     have n9 : s9.next = S9.next := by rw [hS9]; rfl
     rw [← hS9] at X9'
     have r39 := X9'.keep r38 (by simp)
     have gq9 := X9'.keep gq8 (by simp)
     have g9 := X9'.keep g8 (by simp)
     have hl1 : ldA 6 (.pointer (some ⟨S7.next, 0, none⟩)) S9 = some (.agg ⟨[.int .i64 rr.c, .int .i64 rr.n, .bool rr.rej, .int .i64 rr.trap, .int .i64 rr.v, .int .i64 rr.gas]⟩) := by
      simp only [ldA, DS.read, g9]
      rfl
     have hl2 : ldA 6 (.pointer (some ⟨q, i * 9 + 3, none⟩)) S9 = some (.agg ⟨[.int .i64 rr.c, .int .i64 rr.n, .bool rr.rej, .int .i64 rr.trap, .int .i64 rr.v, .int .i64 rr.gas]⟩) := by
      simp only [ldA, DS.read, gq9]
      rw [htk]
      rfl
     simp (maxDischargeDepth := 8) only [sA, sM, zb, zl, zm, Cells.get, getN, foot, Nat.reduceLT, t0, t3, t4, t6, t8, ← hS9, n9, hnn', r39, gq9, h2, ci, N6, hoo1, hoo2, hl1, hl2, w1]
     exact ⟨64 - (i + 1), by omega, ⟨i + 1, rfl, by omega, rfl, by simp only [sA, Nat.reduceEqDiff, reduceCtorEq, t0, t3, t4, t6, t8], X6.trans' (X68.trans' X9')⟩⟩
   · have hge' : ((nE : Int) ≤ (i : Int)) = False := eq_false (by omega)
     simp (maxDischargeDepth := 8) only [sA, sM, zb, zl, zm, Cells.get, getN, Nat.reduceAdd, allOne, ze, DS.wrC, Cells.size, Cells.fillFrom, Cells.set, zk, foot, Nat.reduceLT, t0, t3, t4, t6, t8, G7, ← hS8, r38, r68, hge', gq8, h0, h1, ci]
     refine W.masked (hE.fr _) (VJ hT (d := d + 10) (c8.mask ⟨by (simp only [hidden, shielded, noteAt, zx, Bool.or_false, Bool.or_eq_false_iff, Bool.and_eq_false_iff, zD, zM, zH, true_and, and_true, true_or, or_true] <;> omega), by (simp only [hidden, shielded, noteAt, zx, Bool.or_false, Bool.or_eq_false_iff, Bool.and_eq_false_iff, zD, zM, zH, true_and, and_true, true_or, or_true] <;> omega)⟩ ⟨by (simp only [hidden, shielded, noteAt, zx, Bool.or_false, Bool.or_eq_false_iff, Bool.and_eq_false_iff, zD, zM, zH, true_and, and_true, true_or, or_true] <;> omega), by (simp only [hidden, shielded, noteAt, zx, Bool.or_false, Bool.or_eq_false_iff, Bool.and_eq_false_iff, zD, zM, zH, true_and, and_true, true_or, or_true] <;> omega)⟩) (Zq G8 fun k hk => ⟨by (simp only [hidden, shielded, noteAt, zx, Bool.or_false, Bool.or_eq_false_iff, Bool.and_eq_false_iff, zD, zM, zH, true_and, and_true, true_or, or_true] <;> omega), by (simp only [hidden, shielded, noteAt, zx, Bool.or_false, Bool.or_eq_false_iff, Bool.and_eq_false_iff, zD, zM, zH, true_and, and_true, true_or, or_true] <;> omega)⟩) (i : Int)) ?_
     rintro v9 s9 ⟨h9, X9⟩ df
     simp only at h9 X9
     rw [hnn] at h9
     subst h9
     have X9' := Ext.unmask' X9 df
     obtain ⟨S9, hS9⟩ : ∃ S9 : DS, S9 = unmask S8 s9 := ⟨_, rfl⟩
     have n9 : s9.next = S9.next := by rw [hS9]; rfl
     rw [← hS9] at X9'
     have r39 := X9'.keep r38 (by simp)
     have gq9 := X9'.keep gq8 (by simp)
     have g9 := X9'.keep g8 (by simp)
     have hl1 : ldA 6 (.pointer (some ⟨S7.next, 0, none⟩)) S9 = some (.agg ⟨[.int .i64 rr.c, .int .i64 rr.n, .bool rr.rej, .int .i64 rr.trap, .int .i64 rr.v, .int .i64 rr.gas]⟩) := by
      simp only [ldA, DS.read, g9]
      rfl
     have hl2 : ldA 6 (.pointer (some ⟨q, i * 9 + 3, none⟩)) S9 = some (.agg ⟨[.int .i64 rr.c, .int .i64 rr.n, .bool rr.rej, .int .i64 rr.trap, .int .i64 rr.v, .int .i64 rr.gas]⟩) := by
      simp only [ldA, DS.read, gq9]
      rw [htk]
      rfl
     simp (maxDischargeDepth := 8) only [sA, sM, zb, zl, zm, Cells.get, getN, foot, Nat.reduceLT, t0, t3, t4, t6, t8, ← hS9, n9, hnn', r39, gq9, h2, ci, N6, hoo1, hoo2, hl1, hl2, w1]
     exact ⟨64 - (i + 1), by omega, ⟨i + 1, rfl, by omega, rfl, by simp only [sA, Nat.reduceEqDiff, reduceCtorEq, t0, t3, t4, t6, t8], X6.trans' (X68.trans' X9')⟩⟩
 · obtain rfl : i = 64 := by omega
   have e1 : ¬ (((64 : Nat) : Int) < 64) := by omega
   simp only [sA, zl, zm, Nat.reduceEqDiff, Cells.get, getN, reduceCtorEq, foot, t0, t3, t4, t6, t8, e1, r3]
   refine W.masked (hE.fr _) (Jf hC hT hE hF hW hP (d := d) hM (c6.mask ⟨by (simp only [hidden, shielded, noteAt, zx, Bool.or_false, Bool.or_eq_false_iff, Bool.and_eq_false_iff, zD, zM, zH, true_and, and_true, true_or, or_true] <;> omega), by (simp only [hidden, shielded, noteAt, zx, Bool.or_false, Bool.or_eq_false_iff, Bool.and_eq_false_iff, zD, zM, zH, true_and, and_true, true_or, or_true] <;> omega)⟩ ⟨by (simp only [hidden, shielded, noteAt, zx, Bool.or_false, Bool.or_eq_false_iff, Bool.and_eq_false_iff, zD, zM, zH, true_and, and_true, true_or, or_true] <;> omega), by (simp only [hidden, shielded, noteAt, zx, Bool.or_false, Bool.or_eq_false_iff, Bool.and_eq_false_iff, zD, zM, zH, true_and, and_true, true_or, or_true] <;> omega)⟩) (Zq G6 fun k hk => ⟨by (simp only [hidden, shielded, noteAt, zx, Bool.or_false, Bool.or_eq_false_iff, Bool.and_eq_false_iff, zD, zM, zH, true_and, and_true, true_or, or_true] <;> omega), by (simp only [hidden, shielded, noteAt, zx, Bool.or_false, Bool.or_eq_false_iff, Bool.and_eq_false_iff, zD, zM, zH, true_and, and_true, true_or, or_true] <;> omega)⟩)) ?_
   rintro v7 s7 ⟨h7, hsh7, hb7, X7⟩ df
   simp only at h7 hsh7 hb7 X7
   have X7' := Ext.unmask' X7 df
   obtain ⟨S7, hS7⟩ : ∃ S7 : DS, S7 = unmask S s7 := ⟨_, rfl⟩
   have n7 : s7.next = S7.next := by rw [hS7]; rfl
   rw [← hS7] at X7'
   obtain ⟨bs, hbs⟩ : ∃ bs, bs = Yk (Go.Dx.Tab.rowOf M) := ⟨_, rfl⟩
   have hne : bs ≠ [] := fun h => by
    have h1 : (Yk (Go.Dx.Tab.rowOf M)).length = 0 := by rw [← hbs, h]; rfl
    unfold Yk JL at h1
    rw [List.length_append, zB] at h1
    omega
   rw [← hbs] at h7 hsh7
   have htb := VI bs
   have hTE := RR bs
   rcases SlR.of h7 hsh7 with ⟨_, h0⟩ | ⟨b8, o8, sp8, cc8, rfl, _, _, hrd8⟩
   · exact absurd h0 hne
   have hb8 := hb7 b8 (by simp [blk])
   have hb8l : S.next ≤ b8 := hb8.1
   have hrd9 : S7.read b8 o8 bs.length = some (u8s bs) := by
    rw [hS7]
    unfold DS.read at hrd8 ⊢
    rw [Yn (by (simp only [hidden, shielded, noteAt, zx, Bool.or_false, Bool.or_eq_false_iff, Bool.and_eq_false_iff, zD, zM, zH, true_and, and_true, true_or, or_true] <;> omega)) X7]
    exact hrd8
   simp (maxDischargeDepth := 8) only [sA, sM, zo, foot, Nat.reduceLT, ← hS7, n7, hrd9, htb]
   have G7 := X7'.good G6
   have c7 := c6.keep X7' (by simp) (by simp)
   have cr7 := cr6.keep X7' (by simp)
   have le7 := X7'.le
   have hA : ∀ (i : Nat) (x : TR), Go.Dx.Tab.rowOf M (i : Int) = some x → Kx x ∧ x.key = (i : Int) := fun i x h => by
    obtain ⟨b, hb⟩ := Xj h
    exact ⟨hM.row _ hb, Yy h⟩
   refine W.masked (hE.fr _) (Fh hO (d := d + 5) (cr7.mask ⟨by (simp only [hidden, shielded, noteAt, zx, Bool.or_false, Bool.or_eq_false_iff, Bool.and_eq_false_iff, zD, zM, zH, true_and, and_true, true_or, or_true] <;> omega), by (simp only [hidden, shielded, noteAt, zx, Bool.or_false, Bool.or_eq_false_iff, Bool.and_eq_false_iff, zD, zM, zH, true_and, and_true, true_or, or_true] <;> omega)⟩) hA (Zq G7 fun k hk => ⟨?_, by (simp only [hidden, shielded, noteAt, zx, Bool.or_false, Bool.or_eq_false_iff, Bool.and_eq_false_iff, zD, zM, zH, true_and, and_true, true_or, or_true] <;> omega)⟩)) ?_
   · have hk : S7.next ≤ k := hk
     have : b8 < S7.next := by rw [← n7]; exact hb8.2
     (simp only [hidden, shielded, noteAt, zx, Bool.or_false, Bool.or_eq_false_iff, Bool.and_eq_false_iff, zD, zM, zH, true_and, and_true, true_or, or_true] <;> omega)
   rintro v9 s9 ⟨h9, X9, hb9⟩ df9
   simp only at h9 X9 hb9
   rw [← hbs] at h9
   have X9' := Ext.unmask' X9 df9
   obtain ⟨S9, hS9⟩ : ∃ S9 : DS, S9 = unmask S7 s9 := ⟨_, rfl⟩
   have n9 : s9.next = S9.next := by rw [hS9]; rfl
   rw [← hS9] at X9'
   rcases SlX.toR' h9 with ⟨_, h0⟩ | ⟨b10, o10, sp10, cc10, rfl, _, _, hrd10⟩
   · exact absurd h0 hne
   have hb10 := hb9 b10 (by simp [blk])
   have hb10l : S7.next ≤ b10 := hb10
   have hb8u : b8 < S7.next := by rw [← n7]; exact hb8.2
   have hrd11 : S9.read b10 o10 bs.length = some (u8s bs) := by
    rw [hS9]
    unfold DS.read at hrd10 ⊢
    rw [Yn (by (simp only [hidden, shielded, noteAt, zx, Bool.or_false, Bool.or_eq_false_iff, Bool.and_eq_false_iff, zD, zM, zH, true_and, and_true, true_or, or_true] <;> omega)) X9]
    exact hrd10
   have r49 := X9'.keep (X7'.keep r4 (by simp)) (by simp)
   have rd9 := X9'.keep (X7'.keep rd (by simp)) (by simp)
   have w9 : ∀ j, s.next ≤ j → S9.wr j = true := fun j hj => X9'.wrs (X7'.wrs (X6.wrs (w5 j hj)))
   simp (maxDischargeDepth := 8) only [sA, zl, zo, allOne, ze, DS.wrC, Cells.size, Cells.fillFrom, Cells.set, zk, foot, WF, Nat.reduceLT, ← hS9, n9, hrd11, htb, hTE, t4, r49, w9 (s.next + 1) (Nat.le_succ _)]
   rw [FU (by rw [DS.upd_get_ne (by omega)]; exact rd9) (by rw [DS.upd_wr]; exact w9 _ (by omega))]
   have m4 : ((S9.upd (s.next + 1) (.cells (.list [.bool true]) false)).rid (s.next + 4)).get (s.next + 1) = some (.cells (.list [.bool true]) false) := by
    rw [DS.rid_get_ne (by omega), DS.upd_get_self, r49]; rfl
   simp only [sA, zo, Nat.reduceEqDiff, za, zd, Cells.get, getN, t4, m4]
   refine hQ _ ⟨rfl, ?_⟩
   have y1 : Ext [s.next + 1, s.next + 4] S9 (S9.upd (s.next + 1) (.cells (.list [.bool true]) false)) := Ext.upd (.inl (by simp))
   have y2 : Ext [s.next + 1, s.next + 4] (S9.upd (s.next + 1) (.cells (.list [.bool true]) false)) ((S9.upd (s.next + 1) (.cells (.list [.bool true]) false)).rid (s.next + 4)) := Ext.rid (.inl (by simp))
   exact ((((X05.trans' X6).trans' X7').trans' X9')).trans (y1.trans' y2) (by simp)
end
end Go.Dx.TbA
