/- A part. -/
import Derived.Test.YthmgnfeljhdioaaGreatP1Ha
import Derived.Test.YthmgnfeljhdioaaGreatDxFw
import Derived.Test.YthmgnfeljhdioaaGreatDxF
import Derived.Test.YthmgnfeljhdioaaGreatDxTopM
set_option linter.unusedVariables false
set_option linter.unusedSimpArgs false
set_option linter.unusedSectionVars false
set_option maxRecDepth 100000
set_option maxHeartbeats 4000000
namespace Go.Dx.TbA
open Go Go.Dx Go.Dx.Tab Go.Dx.St Go.Proofs.YthmgnfeljhdioaaGreat
theorem RK {n : Int} (h1 : -9223372036854775808 ≤ n) (h2 : n ≤ 9223372036854775807) : I64 n := by
 unfold I64
 omega
theorem XY {size : Nat} (hs : size < 8) {x most : Int} {rest : List Int} (h0 : 0 ≤ x) (h1 : x ≤ most) (h2 : most < ((256 ^ size : Nat) : Int)) (h3 : most ≤ 4611686018427387904) : rdN size most (leB x size ++ rest, false) = (x, (rest, false)) := by
 obtain ⟨n, rfl⟩ := Int.eq_ofNat_of_zero_le h0
 have hl : low .u64 ((n : Nat) : Int) = n := by show n % 18446744073709551616 = n; omega
 have hn : n < 256 ^ size := by omega
 have hv : leV (leB ((n : Nat) : Int) size) = ((n : Nat) : Int) := by rw [J3, hl, Nat.mod_eq_of_lt hn]
 unfold rdN
 rw [V1 (zB _ size)]
 simp only [z3, if_false]
 rw [hv, if_neg (by omega), zW (by omega) (by omega)]
theorem P5 (b : Bool) (rest : List Int) : rdF (Qk b ++ rest, false) = (b, (rest, false)) := by
 unfold rdF Qk
 cases b with
 | false => rw [show Cq false = 0 from rfl, XY (size := 1) (by omega) (by omega) (by omega) (by decide) (by decide)]; rfl
 | true => rw [show Cq true = 1 from rfl, XY (size := 1) (by omega) (by omega) (by omega) (by decide) (by decide)]; rfl
theorem P6 {l : List Int} (rest : List Int) (hl : l.length ≤ 65536) : rdB ((leB (l.length : Int) 4 ++ l) ++ rest, false) = (l, (rest, false)) := by
 unfold rdB
 rw [List.append_assoc, XY (size := 4) (by omega) (by omega) (by omega) (by decide) (by decide)]
 show tk ((l.length : Int)).toNat (l ++ rest, false) = _
 rw [Int.toNat_natCast]
 exact V1 rfl
theorem Y5 {α β : Type} {f : RS → α × RS} {g : RS → β × RS} {x : α} {y : β} {a b rest : List Int} (h1 : ∀ r, f (a ++ r, false) = (x, (r, false))) (h2 : ∀ r, g (b ++ r, false) = (y, (r, false))) : rdP f g ((a ++ b) ++ rest, false) = ((x, y), (rest, false)) := by
 unfold rdP
 rw [List.append_assoc, h1]
 simp only
 rw [h2]
structure Dq (x : Yn) : Prop where
 ci : I64 x.1.1
 ni : I64 x.1.2
 mb : IsB x.2.1
 ai : ∀ a, a ∈ x.2.2.1 → I64 a
 gi : I64 x.2.2.2
theorem CL {x : Yn} (hm : XT x) (hx : Dq x) (rest : List Int) : rdQ (YE x ++ rest, false) = (x, (rest, false)) := by
 obtain ⟨⟨h1, h2, h3, h4⟩, h5, h6, h7, h8⟩ := hm
 exact Y5 (fun r => Y5 (fun r => XY (size := 1) (by omega) h1 (by omega) (by decide) (by decide)) fun r => W5 hx.ni) fun r => Y5 (fun r => P6 r (by omega)) fun r => Y5 (fun r => P3 (by omega) fun a ha q => W5 (hx.ai a ha)) fun r => W5 hx.gi
theorem M4 {x : Yn} (hm : XT x) (hx : Dq x) : WB (YE x) ∧ Mi (YE x) = x := by
 have h := CL hm hx []
 rw [List.append_nil] at h
 have hg : WB (YE x) := by
  unfold WB Ds
  rw [h]
  exact ⟨⟨rfl, rfl⟩, hm⟩
 refine ⟨hg, ?_⟩
 unfold Mi
 rw [if_pos hg, h]
theorem Db : ∀ l : List Int, IsB (Xv (fun a => leB a 8) l)
 | [] => fun b hb => (nomatch hb)
 | a :: l => fun b hb => by
  unfold Xv at hb
  rw [List.flatMap_cons] at hb
  rcases List.mem_append.1 hb with hb | hb
  · exact Wo _ _ b hb
  · exact Db l b hb
theorem R8 {x : Yn} (hx : Dq x) : IsB (YE x) := fun b hb => by
 unfold YE FU at hb
 rcases List.mem_append.1 hb with hb | hb
 · rcases List.mem_append.1 hb with hb | hb
   · exact Wo _ _ b hb
   · exact Wo _ _ b hb
 · rcases List.mem_append.1 hb with hb | hb
   · rcases List.mem_append.1 hb with hb | hb
     · exact Wo _ _ b hb
     · exact hx.mb b hb
   · rcases List.mem_append.1 hb with hb | hb
     · rcases List.mem_append.1 hb with hb | hb
       · exact Wo _ _ b hb
       · exact Db _ b hb
     · exact Wo _ _ b hb
theorem NK (x : Yn) : YE x ≠ [] := fun h => by
 have h1 : (YE x).length = 0 := by rw [h]; rfl
 unfold YE at h1
 simp only [List.length_append, zB] at h1
 omega
end Go.Dx.TbA
namespace Go.Dx.TbA
open Go Go.Dx Go.Dx.Tab Go.Proofs.YthmgnfeljhdioaaGreat
section
variable {E : Env} (hC : Ja E) (hT : GD E) (hE : PM E) {s s' : DS} {d : Nat} {t m clock : Nat} {M : TRs}
include hT hC hE
def encR (r : Rp) : List Int := JK (((r.c, r.n), r.rej), (r.trap, (r.v, r.gas)))
theorem D8 (hG : s.Good) (r : Rp) (hmay : ZE r) : W (dcall E (d + 9) (.func (.func 8) #[] #[]) [.agg ⟨r.cells⟩] s) fun x => ∃ w, x.1 = .tuple ⟨[w, .int .i64 0]⟩ ∧ SlV x.2 1 w (zI (encR r)) ∧ (∃ a, w = .slice a (encR r).length (encR r).length ∧ ∀ z, a = some z → z.spot = none) ∧ (∀ k, k ∈ blk w → s.next ≤ k ∧ k < x.2.next) ∧ Ext [] s x.2 := by
 refine zp fun Q hQ => ?_
 rw [zj hE.iRep hE.fRep rfl]
 simp (maxDischargeDepth := 8) only [sA, sM, Cells.get, getN, pp, ldA, DS.read, Cells.take, Nat.reduceLT, d8, hG, Rp.cells]
 obtain ⟨S0, hS0⟩ : ∃ S0 : DS, S0 = s.new (.cells (.list [.int .i64 r.c, .int .i64 r.n, .bool r.rej, .int .i64 r.trap, .int .i64 r.v, .int .i64 r.gas]) false) := ⟨_, rfl⟩
 rw [← hS0]
 have X0 : Ext [] s S0 := by rw [hS0]; exact Ext.new
 have hG0 := X0.good hG
 have g0 : S0.get s.next = some (.cells (.list [.int .i64 r.c, .int .i64 r.n, .bool r.rej, .int .i64 r.trap, .int .i64 r.v, .int .i64 r.gas]) false) := by rw [hS0]; simp (maxDischargeDepth := 8) only [ZD, hG]
 clear hS0
 refine W.mono (Gg hT (d := d + 5) hG0 r) ?_
 rintro ⟨v1, s1⟩ ⟨h1, X1⟩
 simp only at h1 X1
 subst h1
 have X01 := X0.trans' X1
 have hG1 := X01.good hG
 have g1 := X1.keep g0 (by simp)
 have hl1 : s.next < s1.next := DS.get_lt' g1
 rw [decide_eq_true hmay]
 have hb1 : Nat.ble (s1.next + 1) s1.next = false := by rw [Zk]; omega
 have hb2 : Nat.beq s.next s1.next = false := by rw [Zs]; omega
 have hb3 : Nat.ble (s1.next + 1) s.next = false := by rw [Zk]; omega
 simp (maxDischargeDepth := 8) only [sA, sM, zb, Cells.get, getN, Nat.reduceAdd, zh, zg, Nat.reduceLeDiff, DS.wrC, Cells.size, Cells.fillFrom, Cells.set, zA, zi, ldA, foot, hidden, noteAt, DS.read, Cells.take, Nat.reduceLT, hG1, g1, hl1, Fo, Jr, shielded, zO, hb1, hb2, hb3]
 obtain ⟨S3, hS3⟩ : ∃ S3 : DS, S3 = ((((((s1.new (.cells (.list [.int .i64 0, .int .i64 0, .bool false, .int .i64 0, .int .i64 0, .int .i64 0]) false)).upd s1.next (.cells (.list [.int .i64 0, .int .i64 0, .bool false, .int .i64 0, .int .i64 0, .int .i64 0]) false)).upd s1.next (.cells (.list [.int .i64 r.c, .int .i64 r.n, .bool false, .int .i64 0, .int .i64 0, .int .i64 0]) false)).upd s1.next (.cells (.list [.int .i64 r.c, .int .i64 r.n, .bool r.rej, .int .i64 0, .int .i64 0, .int .i64 0]) false)).upd s1.next (.cells (.list [.int .i64 r.c, .int .i64 r.n, .bool r.rej, .int .i64 r.trap, .int .i64 0, .int .i64 0]) false)).upd s1.next (.cells (.list [.int .i64 r.c, .int .i64 r.n, .bool r.rej, .int .i64 r.trap, .int .i64 r.v, .int .i64 r.gas]) false)) := ⟨_, rfl⟩
 rw [← hS3]
 have X3 : Ext [] s1 S3 := by
  rw [hS3]
  have y : ∀ (S : DS) o, Ext [s1.next] S (S.upd s1.next o) := fun S o => Ext.upd (.inl (by simp))
  exact (Ext.new (F := [])).trans ((y _ _).trans' ((y _ _).trans' ((y _ _).trans' ((y _ _).trans' (y _ _))))) (by simp)
 have hG3 := X3.good hG1
 have n3 : S3.next = s1.next + 1 := by rw [hS3]; simp (maxDischargeDepth := 8) only [sA]
 clear hS3
 have hhid : ∀ k, hidden [⟨[s1.next], s1.next + 1, s1.next + 1⟩] [0] k = false := fun k => by (simp only [hidden, shielded, noteAt, zO, Bool.or_false, Bool.or_eq_false_iff, Bool.and_eq_false_iff, Zk, Zv, Zs, true_and, and_true, true_or, or_true] <;> omega)
 refine W.masked (hE.fr _) (Nu hC hT hE (d := d + 5) (Yb hG3 fun k hk => ⟨hhid k, ?_⟩)) ?_
 · have : ¬ k = s1.next := by omega
   (simp only [hidden, shielded, noteAt, zO, Bool.or_false, Bool.or_eq_false_iff, Bool.and_eq_false_iff, Zk, Zv, Zs, true_and, and_true, true_or, or_true] <;> omega)
 rintro v4 s4 ⟨h4, X4⟩ df
 simp only at h4 X4
 have X4' := Ext.unmask' X4 df
 obtain ⟨S4, hS4⟩ : ∃ S4 : DS, S4 = Zi S3 s4 := ⟨_, rfl⟩
 have n4 : s4.next = S4.next := by rw [hS4]; rfl
 have h4' : zz E 6 S3.next S4 v4 CH MQ JK := by
  rw [hS4]
  obtain ⟨f, a, b, g, a', b', D, e1, e2, e3, e4⟩ := h4
  exact ⟨f, a, b, g, a', b', D, e1, fun p hp => (Js hhid X4).trans (e2 p hp), fun p hp => e3 p hp, e4⟩
 rw [← hS4] at X4'
 have hG4 := X4'.good hG3
 simp only [sA, Nat.reduceEqDiff, foot, ← hS4, n4]
 have hrep : CH S4.next S4 (.agg ⟨[.int .i64 r.c, .int .i64 r.n, .bool r.rej, .int .i64 r.trap, .int .i64 r.v, .int .i64 r.gas]⟩) (((r.c, r.n), r.rej), (r.trap, (r.v, r.gas))) :=
  ⟨.agg ⟨[.int .i64 r.c, .int .i64 r.n, .bool r.rej]⟩, .agg ⟨[.int .i64 r.trap, .int .i64 r.v, .int .i64 r.gas]⟩, rfl, ⟨.agg ⟨[.int .i64 r.c, .int .i64 r.n]⟩, .bool r.rej, rfl, ⟨.int .i64 r.c, .int .i64 r.n, rfl, rfl, rfl⟩, rfl⟩, ⟨.int .i64 r.trap, .agg ⟨[.int .i64 r.v, .int .i64 r.gas]⟩, rfl, rfl, ⟨.int .i64 r.v, .int .i64 r.gas, rfl, rfl, rfl⟩⟩⟩
 obtain ⟨_, ⟨w1, w2, w3, w4⟩, w5, w6, w7, w8⟩ := hmay
 have hok : MQ (((r.c, r.n), r.rej), (r.trap, (r.v, r.gas))) := ⟨⟨⟨.inr ⟨w1, by show r.c ≤ 255; omega⟩, .inl rfl⟩, trivial⟩, .inr ⟨w5, by show r.trap ≤ 255; omega⟩, .inl rfl, .inl rfl⟩
 have hlen : (JK (((r.c, r.n), r.rej), (r.trap, (r.v, r.gas)))).length ≤ 1048576 := by
  simp only [JK, Qk, List.length_append, zB]
  omega
 refine W.mono (FS hC (d := d) hG4 h4' hrep SX hok hlen rfl hE.fEnc hE.iEnc hE.fclip hE.iclip) ?_
 rintro ⟨v5, s5⟩ ⟨w, h5, h6, h7, h8, X5⟩
 simp only at h5 h6 h8 X5
 subst h5
 simp only [sA, zb, Nat.reduceEqDiff, za, ze, getN, foot]
 have Y := X01.trans' (X3.trans' X4')
 exact hQ _ ⟨w, rfl, h6, h7, fun k hk => ⟨by have := (h8 k hk).1; have := Y.le; omega, (h8 k hk).2⟩, Y.trans' X5⟩
end
structure Ql (s : DS) (o : Nat) (bv : Value) (bs : List Int) : Prop where
 go : s.get o = some (.cells (.list [bv, .bool false, .bool false]) false)
 wo : s.wr o = true
 sl : SlX s 1 bv (zI bs)
 ne : o ∉ blk bv
structure GE (E : Env) : Prop where
 fput : E.fn 43 = some d43
 iput : E.intr 43 = none
 flow : E.fn 66 = some d66
 ilow : E.intr 66 = none
 fcount : E.fn 65 = some d65
 icount : E.intr 65 = none
 fmany : E.fn 36 = some d36
 imany : E.intr 36 = none
 fint : E.fn 34 = some d34
 iint : E.intr 34 = none
 fbyte : E.fn 33 = some d33
 ibyte : E.intr 33 = none
 fflag : E.fn 38 = some d38
 iflag : E.intr 38 = none
 fblob : E.fn 35 = some d35
 iblob : E.intr 35 = none
 fenc : E.fn 16 = some d16
 ienc : E.intr 16 = none
 lf : 10000 ≤ E.lf
def WF (s : DS) (o : Nat) (cs : List Int) (r : Value × DS) : Prop := r.1 = .tuple #[] ∧ ∃ bv', Ql r.2 o bv' cs ∧ Ext [o] s r.2 ∧ ∀ k, k ∈ blk bv' → s.next ≤ k
theorem Ql.keep {s s' : DS} {o : Nat} {bv : Value} {bs : List Int} {F : List Nat} (h : Ql s o bv bs) (X : Ext F s s') (h1 : o ∉ F) (h2 : ∀ k, k ∈ blk bv → k ∉ F) : Ql s' o bv bs :=
 ⟨X.keep h.go h1, X.wrs h.wo, h.sl.keep X h2, h.ne⟩
structure M8 (S : DS) (o : Nat) (x : Int) (size : Nat) (n : Nat) (y : St) : Prop where
 ex : ∃ (j : Nat) (w : Value), n = size - j ∧ j ≤ size ∧ y.defers = [] ∧ (y.t.get 0 = some (.pointer (some ⟨o, 0, none⟩)) ∧ y.t.get 1 = some (.int .u64 (zt .u64 x)) ∧ y.t.get 2 = some (.int .i64 (size : Int)) ∧ y.t.get 6 = some w ∧ y.t.get 7 = some (.int .i64 (j : Int))) ∧
  Ext [] S y.s ∧ SlX y.s 1 w (zI (leB x j)) ∧ ∀ k, k ∈ blk w → S.next ≤ k
section
variable {E : Env} (hO : GE E) {s : DS} {o : Nat} {bv : Value} {bs cs : List Int} {d : Nat}
include hO
theorem Fh (h : Ql s o bv bs) (hG : s.Good) {y : Value} (hy : SlR s y cs) (hlen : bs.length + cs.length ≤ 1048576) :
 W (dcall E (d + 1) (.func (.func 43) #[] #[]) [.pointer (some ⟨o, 0, none⟩), y] s) (WF s o (bs ++ cs)) := by
 have go := h.go
 have wo := h.wo
 have hol := DS.get_lt' go
 have hyl := hy.lt
 have hbl := h.sl.lt
 obtain ⟨ab, hbv⟩ := h.sl.shape
 obtain ⟨ay, cy, hyv⟩ := hy.len
 rw [zr] at hbv
 have w1 : zt .i64 (1048576 - (bs.length : Int)) = 1048576 - (bs.length : Int) := zW (by omega) (by omega)
 have e1 : ¬ 1048576 - (bs.length : Int) < (cs.length : Int) := by omega
 refine zp fun Q hQ => ?_
 rw [zj hO.iput hO.fput rfl]
 have hv1 := (h.sl.view (ZQ _))
 have hv2 := hy.view
 rw [← YV] at hv2
 subst hbv hyv
 have hn : ∀ ob, (s.new ob).get o = some (.cells (.list [.slice ab bs.length bs.length, .bool false, .bool false]) false) := fun ob => (DS.new_get_lt hol).trans go
 simp only [sA, zb, zo, zm, Nat.reduceEqDiff, Cells.get, getN, Nat.reduceLeDiff, reduceCtorEq, zi, pp, pv, pw, pg, repeatZ, d43, go, w1, e1, hn]
 obtain ⟨S1, hS1⟩ : ∃ S1 : DS, S1 = s.new (.cells (.list []) false) := ⟨_, rfl⟩
 rw [← hS1]
 have X1 : Ext [] s S1 := by rw [hS1]; exact Ext.new
 have g1 : S1.get s.next = some (.cells (.list []) false) := by rw [hS1]; exact DS.new_get_self hG
 have hx : SlX S1 1 (.slice (some ⟨s.next, 0, none⟩) 0 0) [] := .inr ⟨s.next, none, rfl, .inl rfl, g1, X1.wrs (hG _ (Nat.le_refl _)).2⟩
 have hG1 := X1.good hG
 refine W.mono (Qj hx (hv1.of fun k hk => X1.get k (hbl k hk) (by simp)) Za.nil (ZQ _) hG1 (by rw [zr]; simp; omega) (by rw [zr]; simp; omega)) ?_
 rintro ⟨w2, s2⟩ ⟨x2, X2, b2⟩
 simp only [List.nil_append] at x2 X2 b2
 have XA : Ext [] s s2 := X1.trans X2 (by simp [blk])
 have hb2 : ∀ k, k ∈ blk w2 → s.next ≤ k := fun k hk => by
  rcases b2 k hk with h | h
  · simp [blk] at h; omega
  · have := X1.le; omega
 simp only [sA, Nat.reduceEqDiff]
 refine W.mono (Qj x2 (hv2.of fun k hk => XA.get k (hyl k hk) (by simp)) (ZQ _) (ZQ _) (XA.good hG) (by rw [zr, zr]; omega) (by rw [zr, zr]; omega)) ?_
 rintro ⟨w3, s3⟩ ⟨x3, X3, b3⟩
 simp only at x3 X3 b3
 have XB : Ext [] s s3 := XA.trans X3 (fun k hk => .inr (hb2 k hk))
 have hb3 : ∀ k, k ∈ blk w3 → s.next ≤ k := fun k hk => by
  rcases b3 k hk with h | h
  · exact hb2 k h
  · have := XA.le; omega
 have go3 := XB.keep go (by simp)
 have wo3 := XB.wrs wo
 rw [← QC] at x3
 obtain ⟨a3, hw3⟩ := x3.shape
 rw [zr] at hw3
 subst hw3
 simp only [sA, zb, Nat.reduceEqDiff, za, ze, Nat.reduceAdd, zh, zg, Nat.reduceLeDiff, DS.wrC, Cells.size, Cells.fillFrom, Cells.set, zA, go3, wo3]
 have XU : ∀ ob, Ext [o] s3 (s3.upd o ob) := fun ob => Ext.upd (.inl (by simp))
 refine hQ _ ⟨rfl, _, ⟨?_, ?_, ?_, fun hk => by have := hb3 o hk; omega⟩, ?_, hb3⟩
 · rw [DS.upd_get_self, go3]; simp [List.length_append]
 · rw [DS.upd_wr]; exact wo3
 · exact x3.keep (XU _) fun k hk => by have := hb3 k hk; simp; omega
 · exact (XB.weaken (by simp)).trans' (XU _)
theorem Na (h : Ql s o bv bs) (hG : s.Good) {y : Value} (hy : SlX s 1 y (zI cs)) (hlen : bs.length + cs.length ≤ 1048576) :
 W (dcall E (d + 1) (.func (.func 43) #[] #[]) [.pointer (some ⟨o, 0, none⟩), y] s) (WF s o (bs ++ cs)) := Fh hO h hG (SlX.bytes hy) hlen
theorem CQ (h : Ql s o bv bs) (hG : s.Good) (x : Int) {size : Nat} (hs : size ≤ 8) (hlen : bs.length + size ≤ 1048576) :
 W (dcall E (d + 2) (.func (.func 66) #[] #[]) [.pointer (some ⟨o, 0, none⟩), .int .u64 (zt .u64 x), .int .i64 (size : Int)] s) (WF s o (bs ++ leB x size)) := by
 have hlf := hO.lf
 have hol := DS.get_lt' h.go
 have hbl := h.sl.lt
 refine zp fun Q hQ => ?_
 rw [zj hO.ilow hO.flow rfl]
 simp only [sA, pp, pv, d66]
 refine Wy (M8 s o x size) size (by omega) ⟨0, .slice none 0 0, rfl, Nat.zero_le _, rfl, ?_, .refl, .inl ⟨rfl, rfl⟩, by simp [blk]⟩ ?_
 · simp only [sA, Nat.reduceEqDiff, reduceCtorEq]
   rfl
 rintro n ⟨t, s2, ds⟩ hn ⟨j, w, rfl, hj, hds, ⟨g0, g1, g2, g6, g7⟩, X2, hw, hwb⟩
 simp only at hds g0 g1 g2 g6 g7 X2 hw
 subst hds
 have hG2 := X2.good hG
 by_cases c1 : j < size
 · have e1 : (j : Int) < (size : Int) := by omega
   have w1 : zt .i64 ((j : Int) + 1) = ((j + 1 : Nat) : Int) := by rw [zW (by omega) (by omega)]; omega
   have w2 : zt .i64 (8 * (j : Int)) = ((8 * j : Nat) : Int) := by rw [zW (by omega) (by omega)]; omega
   have hsh : Zr .shr .u64 (zt .u64 x) ((8 * j : Nat) : Int) = some (.int .u64 ((zt .u64 x).fdiv (Int.ofNat (2 ^ (8 * j))))) := by
    unfold Zr
    rw [if_neg (by omega)]
    have e2 : Nat.ble (bitsOf .u64) ((8 * j : Nat) : Int).toNat = false := by rw [Zk]; simp [bitsOf]; omega
    simp only [e2, z3, if_false]
    rfl
   simp only [sA, zb, zo, zm, Nat.reduceEqDiff, Nat.reduceLeDiff, zi, repeatZ, g0, g1, g2, g6, g7, e1, w1, w2, hsh]
   obtain ⟨S3, hS3⟩ : ∃ S3 : DS, S3 = s2.new (.cells (.list [.int .u8 (leI x j)]) false) := ⟨_, rfl⟩
   rw [show zt .u8 ((zt .u64 x).fdiv (Int.ofNat (2 ^ (8 * j)))) = leI x j from rfl, ← hS3]
   have X3 : Ext [] s2 S3 := by rw [hS3]; exact Ext.new
   have g3 : S3.get s2.next = some (.cells (.list [.int .u8 (leI x j)]) false) := by rw [hS3]; exact DS.new_get_self hG2
   have hv : SlV S3 1 (.slice (some ⟨s2.next, 0, none⟩) 1 1) (zI [leI x j]) := .inr ⟨s2.next, 0, none, 1, rfl, by unfold DS.read; rw [g3]; rfl⟩
   refine W.mono (Qj (hw.keep X3 (by simp)) hv (ZQ _) (ZQ _) (X3.good hG2) (by rw [zr, zr, zB]; simp; omega) (by rw [zr, zr, zB]; simp; omega)) ?_
   rintro ⟨w4, s4⟩ ⟨x4, X4, b4⟩
   simp only at x4 X4 b4
   rw [← QC, ← QR] at x4
   have hb4 : ∀ k, k ∈ blk w4 → s.next ≤ k := fun k hk => by
    rcases b4 k hk with h | h
    · exact hwb k h
    · have := X3.le; have := X2.le; omega
   simp only [sA, zo, zm, Nat.reduceEqDiff, g0, g1, g2, g6, g7, w1]
   exact ⟨size - (j + 1), by omega, ⟨j + 1, w4, rfl, by omega, rfl, by simp only [sA, Nat.reduceEqDiff, reduceCtorEq, g0, g1, g2], (X2.trans' X3).trans X4 (fun k hk => .inr (hwb k hk)), x4, hb4⟩⟩
 · obtain rfl : j = size := by omega
   have e1 : ¬ (j : Int) < (j : Int) := by omega
   simp only [sA, zo, zm, Nat.reduceEqDiff, reduceCtorEq, g0, g1, g2, g6, g7, e1]
   refine W.mono (Na hO (h.keep X2 (by simp) (by simp)) hG2 hw (by rw [zB]; exact hlen)) ?_
   rintro ⟨v5, s5⟩ ⟨hv5, bv5, h5, X5, b5⟩
   simp only at hv5 h5 X5
   subst hv5
   simp only [sA, za, ze]
   exact hQ _ ⟨rfl, bv5, h5, (X2.weaken (by simp)).trans' X5, fun k hk => by have := b5 k hk; have := X2.le; omega⟩
theorem Jh (h : Ql s o bv bs) (hG : s.Good) {x most : Int} (hx : 0 ≤ x) (hm : x ≤ most) {size : Nat} (hs : size ≤ 8) (hlen : bs.length + size ≤ 1048576) :
 W (dcall E (d + 3) (.func (.func 65) #[] #[]) [.pointer (some ⟨o, 0, none⟩), .int .i64 x, .int .i64 (size : Int), .int .i64 most] s) (WF s o (bs ++ leB x size)) := by
 have go := h.go
 have hol := DS.get_lt' go
 refine zp fun Q hQ => ?_
 rw [zj hO.icount hO.fcount rfl]
 have e1 : ¬ x < 0 := by omega
 have e2 : ¬ most < x := by omega
 simp only [sA, zb, zo, zm, Nat.reduceEqDiff, Cells.get, getN, reduceCtorEq, pp, pv, pw, pg, d65, go, e1, e2]
 refine W.mono (CQ hO h hG x hs hlen) ?_
 rintro ⟨v5, s5⟩ ⟨hv5, h5⟩
 simp only at hv5 h5
 subst hv5
 simp only [sA, za, ze]
 exact hQ _ ⟨rfl, h5⟩
theorem Rv (h : Ql s o bv bs) (hG : s.Good) {x : Int} (hx : 0 ≤ x) (hm : x ≤ 4096) (hlen : bs.length + 2 ≤ 1048576) :
 W (dcall E (d + 4) (.func (.func 36) #[] #[]) [.pointer (some ⟨o, 0, none⟩), .int .i64 x] s) (WF s o (bs ++ leB x 2)) := by
 refine zp fun Q hQ => ?_
 rw [zj hO.imany hO.fmany rfl]
 simp only [sA, Nat.reduceEqDiff, pp, pv, d36]
 refine W.mono (Jh hO h hG hx hm (size := 2) (by omega) hlen) ?_
 rintro ⟨v5, s5⟩ ⟨hv5, h5⟩
 simp only at hv5 h5
 subst hv5
 simp only [sA, za, ze]
 exact hQ _ ⟨rfl, h5⟩
theorem W7 (h : Ql s o bv bs) (hG : s.Good) (x : Int) (hlen : bs.length + 8 ≤ 1048576) :
 W (dcall E (d + 3) (.func (.func 34) #[] #[]) [.pointer (some ⟨o, 0, none⟩), .int .i64 x] s) (WF s o (bs ++ leB x 8)) := by
 refine zp fun Q hQ => ?_
 rw [zj hO.iint hO.fint rfl]
 simp only [sA, zb, Nat.reduceEqDiff, pp, pv, d34]
 refine W.mono (CQ hO h hG x (size := 8) (by omega) hlen) ?_
 rintro ⟨v5, s5⟩ ⟨hv5, h5⟩
 simp only at hv5 h5
 subst hv5
 simp only [sA, za, ze]
 exact hQ _ ⟨rfl, h5⟩
theorem WU (h : Ql s o bv bs) (hG : s.Good) {x : Int} (hx : 0 ≤ x) (hm : x ≤ 255) (hlen : bs.length + 1 ≤ 1048576) :
 W (dcall E (d + 4) (.func (.func 33) #[] #[]) [.pointer (some ⟨o, 0, none⟩), .int .i64 x] s) (WF s o (bs ++ leB x 1)) := by
 refine zp fun Q hQ => ?_
 rw [zj hO.ibyte hO.fbyte rfl]
 simp only [sA, Nat.reduceEqDiff, pp, pv, d33]
 refine W.mono (Jh hO h hG hx hm (size := 1) (by omega) hlen) ?_
 rintro ⟨v5, s5⟩ ⟨hv5, h5⟩
 simp only at hv5 h5
 subst hv5
 simp only [sA, za, ze]
 exact hQ _ ⟨rfl, h5⟩
theorem Rw (h : Ql s o bv bs) (hG : s.Good) (x : Bool) (hlen : bs.length + 1 ≤ 1048576) :
 W (dcall E (d + 5) (.func (.func 38) #[] #[]) [.pointer (some ⟨o, 0, none⟩), .bool x] s) (WF s o (bs ++ Qk x)) := by
 refine zp fun Q hQ => ?_
 rw [zj hO.iflag hO.fflag rfl]
 cases x with
 | false =>
  simp only [sA, reduceCtorEq, pp, pv, d38]
  refine W.mono (WU hO h hG (x := 0) (by omega) (by omega) hlen) ?_
  rintro ⟨v5, s5⟩ ⟨hv5, h5⟩
  simp only at hv5 h5
  subst hv5
  simp only [sA, za, ze]
  exact hQ _ ⟨rfl, h5⟩
 | true =>
  simp only [sA, reduceCtorEq, pp, pv, d38]
  refine W.mono (WU hO h hG (x := 1) (by omega) (by omega) hlen) ?_
  rintro ⟨v5, s5⟩ ⟨hv5, h5⟩
  simp only at hv5 h5
  subst hv5
  simp only [sA, za, ze]
  exact hQ _ ⟨rfl, h5⟩
theorem TY (h : Ql s o bv bs) (hG : s.Good) {y : Value} (hy : SlR s y cs) (hne : o ∉ blk y) (hc : cs.length ≤ 65536) (hlen : bs.length + 4 + cs.length ≤ 1048576) :
 W (dcall E (d + 4) (.func (.func 35) #[] #[]) [.pointer (some ⟨o, 0, none⟩), y] s) (WF s o (bs ++ (leB (cs.length : Int) 4 ++ cs))) := by
 obtain ⟨a, c, hyv⟩ := hy.len
 refine zp fun Q hQ => ?_
 rw [zj hO.iblob hO.fblob rfl]
 subst hyv
 simp only [sA, zb, Nat.reduceEqDiff, pp, pv, d35]
 refine W.mono (Jh hO h hG (x := (cs.length : Int)) (most := 65536) (by omega) (by omega) (size := 4) (by omega) (by omega)) ?_
 rintro ⟨v5, s5⟩ ⟨hv5, b5, h5, X5, n5⟩
 simp only at hv5 h5 X5
 subst hv5
 simp only [sA, Nat.reduceEqDiff, reduceCtorEq]
 refine W.mono (Fh hO (d := d + 2) h5 (X5.good hG) (hy.keep X5 (fun k hk e => hne (List.mem_singleton.1 e ▸ hk))) (by rw [List.length_append, zB]; omega)) ?_
 rintro ⟨v6, s6⟩ ⟨hv6, b6, h6, X6, n6⟩
 simp only at hv6 h6 X6
 subst hv6
 simp only [sA, za, ze]
 rw [List.append_assoc] at h6
 exact hQ _ ⟨rfl, b6, h6, X5.trans' X6, fun k hk => by have := n6 k hk; have := X5.le; omega⟩
omit hO in
theorem WF.next {s1 s2 : DS} {v : Value} {cs : List Int} (X : Ext [o] s s1) (h : WF s1 o cs (v, s2)) : WF s o cs (v, s2) := by
 obtain ⟨h1, b, h2, h3, h4⟩ := h
 exact ⟨h1, b, h2, X.trans' h3, fun k hk => Nat.le_trans X.le (h4 k hk)⟩
theorem Nd (hG : s.Good) (r : Rp) (hm : ZE r) : W (dcall E (d + 6) (.func (.func 16) #[] #[]) [.agg ⟨r.cells⟩] s) fun p => SlX p.2 1 p.1 (zI (encR r)) ∧ Ext [] s p.2 ∧ ∀ k, k ∈ blk p.1 → s.next ≤ k := by
 obtain ⟨_, ⟨w1, w2, w3, w4⟩, w5, w6, w7, w8⟩ := hm
 refine zp fun Q hQ => ?_
 rw [zj hO.ienc hO.fenc rfl]
 simp (maxDischargeDepth := 8) only [sA, sM, zb, Cells.get, getN, zi, pp, pv, Nat.reduceLT, d16, hG, Rp.cells]
 obtain ⟨S0, hS0⟩ : ∃ S0 : DS, S0 = (s.new (.cells (.list [.int .i64 r.c, .int .i64 r.n, .bool r.rej, .int .i64 r.trap, .int .i64 r.v, .int .i64 r.gas]) false)).new (.cells (.list [.slice none 0 0, .bool false, .bool false]) false) := ⟨_, rfl⟩
 rw [← hS0]
 have X0 : Ext [] s S0 := by rw [hS0]; exact Ext.new.trans' Ext.new
 have g0 : S0.get s.next = some (.cells (.list [.int .i64 r.c, .int .i64 r.n, .bool r.rej, .int .i64 r.trap, .int .i64 r.v, .int .i64 r.gas]) false) := by rw [hS0]; simp (maxDischargeDepth := 8) only [sM, z8, hG]
 have O0 : Ql S0 (s.next + 1) (.slice none 0 0) [] := ⟨by rw [hS0]; simp (maxDischargeDepth := 8) only [sM, z8, hG], X0.wrs (hG _ (Nat.le_succ _)).2, .inl ⟨rfl, rfl⟩, by simp [blk]⟩
 have G0 := X0.good hG
 have l0 := DS.get_lt' g0
 clear hS0
 skip
 refine W.mono (WU hO (d := d + 1) O0 G0 (x := r.c) (by omega) (by omega) (by simp [zB, Qk])) ?_
 rintro ⟨v1, S1⟩ ⟨hv1, bv1, O1, Z1, n1⟩
 simp only at hv1 O1 Z1 n1
 subst hv1
 have X1 : Ext [] s S1 := X0.trans Z1 (by simp)
 have G1 := X1.good hG
 have g1 := Z1.keep g0 (by simp)
 have le1 := X1.le
 simp only [sA, zb, Nat.reduceEqDiff, Cells.get, getN, g1]
 refine W.mono (W7 hO (d := d + 2) O1 G1 r.n (by simp [zB, Qk])) ?_
 rintro ⟨v2, S2⟩ ⟨hv2, bv2, O2, Z2, n2⟩
 simp only at hv2 O2 Z2 n2
 subst hv2
 have X2 : Ext [] s S2 := X1.trans Z2 (by simp)
 have G2 := X2.good hG
 have g2 := Z2.keep g1 (by simp)
 have le2 := X2.le
 simp only [sA, zb, Nat.reduceEqDiff, Cells.get, getN, g2]
 refine W.mono (Rw hO (d := d) O2 G2 r.rej (by simp [zB, Qk])) ?_
 rintro ⟨v3, S3⟩ ⟨hv3, bv3, O3, Z3, n3⟩
 simp only at hv3 O3 Z3 n3
 subst hv3
 have X3 : Ext [] s S3 := X2.trans Z3 (by simp)
 have G3 := X3.good hG
 have g3 := Z3.keep g2 (by simp)
 have le3 := X3.le
 simp only [sA, zb, Nat.reduceEqDiff, Cells.get, getN, g3]
 refine W.mono (WU hO (d := d + 1) O3 G3 (x := r.trap) (by omega) (by omega) (by simp [zB, Qk])) ?_
 rintro ⟨v4, S4⟩ ⟨hv4, bv4, O4, Z4, n4⟩
 simp only at hv4 O4 Z4 n4
 subst hv4
 have X4 : Ext [] s S4 := X3.trans Z4 (by simp)
 have G4 := X4.good hG
 have g4 := Z4.keep g3 (by simp)
 have le4 := X4.le
 simp only [sA, zb, Nat.reduceEqDiff, Cells.get, getN, g4]
 refine W.mono (W7 hO (d := d + 2) O4 G4 r.v (by simp [zB, Qk])) ?_
 rintro ⟨v5, S5⟩ ⟨hv5, bv5, O5, Z5, n5⟩
 simp only at hv5 O5 Z5 n5
 subst hv5
 have X5 : Ext [] s S5 := X4.trans Z5 (by simp)
 have G5 := X5.good hG
 have g5 := Z5.keep g4 (by simp)
 have le5 := X5.le
 simp only [sA, zb, Nat.reduceEqDiff, Cells.get, getN, g5]
 refine W.mono (W7 hO (d := d + 2) O5 G5 r.gas (by simp [zB, Qk])) ?_
 rintro ⟨v6, S6⟩ ⟨hv6, bv6, O6, Z6, n6⟩
 simp only at hv6 O6 Z6 n6
 subst hv6
 have X6 : Ext [] s S6 := X5.trans Z6 (by simp)
 have G6 := X6.good hG
 have g6 := Z6.keep g5 (by simp)
 have le6 := X6.le
 have gf := O6.go
 obtain ⟨a6, h6⟩ := O6.sl.shape
 subst h6
 simp only [sA, zb, Nat.reduceEqDiff, za, ze, Cells.get, getN, gf]
 have he : encR r = ((((([] ++ leB r.c 1) ++ leB r.n 8) ++ Qk r.rej) ++ leB r.trap 1) ++ leB r.v 8) ++ leB r.gas 8 := by
  simp only [encR, JK, List.nil_append, List.append_assoc]
 refine hQ _ ⟨by rw [he]; exact O6.sl, X6, fun k hk => ?_⟩
 have h1 := n6 k hk
 have h2 := le5
 omega
end
end Go.Dx.TbA
namespace Go.Dx.TbA
open Go Go.Dx Go.Dx.Tab Go.Proofs.YthmgnfeljhdioaaGreat
structure QeI (S0 : DS) (p o : Nat) (l : List Int) (bs : List Int) (n : Nat) (y : St) : Prop where
 ex : ∃ i bv, n + i = l.length ∧ y.defers = [] ∧ (y.t.get 1 = some (.pointer (some ⟨p, 0, none⟩)) ∧ y.t.get 3 = some (.pointer (some ⟨o, 0, none⟩)) ∧ y.t.get 4 = some (.int .i64 ((i : Nat) : Int))) ∧
  Ql y.s o bv (bs ++ Xv (fun a => leB a 8) (l.take i)) ∧ Ext [o] S0 y.s ∧ y.s.Good
def Mc : DCode := (.seq (.seq (.region [pp 4 (.mv (.const (.int .i64 0)))]) (.block 0 (.loop (.seq (.seq (.region [pv 24 4, pp 25 (.fadr 3 (tm 1)), pp 26 (.ld none (tm 25)), pp 27 (.blenL (tm 26)), pp 28 (.bin .lss (tm 24) (tm 27))]) (.cond (tm 28) (.skip) (.exit 0))) (.seq (.block 1 (.region [pv 31 3, pp 32 (.fadr 3 (tm 1)), pp 33 (.ld none (tm 32)), pv 34 4, pp 35 (.ixL 1 (tm 33) (tm 34)), pp 36 (.ld none (tm 35)), pp 37 (.call (.func 34) [.tmp 31, .tmp 36])])) (.region [pv 29 4, pp 30 (.bin .add (tm 29) (.const (.int .i64 1))), pv 4 30])))))) (.seq (.region [pv 38 3, pp 39 (.fadr 4 (tm 1)), pp 40 (.ld none (tm 39)), pp 41 (.call (.func 34) [.tmp 38, .tmp 40])]) (.seq (.region [pv 42 3, pp 43 (.nilck (tm 42)), pp 44 (.fadr 0 (tm 43)), pp 45 (.ld none (tm 44)), pv 2 45]) (.ret))))
def dRe : zf := { ntmps := 46, results := [.tmp 2], body := .seq (.region [pp 1 (.box (tm 0)), pp 2 (.mv (.const (.slice none 0 0)))]) (.seq (.region [pp 5 (.build [.slice none 0 0, .bool false, .bool false] []), pp 6 (.box (tm 5)), pv 3 6]) (.seq (.region [pv 7 3, pp 8 (.fadr 0 (tm 1)), pp 9 (.ld none (tm 8)), pp 10 (.call (.func 33) [.tmp 7, .tmp 9])]) (.seq (.region [pv 11 3, pp 12 (.fadr 1 (tm 1)), pp 13 (.ld none (tm 12)), pp 14 (.call (.func 34) [.tmp 11, .tmp 13])]) (.seq (.region [pv 15 3, pp 16 (.fadr 2 (tm 1)), pp 17 (.ld none (tm 16)), pp 18 (.call (.func 35) [.tmp 15, .tmp 17])]) (.seq (.region [pv 19 3, pp 20 (.fadr 3 (tm 1)), pp 21 (.ld none (tm 20)), pp 22 (.blenL (tm 21)), pp 23 (.call (.func 36) [.tmp 19, .tmp 22])]) Mc))))) }
theorem M1 : d14 = dRe := rfl
section
variable {E : Env} (hO : GE E) {s : DS} {d : Nat}
include hO
theorem Rq (h14 : E.fn 14 = some d14) (i14 : E.intr 14 = none) {n0 : Nat} {cs : List Value} {x : Yn} (hG : s.Good) (hr : Yu n0 s cs x) (hm : XT x) :
 W (dcall E (d + 6) (.func (.func 14) #[] #[]) [.agg ⟨cs⟩] s) fun p => SlX p.2 1 p.1 (zI (YE x)) ∧ Ext [] s p.2 ∧ ∀ k, k ∈ blk p.1 → s.next ≤ k := by
 have hlf := hO.lf
 have hlen := KU hm
 obtain ⟨⟨w1, w2, w3, w4⟩, w5, w6, w7, w8⟩ := hm
 obtain ⟨b1, c1, b2, c2, rfl, m1, a1⟩ := hr
 refine zp fun Q hQ => ?_
 rw [zj i14 (show E.fn 14 = some dRe from by rw [← M1]; exact h14) rfl]
 obtain ⟨S0, hS0⟩ : ∃ S0 : DS, S0 = (s.new (.cells (.list [.int .i64 x.1.1, .int .i64 x.1.2, .slice b1 x.2.1.length c1, .slice b2 x.2.2.1.length c2, .int .i64 x.2.2.2]) false)).new (.cells (.list [.slice none 0 0, .bool false, .bool false]) false) := ⟨_, rfl⟩
 simp (maxDischargeDepth := 8) only [sA, sM, zb, Cells.get, zi, pp, pv, Nat.reduceLT, dRe, hG, ← hS0]
 have X0 : Ext [] s S0 := by rw [hS0]; exact Ext.new.trans' Ext.new
 have g0 : S0.get s.next = some (.cells (.list [.int .i64 x.1.1, .int .i64 x.1.2, .slice b1 x.2.1.length c1, .slice b2 x.2.2.1.length c2, .int .i64 x.2.2.2]) false) := by rw [hS0]; simp (maxDischargeDepth := 8) only [sM, z8, hG]
 have O0 : Ql S0 (s.next + 1) (.slice none 0 0) [] := ⟨by rw [hS0]; simp (maxDischargeDepth := 8) only [sM, z8, hG], X0.wrs (hG _ (Nat.le_succ _)).2, .inl ⟨rfl, rfl⟩, by simp [blk]⟩
 have G0 := X0.good hG
 have n0' : S0.next = s.next + 2 := by rw [hS0]; rfl
 clear hS0
 simp only [sA, Nat.reduceEqDiff, getN, g0]
 refine W.mono (WU hO (d := d + 1) O0 G0 (x := x.1.1) (by omega) (by omega) (by simp)) ?_
 rintro ⟨v1, S1⟩ ⟨hv1, bv1, O1, Z1, n1⟩
 simp only at hv1 O1 Z1 n1
 subst hv1
 have X1 : Ext [] s S1 := X0.trans Z1 (by simp)
 have G1 := X1.good hG
 have g1 := Z1.keep g0 (by simp)
 have le1 := Z1.le
 simp only [sA, zb, Nat.reduceEqDiff, Cells.get, getN, g1]
 refine W.mono (W7 hO (d := d + 2) O1 G1 x.1.2 (by simp [zB])) ?_
 rintro ⟨v2, S2⟩ ⟨hv2, bv2, O2, Z2, n2⟩
 simp only at hv2 O2 Z2 n2
 subst hv2
 have X2 : Ext [] s S2 := X1.trans Z2 (by simp)
 have G2 := X2.good hG
 have g2 := Z2.keep g1 (by simp)
 have le2 := Z2.le
 simp only [sA, zb, Nat.reduceEqDiff, Cells.get, getN, g2]
 have hm2 := m1.1.keep X2 (by simp)
 refine W.mono (TY hO (d := d + 1) O2 G2 hm2 (fun hk => by have := m1.1.lt _ hk; omega) (by omega) (by simp [zB]; omega)) ?_
 rintro ⟨v3, S3⟩ ⟨hv3, bv3, O3, Z3, n3⟩
 simp only at hv3 O3 Z3 n3
 subst hv3
 have X3 : Ext [] s S3 := X2.trans Z3 (by simp)
 have G3 := X3.good hG
 have g3 := Z3.keep g2 (by simp)
 have le3 := Z3.le
 simp only [sA, zb, Nat.reduceEqDiff, Cells.get, getN, g3]
 refine W.mono (Rv hO (d := d + 1) O3 G3 (x := (x.2.2.1.length : Int)) (by omega) (by omega) (by simp [zB]; omega)) ?_
 rintro ⟨v4, S4⟩ ⟨hv4, bv4, O4, Z4, n4⟩
 simp only at hv4 O4 Z4 n4
 subst hv4
 have X4 : Ext [] s S4 := X3.trans Z4 (by simp)
 have G4 := X4.good hG
 have g4 := Z4.keep g3 (by simp)
 have le4 := Z4.le
 have a4 := a1.1.keep X4 (by simp)
 obtain ⟨B, hB⟩ : ∃ B : List Int, B = (([] ++ leB x.1.1 1) ++ leB x.1.2 8) ++ (leB (x.2.1.length : Int) 4 ++ x.2.1) ++ leB (x.2.2.1.length : Int) 2 := ⟨_, rfl⟩
 rw [← hB] at O4
 have hBl : B.length + (x.2.2.1.length * 8 + 8) ≤ 20000 := by
  unfold YE FU at hlen
  simp only [List.length_append, zB, Dd] at hlen
  rw [hB]
  simp only [List.length_append, zB, List.length_nil]
  omega
 simp only [sA, pp, pv, Mc]
 refine Wy (QeI S4 s.next (s.next + 1) x.2.2.1 B) x.2.2.1.length (by omega) ⟨0, bv4, by omega, rfl, ?_, by simpa [Xv] using O4, .refl, G4⟩ ?_
 · simp only [sA, Nat.reduceEqDiff]
   rfl
 rintro n ⟨t, S, ds⟩ hn ⟨i, bv5, hni, hds, ⟨t1, t3, t4⟩, O5, X5, G5⟩
 simp only at hds t1 t3 t4 O5 X5 G5
 subst hds
 have g5 := X5.keep g4 (by simp)
 have le5 := X5.le
 cases n with
 | zero =>
  have hi : i = x.2.2.1.length := by omega
  subst hi
  have e0 : ¬ (x.2.2.1.length : Int) < (x.2.2.1.length : Int) := by omega
  rw [List.take_length] at O5
  simp only [sA, zb, zo, zm, Nat.reduceEqDiff, Cells.get, getN, t1, t3, t4, g5, e0]
  refine W.mono (W7 hO (d := d + 2) O5 G5 x.2.2.2 (by simp [Dd]; omega)) ?_
  rintro ⟨v6, S6⟩ ⟨hv6, bv6, O6, Z6, n6⟩
  simp only at hv6 O6 Z6 n6
  subst hv6
  have X6 : Ext [] s S6 := (X4.trans X5 (by simp)).trans Z6 (by simp)
  have gf := O6.go
  obtain ⟨a6, h6⟩ := O6.sl.shape
  subst h6
  simp only [sA, zb, Nat.reduceEqDiff, za, ze, Cells.get, getN, t1, t3, t4, gf]
  have he : YE x = (B ++ Xv (fun a => leB a 8) x.2.2.1) ++ leB x.2.2.2 8 := by
   rw [hB]
   simp only [YE, FU, List.nil_append, List.append_assoc]
  refine hQ _ ⟨by rw [he]; exact O6.sl, X6, fun k hk => ?_⟩
  have h1 := n6 k hk
  omega
 | succ n =>
  have e0 : (i : Int) < (x.2.2.1.length : Int) := by omega
  have hi : i < x.2.2.1.length := by omega
  have hx0 : x.2.2.1[i]? = some x.2.2.1[i] := List.getElem?_eq_getElem hi
  generalize x.2.2.1[i] = y0 at hx0
  have ea : zt .i64 ((i : Int) + 1) = ((i + 1 : Nat) : Int) := by rw [zW (by omega) (by omega)]; omega
  have a5 := a4.keep X5 (fun k hk => by have := a1.1.lt k hk; simp; omega)
  rcases a5 with ⟨_, h0⟩ | ⟨k1, sp, cc', ccs, ro, h8, q1, q2⟩
  · rw [h0] at hi
    exact absurd hi (by simp)
  have q2 := q2 i y0 hx0
  simp only [Cells.get] at q2
  injection h8 with h81 h82 h83
  subst h81
  simp only [sA, zb, zo, zm, Nat.reduceEqDiff, Cells.get, getN, t1, t3, t4, g5, e0, q1, q2, hi]
  have htl : (Xv (fun a => leB a 8) (x.2.2.1.take i)).length ≤ x.2.2.1.length * 8 := by rw [Dd, List.length_take]; omega
  refine W.mono (W7 hO (d := d + 2) O5 G5 y0 (by simp only [List.length_append]; omega)) ?_
  rintro ⟨v6, S6⟩ ⟨hv6, bv6, O6, Z6, n6⟩
  simp only at hv6 O6 Z6 n6
  subst hv6
  simp only [sA, zo, zm, Nat.reduceEqDiff, t1, t3, t4, ea]
  have hcat : Xv (fun a => leB a 8) (x.2.2.1.take (i + 1)) = Xv (fun a => leB a 8) (x.2.2.1.take i) ++ leB y0 8 := by
   unfold Xv
   rw [List.take_add_one, List.flatMap_append]
   simp [hx0]
  exact ⟨n, by omega, ⟨i + 1, bv6, by omega, rfl, ⟨by simp only [sA, Nat.reduceEqDiff, t1], by simp only [sA, Nat.reduceEqDiff, t3], by simp only [Yl]⟩, by rw [hcat, ← List.append_assoc]; exact O6, X5.trans' Z6, Z6.good G5⟩⟩
end
end Go.Dx.TbA
namespace Go.Dx.TbA
open Go Go.Dx Go.Dx.Tab Go.Proofs.YthmgnfeljhdioaaGreat
theorem Yu.ofLt {n : Nat} {s0 s s' : DS} {v : List Value} {x : Yn} (h : Yu n s0 v x) (X : Ext [] s0 s) (e : ∀ k, k < s0.next → s'.get k = s.get k) : Yu n s' v x := by
 obtain ⟨b1, c1, b2, c2, h0, h1, h2⟩ := h
 exact ⟨b1, c1, b2, c2, h0, ⟨SlR.of' (h1.1.keep X (by simp)) fun k hk => e k (h1.1.lt k hk), h1.2⟩, ⟨(h2.1.keep X (by simp)).of fun k hk => e k (h2.1.lt k hk), h2.2⟩⟩
end Go.Dx.TbA
namespace Go.Dx.TbA
open Go Go.Dx Go.Dx.Tab Go.Dx.St Go.Proofs.YthmgnfeljhdioaaGreat
theorem Ri {r : Rp} (hm : ZE r) (hv : I64 r.v) (rest : List Int) : Xg (encR r ++ rest, false) = ((((r.c, r.n), r.rej), (r.trap, (r.v, r.gas))), (rest, false)) := by
 obtain ⟨_, ⟨w1, w2, w3, w4⟩, w5, w6, w7, w8⟩ := hm
 refine Y5 (fun q => Y5 (fun q => Y5 (fun q => XY (size := 1) (by omega) w1 (show r.c ≤ 255 by omega) (by decide) (by decide)) fun q => W5 (RK (n := r.n) (by omega) (by omega))) fun q => P5 _ q) fun q => Y5 (fun q => XY (size := 1) (by omega) w5 (show r.trap ≤ 255 by omega) (by decide) (by decide)) fun q => Y5 (fun q => W5 hv) fun q => W5 (RK (n := r.gas) (by omega) (by omega))
theorem D5 {r : Rp} (hm : ZE r) (hv : I64 r.v) : K6 (encR r) ∧ SU (Xg (encR r, false)).1 = r := by
 have h := Ri hm hv []
 rw [List.append_nil] at h
 constructor
 · unfold K6 Dr
   rw [h]
   exact ⟨⟨rfl, rfl⟩, hm⟩
 · rw [h]
   rfl
theorem FX (r : Rp) : (encR r).length = 27 := by
 unfold encR JK Qk
 simp only [List.length_append, zB]
theorem R7 (r : Rp) : IsB (encR r) := fun b hb => by
 unfold encR JK Qk at hb
 simp only [List.mem_append] at hb
 rcases hb with ((hb | hb) | hb) | (hb | (hb | hb)) <;> exact Wo _ _ b hb
section
variable {E : Env} (hC : Ja E) (hT : GD E) (hE : PM E) {s : DS} {d : Nat}
include hC hT hE
theorem D7 (hG : s.Good) (r : Rp) (hm : ¬ ZE r) : W (dcall E (d + 9) (.func (.func 8) #[] #[]) [.agg ⟨r.cells⟩] s) fun x => x.1 = .tuple ⟨[.slice none 0 0, .int .i64 1]⟩ ∧ Ext [] s x.2 := by
 refine zp fun Q hQ => ?_
 rw [zj hE.iRep hE.fRep rfl]
 simp (maxDischargeDepth := 8) only [sA, sM, Cells.get, getN, pp, ldA, DS.read, Cells.take, Nat.reduceLT, d8, hG, Rp.cells]
 obtain ⟨S0, hS0⟩ : ∃ S0 : DS, S0 = s.new (.cells (.list [.int .i64 r.c, .int .i64 r.n, .bool r.rej, .int .i64 r.trap, .int .i64 r.v, .int .i64 r.gas]) false) := ⟨_, rfl⟩
 rw [← hS0]
 have X0 : Ext [] s S0 := by rw [hS0]; exact Ext.new
 have hG0 := X0.good hG
 clear hS0
 refine W.mono (Gg hT (d := d + 5) hG0 r) ?_
 rintro ⟨v1, s1⟩ ⟨h1, X1⟩
 simp only at h1 X1
 subst h1
 rw [decide_eq_false hm]
 simp only [sA, zb, Nat.reduceEqDiff, za, ze]
 exact hQ _ ⟨rfl, X0.trans' X1⟩
end
def CB : DCode := (.seq (.seq (.region [pv 87 8, pp 88 (.bin .eql (tm 87) (.const (.int .i64 0)))]) (.cond (tm 88) (.seq (.region [pv 90 7, pp 91 (.call (.func 15) [.tmp 90]), pv 89 91, pp 92 (.ext (tm 89) 0), pp 93 (.ext (tm 89) 1), pp 11 (.alloc [.int .i64 0, .int .i64 0, .bool false, .int .i64 0, .int .i64 0, .int .i64 0]), ⟨none, .st 6 (tm 11) (tm 92), none, [], false⟩, pv 12 93]) (.seq (.region [⟨some 94, .mv (tm 12), none, [], true⟩, ⟨some 95, .bin .eql (tm 94) (.const (.int .i64 0)), none, [], true⟩, ⟨some 96, .mv (tm 95), none, [], true⟩, ⟨some 97, .ld (some 6) (tm 11), some (96, true), [], true⟩, ⟨some 98, .ld (some 6) (tm 3), some (96, true), [], true⟩, ⟨some 99, .eq false (.struct [(0, 1, .one .int), (1, 1, .one .int), (2, 1, .one .bool), (3, 1, .one .int), (4, 1, .one .int), (5, 1, .one .int)]) (tm 97) (tm 98), some (96, true), [], true⟩, ⟨some 100, .pick (tm 96) (tm 99) (.const (.bool false)), none, [], true⟩, ⟨some 101, .mv (tm 100), none, [], true⟩, ⟨some 102, .mv (tm 7), some (101, true), [], true⟩, ⟨some 103, .cvToStr (tm 102), some (101, true), [], true⟩, ⟨some 104, .ld (some 6) (tm 3), some (101, true), [], true⟩, ⟨some 105, .call (.func 16) [.tmp 104], some (101, true), [9], true⟩, ⟨some 106, .cvToStr (tm 105), some (101, true), [], true⟩, ⟨some 107, .bin .eql (tm 103) (tm 106), some (101, true), [], true⟩, ⟨some 108, .pick (tm 101) (tm 107) (.const (.bool false)), none, [], true⟩, ⟨some 4, .mv (tm 108), none, [], true⟩]) (.ret))) (.skip))) (.seq (.region [pv 109 8, pp 110 (.bin .eql (tm 109) (.const (.int .i64 1))), pv 111 110, pw 112 7 111 true, pg 113 (.blenL (tm 112)) 111 true, pg 114 (.bin .eql (tm 113) (.const (.int .i64 0))) 111 true, pp 115 (.pick (tm 111) (tm 114) (.const (.bool false))), pv 4 115]) (.ret)))
def Nk : DCode := (.seq (.seq (.region [pv 57 6, pp 58 (.bin .eql (tm 57) (.const (.int .i64 0)))]) (.cond (tm 58) (.seq (.region [pv 60 5, pp 61 (.call (.func 12) [.tmp 60]), pv 59 61, pp 62 (.ext (tm 59) 0), pp 63 (.ext (tm 59) 1), pp 9 (.alloc [.int .i64 0, .int .i64 0, .slice none 0 0, .slice none 0 0, .int .i64 0]), ⟨none, .st 5 (tm 9) (tm 62), none, [], false⟩, pv 10 63]) (.seq (.region [⟨some 64, .mv (tm 10), none, [], true⟩, ⟨some 65, .bin .neq (tm 64) (.const (.int .i64 0)), none, [], true⟩, ⟨some 66, .mv (tm 65), none, [], true⟩, ⟨some 67, .ld (some 5) (tm 9), some (66, false), [], true⟩, ⟨some 68, .ld (some 5) (tm 2), some (66, false), [], true⟩, ⟨some 69, .call (.func 13) [.tmp 67, .tmp 68], some (66, false), [], true⟩, ⟨some 70, .un .not (tm 69), some (66, false), [], true⟩, ⟨some 71, .pick (tm 66) (.const (.bool true)) (tm 70), none, [], true⟩, ⟨some 72, .mv (tm 71), none, [], true⟩, ⟨some 73, .mv (tm 5), some (72, false), [], true⟩, ⟨some 74, .cvToStr (tm 73), some (72, false), [], true⟩, ⟨some 75, .ld (some 5) (tm 2), some (72, false), [], true⟩, ⟨some 76, .call (.func 14) [.tmp 75], some (72, false), [10], true⟩, ⟨some 77, .cvToStr (tm 76), some (72, false), [], true⟩, ⟨some 78, .bin .neq (tm 74) (tm 77), some (72, false), [], true⟩, ⟨some 79, .pick (tm 72) (.const (.bool true)) (tm 78), none, [], true⟩]) (.cond (tm 79) (.seq (.region [pp 4 (.mv (.const (.bool false)))]) (.ret)) (.skip)))) (.seq (.region [pv 80 6, pp 81 (.bin .neq (tm 80) (.const (.int .i64 1))), pv 82 81, pw 83 5 82 false, pg 84 (.blenL (tm 83)) 82 false, pg 85 (.bin .neq (tm 84) (.const (.int .i64 0))) 82 false, pp 86 (.pick (tm 82) (.const (.bool true)) (tm 85))]) (.cond (tm 86) (.seq (.region [pp 4 (.mv (.const (.bool false)))]) (.ret)) (.skip))))) CB)
def dLc : zf := { ntmps := 116, results := [.tmp 4], body := .seq (.region [pp 2 (.box (tm 0)), pp 3 (.box (tm 1)), pp 4 (.mv (.const (.bool false)))]) (.seq (.seq (.region [pp 13 (.fadr 2 (tm 2)), pp 14 (.ld none (tm 13)), pp 15 (.blenL (tm 14)), pp 16 (.bin .gtr (tm 15) (.const (.int .i64 20000))), pv 17 16, pg 18 (.fadr 3 (tm 2)) 17 false, pg 19 (.ld none (tm 18)) 17 false, pg 20 (.blenL (tm 19)) 17 false, pg 21 (.bin .gtr (tm 20) (.const (.int .i64 5000))) 17 false, pp 22 (.pick (tm 17) (.const (.bool true)) (tm 21))]) (.cond (tm 22) (.seq (.region [pp 23 (.call (.func 6) []), pv 4 23]) (.ret)) (.skip))) (.seq (.region [pp 25 (.ld (some 5) (tm 2)), pp 26 (.call (.func 7) [.tmp 25]), pv 24 26, pp 27 (.ext (tm 24) 0), pp 28 (.ext (tm 24) 1), pv 5 27, pv 6 28]) (.seq (.region [pp 30 (.ld (some 6) (tm 3)), pp 31 (.call (.func 8) [.tmp 30]), pv 29 31, pp 32 (.ext (tm 29) 0), pp 33 (.ext (tm 29) 1), pv 7 32, pv 8 33]) (.seq (.seq (.region [⟨some 34, .call (.func 6) [], none, [], true⟩, ⟨some 35, .un .not (tm 34), none, [], true⟩, ⟨some 36, .mv (tm 35), none, [], true⟩, ⟨some 37, .ld (some 5) (tm 2), some (36, false), [], true⟩, ⟨some 39, .ld (some 5) (tm 2), some (36, false), [], true⟩, ⟨some 38, .call (.func 9) [.tmp 37], some (36, false), [4], true⟩, ⟨some 40, .call (.func 10) [.tmp 39], some (36, false), [], true⟩, ⟨some 41, .eq true (.one .bool) (tm 38) (tm 40), some (36, false), [], true⟩, ⟨some 42, .pick (tm 36) (.const (.bool true)) (tm 41), none, [], true⟩, ⟨some 43, .mv (tm 42), none, [], true⟩, ⟨some 44, .mv (tm 6), some (43, false), [], true⟩, ⟨some 45, .bin .eql (tm 44) (.const (.int .i64 0)), some (43, false), [], true⟩, ⟨some 46, .ld (some 5) (tm 2), some (43, false), [], true⟩, ⟨some 47, .call (.func 10) [.tmp 46], some (43, false), [], true⟩, ⟨some 48, .eq true (.one .bool) (tm 45) (tm 47), some (43, false), [], true⟩, ⟨some 49, .pick (tm 43) (.const (.bool true)) (tm 48), none, [], true⟩, ⟨some 50, .mv (tm 49), none, [], true⟩, ⟨some 51, .mv (tm 8), some (50, false), [], true⟩, ⟨some 52, .bin .eql (tm 51) (.const (.int .i64 0)), some (50, false), [], true⟩, ⟨some 53, .ld (some 6) (tm 3), some (50, false), [], true⟩, ⟨some 54, .call (.func 11) [.tmp 53], some (50, false), [], true⟩, ⟨some 55, .eq true (.one .bool) (tm 52) (tm 54), some (50, false), [], true⟩, ⟨some 56, .pick (tm 50) (.const (.bool true)) (tm 55), none, [], true⟩]) (.cond (tm 56) (.seq (.region [pp 4 (.mv (.const (.bool false)))]) (.ret)) (.skip))) Nk)))) }
theorem M2 : d3 = dLc := rfl
section
variable {E : Env} (hC : Ja E) (hG' : GF E) (hR : VX E) (hT : GD E) (hE : PM E) (hQf : PL E) (hO : GE E) {d : Nat}
include hC hG' hR hT hE hQf hO
theorem GO {S : DS} {p3 : Nat} {cv : Value} {f : Int} {y : Rp} {t : PT Value} (hG : S.Good) (g3 : S.get p3 = some (.cells (.list [.int .i64 y.c, .int .i64 y.n, .bool y.rej, .int .i64 y.trap, .int .i64 y.v, .int .i64 y.gas]) false)) (hv : I64 y.v)
 (t3 : t.get 3 = some (.pointer (some ⟨p3, 0, none⟩))) (t7 : t.get 7 = some cv) (t8 : t.get 8 = some (.int .i64 f)) (hc : (f = 0 ∧ ZE y ∧ SlR S cv (encR y)) ∨ (f = 1 ∧ cv = .slice none 0 0)) :
 WC (dcall E (d + 13)) E.lf false CB ⟨t, S, []⟩ (Ends [.tmp 4] fun r => r.1 = .bool true) := by
 rcases hc with ⟨rfl, hm, hcv⟩ | ⟨rfl, rfl⟩
 case inr =>
  have z : ((0 : Nat) : Int) = 0 := rfl
  simp only [sA, zb, zo, zm, Nat.reduceEqDiff, za, ze, pp, pv, pw, pg, Int.reduceEq, CB, t3, t7, t8, z]
 obtain ⟨hgr, hrp⟩ := D5 hm hv
 have p3l := DS.get_lt' g3
 simp only [sA, zo, zm, Nat.reduceEqDiff, pp, pv, pw, pg, CB, t3, t7, t8]
 refine W.mono (Sl hC hG' hR hT (d := d + 4) hcv (R7 y) (by rw [FX]; omega) hG) ?_
 rintro ⟨v1, S1⟩ ⟨X1, h1⟩
 simp only at X1 h1
 rcases h1 with ⟨hn, _⟩ | ⟨_, rfl⟩
 · exact absurd hgr hn
 rw [hrp]
 have G1 := X1.good hG
 have g3a := X1.keep g3 (by simp)
 have le1 := X1.le
 unfold Rp.cells
 obtain ⟨S2, hS2⟩ : ∃ S2 : DS, S2 = (S1.new (.cells (.list [.int .i64 0, .int .i64 0, .bool false, .int .i64 0, .int .i64 0, .int .i64 0]) false)).upd S1.next (.cells (.list [.int .i64 y.c, .int .i64 y.n, .bool y.rej, .int .i64 y.trap, .int .i64 y.v, .int .i64 y.gas]) false) := ⟨_, rfl⟩
 have X2 : Ext [] S1 S2 := by
  rw [hS2]
  exact (Ext.new (F := [])).trans (Ext.upd (F := [S1.next]) (.inl (by simp))) (by simp)
 have g2 : S2.get S1.next = some (.cells (.list [.int .i64 y.c, .int .i64 y.n, .bool y.rej, .int .i64 y.trap, .int .i64 y.v, .int .i64 y.gas]) false) := by rw [hS2, DS.upd_get_self, DS.new_get_self G1]; rfl
 have G2 := X2.good G1
 have n2 : S2.next = S1.next + 1 := by rw [hS2, DS.upd_next]; rfl
 have g3b := X2.keep g3a (by simp)
 have hoo2 : Ym 5000 (.struct [(0, 1, .one .int), (1, 1, .one .int), (2, 1, .one .bool), (3, 1, .one .int), (4, 1, .one .int), (5, 1, .one .int)]) (.agg ⟨[.int .i64 y.c, .int .i64 y.n, .bool y.rej, .int .i64 y.trap, .int .i64 y.v, .int .i64 y.gas]⟩) (.agg ⟨[.int .i64 y.c, .int .i64 y.n, .bool y.rej, .int .i64 y.trap, .int .i64 y.v, .int .i64 y.gas]⟩) = some true := by
  simp [Ym, ZP, zH, getN]
 have hl1 : ldA 6 (.pointer (some ⟨S1.next, 0, none⟩)) S2 = some (.agg ⟨[.int .i64 y.c, .int .i64 y.n, .bool y.rej, .int .i64 y.trap, .int .i64 y.v, .int .i64 y.gas]⟩) := by
  simp only [ldA, DS.read, g2]
  rfl
 have hl2 : ldA 6 (.pointer (some ⟨p3, 0, none⟩)) S2 = some (.agg ⟨[.int .i64 y.c, .int .i64 y.n, .bool y.rej, .int .i64 y.trap, .int .i64 y.v, .int .i64 y.gas]⟩) := by
  simp only [ldA, DS.read, g3b]
  rfl
 have hcv2 := (hcv.keep X1 (by simp)).keep X2 (by simp)
 have hne : encR y ≠ [] := fun h => by have := FX y; rw [h] at this; cases this
 rcases hcv2 with ⟨_, h0⟩ | ⟨k1, o1, sp1, cc1, rfl, _, _, hrd1⟩
 · exact absurd h0 hne
 have hk1 := hcv.lt k1 (by simp [blk])
 have tb := Wg (encR y)
 have hTE := T9 (encR y)
 simp (maxDischargeDepth := 8) only [sA, sM, zb, zo, zm, zk, getN, Nat.reduceAdd, zh, zg, DS.wrC, Cells.size, Cells.fillFrom, Cells.set, zA, foot, Nat.reduceLT, t3, t7, t8, G1, ← hS2, LJ, hoo2, hl1, hl2, hrd1, tb]
 refine W.masked (hE.fr _) (Nd hO (d := d + 7) (Yb G2 fun k hk => ⟨by (simp only [hidden, shielded, noteAt, zO, Bool.or_false, Bool.or_eq_false_iff, Bool.and_eq_false_iff, Zk, Zv, Zs, true_and, and_true, true_or, or_true] <;> omega), by (simp only [hidden, shielded, noteAt, zO, Bool.or_false, Bool.or_eq_false_iff, Bool.and_eq_false_iff, Zk, Zv, Zs, true_and, and_true, true_or, or_true] <;> omega)⟩) y hm) ?_
 rintro v4 s4 ⟨hx4, X4, b4⟩ df
 simp only at hx4 X4 b4
 rcases SlX.bytes hx4 with ⟨_, h0⟩ | ⟨k2, o2, sp2, cc2, rfl, _, _, hrd2⟩
 · exact absurd h0 hne
 have hk2 : S2.next ≤ k2 := b4 k2 (by simp [blk])
 obtain ⟨S4, hS4⟩ : ∃ S4 : DS, S4 = Zi S2 s4 := ⟨_, rfl⟩
 have hrd3 : S4.read k2 o2 (encR y).length = some (u8s (encR y)) := by
  rw [hS4]
  unfold DS.read at hrd2 ⊢
  rw [YG (by (simp only [hidden, shielded, noteAt, zO, Bool.or_false, Bool.or_eq_false_iff, Bool.and_eq_false_iff, Zk, Zv, Zs, true_and, and_true, true_or, or_true] <;> omega)) X4]
  exact hrd2
 simp (maxDischargeDepth := 8) only [sA, sM, zb, zo, zk, za, ze, foot, Nat.reduceLT, ← hS4, hrd3, tb, hTE]
theorem Nj {s0 S : DS} {p2 p3 n0 : Nat} {bv cv : Value} {e f : Int} {x : Yn} {y : Rp} {t : PT Value} {cs : List Value} (hG : S.Good) (hr0 : Yu n0 s0 cs x) (X0 : Ext [] s0 S) (ox : Dq x) (g2 : S.get p2 = some (.cells (.list cs) false)) (g3 : S.get p3 = some (.cells (.list [.int .i64 y.c, .int .i64 y.n, .bool y.rej, .int .i64 y.trap, .int .i64 y.v, .int .i64 y.gas]) false)) (hv : I64 y.v)
 (h13 : E.fn 13 = some d13) (i13 : E.intr 13 = none) (h14 : E.fn 14 = some d14) (i14 : E.intr 14 = none)
 (t2 : t.get 2 = some (.pointer (some ⟨p2, 0, none⟩))) (t3 : t.get 3 = some (.pointer (some ⟨p3, 0, none⟩))) (t5 : t.get 5 = some bv) (t6 : t.get 6 = some (.int .i64 e)) (t7 : t.get 7 = some cv) (t8 : t.get 8 = some (.int .i64 f))
 (hb : (e = 0 ∧ XT x ∧ SlR S bv (YE x) ∧ ∀ k, k ∈ blk bv → s0.next ≤ k) ∨ (e = 1 ∧ bv = .slice none 0 0)) (hc : (f = 0 ∧ ZE y ∧ SlR S cv (encR y)) ∨ (f = 1 ∧ cv = .slice none 0 0)) :
 WC (dcall E (d + 13)) E.lf false Nk ⟨t, S, []⟩ (Ends [.tmp 4] fun r => r.1 = .bool true) := by
 rcases hb with ⟨rfl, hm, hbv, hbk⟩ | ⟨rfl, rfl⟩
 case inr =>
  have z : ((0 : Nat) : Int) = 0 := rfl
  simp only [sA, zb, zo, zm, Nat.reduceEqDiff, pp, pv, pw, pg, Int.reduceEq, Nk, t2, t3, t5, t6, t7, t8, z]
  exact GO hC hG' hR hT hE hQf hO hG g3 hv (by simp only [sA, Nat.reduceEqDiff, t3]) (by simp only [sA, Nat.reduceEqDiff, t7]) (by simp only [sA, Nat.reduceEqDiff, t8]) hc
 obtain ⟨hga, hao⟩ := M4 hm ox
 simp only [sA, zo, zm, Nat.reduceEqDiff, pp, pv, pw, pg, Nk, t2, t3, t5, t6, t7, t8]
 refine W.mono (Cv hC hG' hR hT hQf (d := d + 3) hbv (R8 ox) (by have := KU hm; omega) hG) ?_
 rintro ⟨v1, S1⟩ ⟨X1, h1⟩
 simp only at X1 h1
 rcases h1 with ⟨hn, _⟩ | ⟨_, cs1, rfl, r1⟩
 · exact absurd hga hn
 have hxx : (rdQ (YE x, false)).1 = x := by
  have := CL hm ox []
  rw [List.append_nil] at this
  rw [this]
 rw [hxx] at r1
 have G1 := X1.good hG
 have g2a := X1.keep g2 (by simp)
 have g3a := X1.keep g3 (by simp)
 have r1' := r1
 have hr' := hr0
 obtain ⟨b1, c1, b2, c2, q1, m1, a1⟩ := r1'
 obtain ⟨b3, c3, b4, c4, q2, m2, a2⟩ := hr'
 subst q1 q2
 have hlf := hQf.lf
 have h8 : x.2.2.1.length ≤ 8 := by have := hm.2.2.1; omega
 obtain ⟨S2, hS2⟩ : ∃ S2 : DS, S2 = (S1.new (.cells (.list [.int .i64 0, .int .i64 0, .slice none 0 0, .slice none 0 0, .int .i64 0]) false)).upd S1.next (.cells (.list [.int .i64 x.1.1, .int .i64 x.1.2, .slice b1 x.2.1.length c1, .slice b2 x.2.2.1.length c2, .int .i64 x.2.2.2]) false) := ⟨_, rfl⟩
 have X2 : Ext [] S1 S2 := by
  rw [hS2]
  exact (Ext.new (F := [])).trans (Ext.upd (F := [S1.next]) (.inl (by simp))) (by simp)
 have gn : S2.get S1.next = some (.cells (.list [.int .i64 x.1.1, .int .i64 x.1.2, .slice b1 x.2.1.length c1, .slice b2 x.2.2.1.length c2, .int .i64 x.2.2.2]) false) := by rw [hS2, DS.upd_get_self, DS.new_get_self G1]; rfl
 have G2 := X2.good G1
 have g2b := X2.keep g2a (by simp)
 have hl1 : ldA 5 (.pointer (some ⟨S1.next, 0, none⟩)) S2 = some (.agg ⟨[.int .i64 x.1.1, .int .i64 x.1.2, .slice b1 x.2.1.length c1, .slice b2 x.2.2.1.length c2, .int .i64 x.2.2.2]⟩) := by
  simp only [ldA, DS.read, gn]
  rfl
 have hl2 : ldA 5 (.pointer (some ⟨p2, 0, none⟩)) S2 = some (.agg ⟨[.int .i64 x.1.1, .int .i64 x.1.2, .slice b3 x.2.1.length c3, .slice b4 x.2.2.1.length c4, .int .i64 x.2.2.2]⟩) := by
  simp only [ldA, DS.read, g2b]
  rfl
 have X02 := X0.trans' (X1.trans' X2)
 simp (maxDischargeDepth := 8) only [sA, sM, zb, zo, zm, getN, Nat.reduceAdd, zh, zg, DS.wrC, Cells.size, Cells.fillFrom, Cells.set, zA, foot, Nat.reduceLT, t2, t3, t5, t6, t7, t8, G1, ← hS2, hl1, hl2]
 refine W.mono (PX h13 i13 hlf (d := d + 12) h8 G2 (r1.stab X2 (by simp)) (hr0.stab X02 (by simp))) ?_
 rintro ⟨v3, S3⟩ ⟨h3, X3⟩
 simp only at h3 X3
 subst h3
 have G3 := X3.good G2
 have X03 := X02.trans' X3
 have g2c := X3.keep g2b (by simp)
 have hl3 : ldA 5 (.pointer (some ⟨p2, 0, none⟩)) S3 = some (.agg ⟨[.int .i64 x.1.1, .int .i64 x.1.2, .slice b3 x.2.1.length c3, .slice b4 x.2.2.1.length c4, .int .i64 x.2.2.2]⟩) := by
  simp only [ldA, DS.read, g2c]
  rfl
 have hne := NK x
 have hbv3 := (hbv.keep (X1.trans' X2) (by simp)).keep X3 (by simp)
 have hbl := hbv3.lt
 rcases hbv3 with ⟨_, h0⟩ | ⟨k1, o1, sp1, cc1, rfl, _, _, hrd1⟩
 · exact absurd h0 hne
 have hk1 := hbk k1 (by simp [blk])
 have hk1' := hbl k1 (by simp [blk])
 have tb := Wg (YE x)
 have hTN : FY .neq ⟨⟨(YE x).map fun n => UInt8.ofNat n.toNat⟩⟩ ⟨⟨(YE x).map fun n => UInt8.ofNat n.toNat⟩⟩ = some (.bool false) := by
  show some (Value.bool (!(Yk _ _))) = _
  rw [Z7, beq_self_eq_true]
  rfl
 simp (maxDischargeDepth := 8) only [sA, sM, zb, zk, foot, Nat.reduceLT, t2, t3, t5, t6, t7, t8, hl3, hrd1, tb]
 refine W.masked (hE.fr _) (Rq hO (d := d + 7) h14 i14 (Yb G3 fun k hk => ⟨by (simp only [hidden, shielded, noteAt, zO, Bool.or_false, Bool.or_eq_false_iff, Bool.and_eq_false_iff, Zk, Zv, Zs, true_and, and_true, true_or, or_true] <;> omega), by (simp only [hidden, shielded, noteAt, zO, Bool.or_false, Bool.or_eq_false_iff, Bool.and_eq_false_iff, Zk, Zv, Zs, true_and, and_true, true_or, or_true] <;> omega)⟩) (hr0.ofLt X03 fun k hk => Zj (by (simp only [hidden, shielded, noteAt, zO, Bool.or_false, Bool.or_eq_false_iff, Bool.and_eq_false_iff, Zk, Zv, Zs, true_and, and_true, true_or, or_true] <;> omega))) hm) ?_
 rintro v5 s5 ⟨hx5, X5, b5⟩ df
 simp only at hx5 X5 b5
 rcases SlX.bytes hx5 with ⟨_, h0⟩ | ⟨k2, o2, sp2, cc2, rfl, _, _, hrd2⟩
 · exact absurd h0 hne
 have hk2 : S3.next ≤ k2 := b5 k2 (by simp [blk])
 have X5' := Ext.unmask' X5 df
 obtain ⟨S5, hS5⟩ : ∃ S5 : DS, S5 = Zi S3 s5 := ⟨_, rfl⟩
 have hrd3 : S5.read k2 o2 (YE x).length = some (u8s (YE x)) := by
  rw [hS5]
  unfold DS.read at hrd2 ⊢
  rw [YG (by (simp only [hidden, shielded, noteAt, zO, Bool.or_false, Bool.or_eq_false_iff, Bool.and_eq_false_iff, Zk, Zv, Zs, true_and, and_true, true_or, or_true] <;> omega)) X5]
  exact hrd2
 rw [← hS5] at X5'
 have G5 := X5'.good G3
 have X15 := (X1.trans' X2).trans' (X3.trans' X5')
 simp (maxDischargeDepth := 8) only [sA, sM, zb, zo, zk, foot, Nat.reduceLT, t2, t3, t5, t6, t7, t8, ← hS5, hrd3, tb, hTN]
 exact GO hC hG' hR hT hE hQf hO G5 (X15.keep g3 (by simp)) hv (by simp only [sA, Nat.reduceEqDiff, t3]) (by simp only [sA, Nat.reduceEqDiff, t7]) (by simp only [sA, Nat.reduceEqDiff, t8]) (hc.elim (fun h => .inl ⟨h.1, h.2.1, h.2.2.keep X15 (by simp)⟩) .inr)
theorem N8 (hW : Mj E) {s : DS} (f3 : E.fn 3 = some d3) (i3 : E.intr 3 = none) (h6 : E.intr 6 = some Vo) (h13 : E.fn 13 = some d13) (i13 : E.intr 13 = none) (h14 : E.fn 14 = some d14) (i14 : E.intr 14 = none)
 (h10 : E.fn 10 = some d10) (i10 : E.intr 10 = none) (h11 : E.fn 11 = some d11) (i11 : E.intr 11 = none) {cs : List Value} {x : Yn} {y : Rp}
 (hG : s.Good) (hr : Yu 0 s cs x) (ox : Dq x) (hv : I64 y.v) :
 W (dcall E (d + 14) (.func (.func 3) #[] #[]) [.agg ⟨cs⟩, .agg ⟨[.int .i64 y.c, .int .i64 y.n, .bool y.rej, .int .i64 y.trap, .int .i64 y.v, .int .i64 y.gas]⟩] s) fun r => r.1 = .bool true := by
 have lv : ∀ dd s, dcall E (dd + 1) (.func (.func 6) #[] #[]) [] s = some (.bool true, s) := fun _ _ => RI h6 rfl
 have hr' := hr
 obtain ⟨b1, c1, b2, c2, q1, m1, a1⟩ := hr'
 subst q1
 rw [zj i3 (show E.fn 3 = some dLc from by rw [← M2]; exact f3) rfl]
 obtain ⟨S1, hS1⟩ : ∃ S1 : DS, S1 = (s.new (.cells (.list [.int .i64 x.1.1, .int .i64 x.1.2, .slice b1 x.2.1.length c1, .slice b2 x.2.2.1.length c2, .int .i64 x.2.2.2]) false)).new (.cells (.list [.int .i64 y.c, .int .i64 y.n, .bool y.rej, .int .i64 y.trap, .int .i64 y.v, .int .i64 y.gas]) false) := ⟨_, rfl⟩
 have X1 : ∀ F, Ext F s S1 := fun F => by rw [hS1]; exact Ext.new.trans' Ext.new
 have n1 : S1.next = s.next + 2 := by rw [hS1]; rfl
 have g2 : S1.get s.next = some (.cells (.list [.int .i64 x.1.1, .int .i64 x.1.2, .slice b1 x.2.1.length c1, .slice b2 x.2.2.1.length c2, .int .i64 x.2.2.2]) false) := by rw [hS1]; simp (maxDischargeDepth := 8) only [sM, z8, hG]
 have g3 : S1.get (s.next + 1) = some (.cells (.list [.int .i64 y.c, .int .i64 y.n, .bool y.rej, .int .i64 y.trap, .int .i64 y.v, .int .i64 y.gas]) false) := by rw [hS1]; simp (maxDischargeDepth := 8) only [sM, z8, hG]
 have G1 := (X1 []).good hG
 simp (maxDischargeDepth := 8) only [sA, sM, zb, zo, zm, Cells.get, getN, pp, pv, pg, Nat.reduceLT, dLc, hG, ← hS1, g2]
 clear hS1
 by_cases k1 : (20000 : Int) < (x.2.1.length : Int)
 · simp only [sA, zb, Nat.reduceEqDiff, za, ze, k1, lv]
 by_cases k2 : (5000 : Int) < (x.2.2.1.length : Int)
 · simp only [sA, zb, zo, zm, Nat.reduceEqDiff, za, ze, Cells.get, getN, k1, k2, g2, lv]
 have hl2 : ∀ S, Ext [] S1 S → ldA 5 (.pointer (some ⟨s.next, 0, none⟩)) S = some (.agg ⟨[.int .i64 x.1.1, .int .i64 x.1.2, .slice b1 x.2.1.length c1, .slice b2 x.2.2.1.length c2, .int .i64 x.2.2.2]⟩) := fun S X => by
  have := X.keep g2 (by simp)
  simp only [ldA, DS.read, this]
  rfl
 have hl3 : ∀ S, Ext [] S1 S → ldA 6 (.pointer (some ⟨s.next + 1, 0, none⟩)) S = some (.agg ⟨[.int .i64 y.c, .int .i64 y.n, .bool y.rej, .int .i64 y.trap, .int .i64 y.v, .int .i64 y.gas]⟩) := fun S X => by
  have := X.keep g3 (by simp)
  simp only [ldA, DS.read, this]
  rfl
 simp (maxDischargeDepth := 8) only [sA, sM, zb, zo, zm, Cells.get, getN, Nat.reduceLT, k1, k2, g2, hl2 S1 .refl]
 refine W.mono (DK hC hE hQf hW (d := d + 3) hT G1 (hr.stab (X1 []) (by simp))) ?_
 rintro ⟨v2, S2⟩ ⟨X2, h2⟩
 simp only at X2 h2
 have G2 := X2.good G1
 have h2 : ∃ bv e, v2 = .tuple ⟨[bv, .int .i64 e]⟩ ∧ ((e = 0 ∧ XT x ∧ SlR S2 bv (YE x) ∧ ∀ k, k ∈ blk bv → s.next ≤ k) ∨ (e = 1 ∧ ¬ XT x ∧ bv = .slice none 0 0)) := by
  rcases h2 with ⟨hn, h2⟩ | ⟨hm, w, h2, h3, h4, h5⟩
  · exact ⟨_, _, h2, .inr ⟨rfl, hn, rfl⟩⟩
  · exact ⟨_, _, h2, .inl ⟨rfl, hm, SlR.of h3 h4, fun k hk => by have := (h5 k hk).1; omega⟩⟩
 obtain ⟨bv, e, rfl, hb⟩ := h2
 simp (maxDischargeDepth := 8) only [sA, sM, zb, getN, Nat.reduceLT, hl3 S2 X2]
 have enc : W (dcall E (d + 13) (.func (.func 8) #[] #[]) [.agg ⟨y.cells⟩] S2) fun r => Ext [] S2 r.2 ∧ ∃ cv f, r.1 = .tuple ⟨[cv, .int .i64 f]⟩ ∧ ((f = 0 ∧ ZE y ∧ SlR r.2 cv (encR y)) ∨ (f = 1 ∧ ¬ ZE y ∧ cv = .slice none 0 0)) := by
  by_cases hy : ZE y
  · refine W.mono (D8 hC hT hE (d := d + 4) G2 y hy) ?_
    rintro r ⟨w, h1, h2, h3, h4, h5⟩
    exact ⟨h5, _, _, h1, .inl ⟨rfl, hy, SlR.of h2 h3⟩⟩
  · refine W.mono (D7 hC hT hE (d := d + 4) G2 y hy) ?_
    rintro r ⟨h1, h5⟩
    exact ⟨h5, _, _, h1, .inr ⟨rfl, hy, rfl⟩⟩
 refine W.mono enc ?_
 rintro ⟨v3, S3⟩ ⟨X3, cv, f, hv3, hc⟩
 simp only at X3 hv3 hc
 subst hv3
 have G3 := X3.good G2
 have X13 := X2.trans' X3
 obtain ⟨zx, hzx⟩ : ∃ zx, zx = decide (XT x) := ⟨_, rfl⟩
 obtain ⟨zy, hzy⟩ : ∃ zy, zy = decide (ZE y) := ⟨_, rfl⟩
 have ez : (e = 0) = (zx = true) := by
  rcases hb with ⟨h1, h2, _⟩ | ⟨h1, h2, _⟩
  · rw [hzx, h1]; simp [h2]
  · rw [hzx, h1]; simp [h2]
 have fz : (f = 0) = (zy = true) := by
  rcases hc with ⟨h1, h2, _⟩ | ⟨h1, h2, _⟩
  · rw [hzy, h1]; simp [h2]
  · rw [hzy, h1]; simp [h2]
 simp (maxDischargeDepth := 8) only [sA, sM, zb, getN, foot, Nat.reduceLT, lv, hl2 S3 X13, hl3 S3 X13]
 have leS : s.next < S3.next := by have := X13.le; omega
 refine W.masked (hE.fr _) (Gb hT (d := d + 10) (Yb G3 fun k hk => ⟨by (simp only [hidden, shielded, noteAt, zO, Bool.or_false, Bool.or_eq_false_iff, Bool.and_eq_false_iff, Zk, Zv, Zs, true_and, and_true, true_or, or_true] <;> omega), by (simp only [hidden, shielded, noteAt, zO, Bool.or_false, Bool.or_eq_false_iff, Bool.and_eq_false_iff, Zk, Zv, Zs, true_and, and_true, true_or, or_true] <;> omega)⟩) x b1 b2 c1 c2) ?_
 rintro v4 s4 ⟨h4, X4⟩ df
 simp only at h4 X4
 subst h4
 rw [← hzx]
 have X4' := Ext.unmask' X4 df
 obtain ⟨S4, hS4⟩ : ∃ S4 : DS, S4 = Zi S3 s4 := ⟨_, rfl⟩
 have n4 : s4.next = S4.next := by rw [hS4]; rfl
 rw [← hS4] at X4'
 have X14 := X13.trans' X4'
 have G4 := X4'.good G3
 simp (maxDischargeDepth := 8) only [sA, sM, foot, Nat.reduceLT, ← hS4, n4]
 refine W.mono (GT h10 i10 (d := d + 12) G4 x b1 b2 c1 c2) ?_
 rintro ⟨v5, S5⟩ ⟨h5, X5⟩
 simp only at h5 X5
 subst h5
 rw [← hzx]
 have X15 := X14.trans' X5
 have G5 := X5.good G4
 simp (maxDischargeDepth := 8) only [sA, sM, zb, zo, zm, zH, foot, Nat.reduceLT, beq_self_eq_true, ez, Bool.decide_eq_true, hl2 S5 X15]
 refine W.mono (GT h10 i10 (d := d + 12) G5 x b1 b2 c1 c2) ?_
 rintro ⟨v6, S6⟩ ⟨h6', X6⟩
 simp only at h6' X6
 subst h6'
 rw [← hzx]
 have X16 := X15.trans' X6
 have G6 := X6.good G5
 simp (maxDischargeDepth := 8) only [sA, sM, zb, zo, zm, zH, foot, Nat.reduceLT, beq_self_eq_true, fz, Bool.decide_eq_true, hl3 S6 X16]
 refine W.mono (TS h11 i11 (d := d + 12) G6 y) ?_
 rintro ⟨v7, S7⟩ ⟨h7, X7⟩
 simp only at h7 X7
 subst h7
 rw [← hzy]
 have X17 := X16.trans' X7
 have G7 := X7.good G6
 have X37 := X4'.trans' (X5.trans' (X6.trans' X7))
 simp (maxDischargeDepth := 8) only [sA, sM, zb, zH, foot, Nat.reduceLT, beq_self_eq_true]
 exact Nj hC hG' hR hT hE hQf hO G7 hr ((X1 []).trans' X17) ox (X17.keep g2 (by simp)) (X17.keep g3 (by simp)) hv h13 i13 h14 i14 (by simp only [sA, Nat.reduceEqDiff]) (by simp only [sA, Nat.reduceEqDiff]) (by simp only [sA, Nat.reduceEqDiff]) (by simp only [sA, Nat.reduceEqDiff]) (by simp only [sA, Nat.reduceEqDiff]) (by simp only [sA, Nat.reduceEqDiff])
  (hb.elim (fun h => .inl ⟨h.1, h.2.1, h.2.2.1.keep (X3.trans' X37) (by simp), h.2.2.2⟩) fun h => .inr ⟨h.1, h.2.2⟩) (hc.elim (fun h => .inl ⟨h.1, h.2.1, h.2.2.keep X37 (by simp)⟩) fun h => .inr ⟨h.1, h.2.2⟩)
end
end Go.Dx.TbA
