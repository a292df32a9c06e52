/- ReplicaSeats returns true for every input, and leaves what it was given as it was. -/
import Derived.Test.YtpfkbiaikfbpeaaGreatSeatsRun
import Derived.Test.YtpfkbiaikfbpeaaGreatSeatsFacts
namespace Go.Proofs.YtpfkbiaikfbpeaaGreat.replicaSeats
open Go.ChangeShapes Go.WideShapes Go.ChangeAt Go.RowKit Go.Dx Go.Shelf
set_option linter.unusedVariables false
set_option linter.unusedSimpArgs false
set_option maxRecDepth 100000
theorem own : ownKnob Tryz.prog.godebug = none := by kernel_rfl
theorem shape3 : Kf Tryz.prog 9 3 = some [.int .i64] := by kernel_rfl
theorem shape23 : Kf Tryz.prog 9 23 = some [.int .i64, .int .i64, .int .i64, .int .i64, .int .i64, .int .i64, .int .i64] := by kernel_rfl
theorem readable : ∀ t ∈ Tryz.f3.params.toList, Tryz.prog.readableRec t = true ∧ t < Tryz.prog.types.size := by
  rw [Tryz.params3]
  intro t ht
  simp only [List.mem_cons, List.not_mem_nil, or_false] at ht
  rcases ht with rfl | rfl | rfl <;> exact ⟨by kernel_rfl, of_decide_eq_true (by kernel_rfl)⟩
/-- WHAT THE WALK GIVES, FOR EVERY ARGUMENT. -/
theorem contract (H : Type) (enc : TypeId × Value → H) (W : World) (base : Nat) (args : Array Value) (ds gs : List (DataW H)) (before : List MemPlace)
    (hval : ∀ (j : Nat) t v, Tryz.f3.params[j]? = some t → args[j]? = some v → Value.okWide Tryz.prog W .any base t v)
    (hW : DataW.Whole enc Tryz.prog Tryz.f3.params.toList Rows.replicaSeatsSpec.vars false W args.toList ds gs before) :
    Calls Tryz.prog 3 args W fun e W' => ∃ v, e = .returned v ∧ Rows.replicaSeatsSpec.post enc Tryz.prog Tryz.f3 false true false false W args v W' := by
  have hW' := hW
  obtain ⟨p, q, hA0, hV, _, _, _⟩ := hW
  have hA : DataW.TrodAll enc Tryz.prog W 0 (fun _ => true) true Tryz.f3.params.toList args.toList ds p := hA0
  rw [Tryz.params3] at hA hval
  obtain ⟨v0, vs0, d0, ds0, p0, q0, hargs0, hds0, _, t0, r0⟩ := trodAll_cons hA
  obtain ⟨v1, vs1, d1, ds1, p1, q1, hargs1, hds1, _, t1, r1⟩ := trodAll_cons r0
  obtain ⟨v2, vs2, d2, ds2, p2, q2, hargs2, hds2, _, t2, r2⟩ := trodAll_cons r1
  obtain ⟨hn1, hn2, _⟩ := trodAll_nil r2
  subst hn1 hn2
  subst hds2
  subst hds1
  subst hds0
  subst hargs2
  subst hargs1
  obtain rfl : args = #[v0, v1, v2] := by cases args; simp_all
  obtain ⟨rfl, rfl⟩ := trodVars_none hV
  obtain ⟨fu0, tf0⟩ := t0
  have k0_0 := Qm 9 fu0 _ _ _ _ shape23 tf0
  have hv0 := hval 0 23 v0 rfl rfl
  simp only [Value.okWide, Tryz.underlying23] at hv0
  obtain ⟨cs0, rfl, _, _⟩ := hv0
  obtain ⟨cs0⟩ := cs0
  simp only [Value.cells] at k0_0
  obtain ⟨c0, x0, e0, g0, k0_1⟩ := YK.cons k0_0
  obtain ⟨c1, x1, e1, g1, k0_2⟩ := YK.cons k0_1
  obtain ⟨c2, x2, e2, g2, k0_3⟩ := YK.cons k0_2
  obtain ⟨c3, x3, e3, g3, k0_4⟩ := YK.cons k0_3
  obtain ⟨c4, x4, e4, g4, k0_5⟩ := YK.cons k0_4
  obtain ⟨c5, x5, e5, g5, k0_6⟩ := YK.cons k0_5
  obtain ⟨c6, x6, e6, g6, k0_7⟩ := YK.cons k0_6
  have z0 := YK.nil k0_7
  subst z0
  subst e6
  subst e5
  subst e4
  subst e3
  subst e2
  subst e1
  subst e0
  obtain ⟨a0, rfl, _⟩ := g0
  obtain ⟨a1, rfl, _⟩ := g1
  obtain ⟨a2, rfl, _⟩ := g2
  obtain ⟨a3, rfl, _⟩ := g3
  obtain ⟨a4, rfl, _⟩ := g4
  obtain ⟨a5, rfl, _⟩ := g5
  obtain ⟨a6, rfl, _⟩ := g6
  obtain ⟨fu1, tf1⟩ := t1
  have k1_0 := Qm 9 fu1 _ _ _ _ shape3 tf1
  have hv1 := hval 1 3 v1 rfl rfl
  obtain ⟨a7, rfl⟩ := P9 Tryz.underlying3 hv1
  obtain ⟨fu2, tf2⟩ := t2
  have k2_0 := Qm 9 fu2 _ _ _ _ shape3 tf2
  have hv2 := hval 2 3 v2 rfl rfl
  obtain ⟨a8, rfl⟩ := P9 Tryz.underlying3 hv2
  refine (walk a0 a1 a2 a3 a4 a5 a6 a7 a8 W).mono fun e W' ⟨he, hk⟩ => ?_
  subst he
  exact ⟨_, rfl, Tb laid readable hW' rfl (fun _ _ _ => trodAll_cons_mk (shut_bool Tryz.underlying4 _) trodAll_mk0) rfl rfl hk⟩

def zargs : Array Value := #[.agg #[.int .i64 0, .int .i64 0, .int .i64 0, .int .i64 0, .int .i64 0, .int .i64 0, .int .i64 0], .int .i64 0, .int .i64 0]
theorem laid_met (os : Os) : laidMet Tryz.prog Rows.replicaSeatsRow.laid ((World.holding Tryz.prog os ⟨#[], #[], []⟩).forCall (fun _ _ => 0) ⟨#[], zargs, []⟩).memory :=
  laidMet_of_run' 8 (by kernel_rfl) (by kernel_rfl)
theorem reads (os : Os) {H : Type} (enc : TypeId × Value → H) : ∃ places, DataW.whole enc Tryz.prog ((World.holding Tryz.prog os ⟨#[], #[], []⟩).forCall (fun _ _ => 0) ⟨#[], zargs, []⟩).memory Tryz.f3.params.toList Rows.replicaSeatsSpec.vars false zargs.toList 12 = some ([.agg [.lit (.int .i64 0), .lit (.int .i64 0), .lit (.int .i64 0), .lit (.int .i64 0), .lit (.int .i64 0), .lit (.int .i64 0), .lit (.int .i64 0)], .lit (.int .i64 0), .lit (.int .i64 0)], [], places) :=
  ⟨[], by kernel_rfl⟩
theorem lifted (os : Os) (started : os.Started) (H : Type) (enc : TypeId × Value → H) (F : Stop.Interp) :
    ReturnsInHanded {} Tryz.checked os 3 .any ((OpenSpec.ofChange Rows.replicaSeatsSpec).preRow enc Tryz.prog Tryz.f3 Rows.replicaSeatsRow.domain false Rows.replicaSeatsRow.laid) (((OpenSpec.ofChange Rows.replicaSeatsSpec).at F).post enc Tryz.prog Tryz.f3 false true false false) := by
  obtain ⟨places, hx⟩ := reads os enc
  refine returnsInHanded_of_row (C := Tryz.checked) (s := OpenSpec.ofChange Rows.replicaSeatsSpec) own started (by kernel_rfl) Tryz.func3
    (witness_row_at (enc := enc) (C := Tryz.checked) false (World.holding Tryz.prog os ⟨#[], #[], []⟩) zargs rfl (by kernel_rfl) (by kernel_rfl) (by kernel_rfl)
      (OpenSpec.preRow_of_cond 12 hx (by kernel_rfl) (fun k hk => by cases hk) (by kernel_rfl) (laid_met os))) ?_
  intro W base args ds gs before hval hW _ _ _ _ _ _
  exact contract H enc W base args ds gs before hval hW
theorem proved : Rows.ReplicaSeatsSaid :=
  OpenClaim.holds_of_cond 3 Tryz.f3 rfl rfl rfl rfl rfl rfl rfl ⟨rfl, rfl, rfl, rfl, rfl⟩ rfl rfl rfl rfl rfl (by kernel_rfl) Tryz.func3 closed
    (of_decide_eq_true (by kernel_rfl)) (by unfold Func.isWrapper; first | (rw [if_pos (by decide +kernel)]; kernel_rfl) | (rw [if_neg (by decide +kernel)]; exact ⟨rfl, rfl⟩))
    (fun os started H enc _ F => by rw [OpenClaim.pre_eq_preRow]; exact lifted os started H enc F)
end Go.Proofs.YtpfkbiaikfbpeaaGreat.replicaSeats
