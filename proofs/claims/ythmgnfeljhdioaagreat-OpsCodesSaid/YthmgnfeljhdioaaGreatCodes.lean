/- OpsCodes returns true for every input, and leaves what it was given as it was. -/
import Derived.Test.YthmgnfeljhdioaaGreatCodesRun
import Derived.Test.YthmgnfeljhdioaaGreatCodesFacts
namespace Go.Proofs.YthmgnfeljhdioaaGreat.opsCodes
open Go.ChangeShapes Go.WideShapes Go.ChangeAt Go.RowKit Go.Dx Go.Shelf
set_option linter.unusedVariables false
set_option linter.unusedSimpArgs false
set_option maxRecDepth 100000
theorem own : ownKnob Tryz.prog.godebug = none := by kernel_rfl
theorem shape25 : WL Tryz.prog 9 25 = some [.int .i64, .int .i64, .opq, .opq, .int .i64] := by kernel_rfl
theorem shape27 : WL Tryz.prog 9 27 = some [.int .i64, .int .i64, .bool, .int .i64, .int .i64, .int .i64] := by kernel_rfl
theorem readable : ∀ t ∈ Tryz.f3.params.toList, Tryz.prog.readableRec t = true ∧ t < Tryz.prog.types.size := by
  rw [Tryz.params3]
  intro t ht
  simp only [List.mem_cons, List.not_mem_nil, or_false] at ht
  rcases ht with rfl | rfl <;> exact ⟨by kernel_rfl, of_decide_eq_true (by kernel_rfl)⟩
/-- WHAT THE WALK GIVES, FOR EVERY ARGUMENT. -/
theorem contract (H : Type) (enc : TypeId × Value → H) (W : World) (base : Nat) (args : Array Value) (ds gs : List (DataW H)) (before : List MemPlace)
    (hval : ∀ (j : Nat) t v, Tryz.f3.params[j]? = some t → args[j]? = some v → Value.okWide Tryz.prog W .any base t v)
    (hW : DataW.Whole enc Tryz.prog Tryz.f3.params.toList Rows.opsCodesSpec.vars false W args.toList ds gs before) :
    Calls Tryz.prog 3 args W fun e W' => ∃ v, e = .returned v ∧ Rows.opsCodesSpec.post enc Tryz.prog Tryz.f3 false true false false W args v W' := by
  have hW' := hW
  obtain ⟨p, q, hA0, hV, _, _, _⟩ := hW
  have hA : DataW.TrodAll enc Tryz.prog W 0 (fun _ => true) true Tryz.f3.params.toList args.toList ds p := hA0
  rw [Tryz.params3] at hA hval
  obtain ⟨v0, vs0, d0, ds0, p0, q0, hargs0, hds0, _, t0, r0⟩ := trodAll_cons hA
  obtain ⟨v1, vs1, d1, ds1, p1, q1, hargs1, hds1, _, t1, r1⟩ := trodAll_cons r0
  obtain ⟨hn1, hn2, _⟩ := trodAll_nil r1
  subst hn1 hn2
  subst hds1
  subst hds0
  subst hargs1
  obtain rfl : args = #[v0, v1] := by cases args; simp_all
  obtain ⟨rfl, rfl⟩ := trodVars_none hV
  obtain ⟨fu0, tf0⟩ := t0
  have k0_0 := Wb 9 fu0 _ _ _ _ shape25 tf0
  have hv0 := hval 0 25 v0 rfl rfl
  simp only [Value.okWide, Tryz.underlying25] at hv0
  obtain ⟨cs0, rfl, hsz0, hrow0⟩ := hv0
  obtain ⟨cs0⟩ := cs0
  simp only [Value.cells] at k0_0 tf0
  obtain ⟨c0, x0, e0, g0, k0_1⟩ := z7.cons k0_0
  obtain ⟨c1, x1, e1, g1, k0_2⟩ := z7.cons k0_1
  obtain ⟨c2, x2, e2, g2, k0_3⟩ := z7.cons k0_2
  obtain ⟨c3, x3, e3, g3, k0_4⟩ := z7.cons k0_3
  obtain ⟨c4, x4, e4, g4, k0_5⟩ := z7.cons k0_4
  have z0 := z7.nil k0_5
  subst z0
  subst e4
  subst e3
  subst e2
  subst e1
  subst e0
  obtain ⟨a0, rfl, u0⟩ := g0
  obtain ⟨a1, rfl, u1⟩ := g1
  have h2 : opq c2 = true := g2
  have h3 : opq c3 = true := g3
  obtain ⟨a4, rfl, u4⟩ := g4
  obtain ⟨l2, m2⟩ := FO (hu := Tryz.underlying25) (N := 9) (ks := [.int .u8]) (ts := [3, 3, 22, 23, 3]) (List.mem_of_getElem? (i := 2) rfl) (by kernel_rfl) (c := c2) rfl Tryz.underlying22 (by kernel_rfl) (by kernel_rfl) (by decide) (by kernel_rfl) rfl rfl hrow0 h2 tf0
  obtain ⟨l3, m3⟩ := FO (hu := Tryz.underlying25) (N := 9) (ks := [.int .i64]) (ts := [3, 3, 22, 23, 3]) (List.mem_of_getElem? (i := 3) rfl) (by kernel_rfl) (c := c3) rfl Tryz.underlying23 (by kernel_rfl) (by kernel_rfl) (by decide) (by kernel_rfl) rfl rfl hrow0 h3 tf0
  obtain ⟨fu1, tf1⟩ := t1
  have k1_0 := Wb 9 fu1 _ _ _ _ shape27 tf1
  have hv1 := hval 1 27 v1 rfl rfl
  simp only [Value.okWide, Tryz.underlying27] at hv1
  obtain ⟨cs1, rfl, hsz1, hrow1⟩ := hv1
  obtain ⟨cs1⟩ := cs1
  simp only [Value.cells] at k1_0
  obtain ⟨c5, x5, e5, g5, k1_1⟩ := z7.cons k1_0
  obtain ⟨c6, x6, e6, g6, k1_2⟩ := z7.cons k1_1
  obtain ⟨c7, x7, e7, g7, k1_3⟩ := z7.cons k1_2
  obtain ⟨c8, x8, e8, g8, k1_4⟩ := z7.cons k1_3
  obtain ⟨c9, x9, e9, g9, k1_5⟩ := z7.cons k1_4
  obtain ⟨c10, x10, e10, g10, k1_6⟩ := z7.cons k1_5
  have z1 := z7.nil k1_6
  subst z1
  subst e10
  subst e9
  subst e8
  subst e7
  subst e6
  subst e5
  obtain ⟨a5, rfl, u5⟩ := g5
  obtain ⟨a6, rfl, u6⟩ := g6
  obtain ⟨a7, rfl⟩ := g7
  obtain ⟨a8, rfl, u8⟩ := g8
  obtain ⟨a9, rfl, u9⟩ := g9
  obtain ⟨a10, rfl, u10⟩ := g10
  refine (walk a0 u0 a1 u1 c2 l2 m2 c3 l3 m3 a4 u4 a5 u5 a6 u6 a7 a8 u8 a9 u9 a10 u10).mono fun e W' ⟨he, hk⟩ => ?_
  subst he
  exact ⟨_, rfl, TU laid readable hW' rfl (fun _ _ _ => trodAll_cons_mk (shut_bool Tryz.underlying4 _) trodAll_mk0) rfl rfl hk⟩

def zargs : Array Value := #[.agg #[.int .i64 0, .int .i64 0, .slice none 0 0, .slice none 0 0, .int .i64 0], .agg #[.int .i64 0, .int .i64 0, .bool false, .int .i64 0, .int .i64 0, .int .i64 0]]
theorem laid_met (os : Os) : laidMet Tryz.prog Rows.opsCodesRow.laid ((World.holding Tryz.prog os ⟨#[], #[], []⟩).forCall (fun _ _ => 0) ⟨#[], zargs, []⟩).memory :=
  laidMet_of_run' 8 (by kernel_rfl) (by kernel_rfl)
theorem reads (os : Os) {H : Type} (enc : TypeId × Value → H) : ∃ places, DataW.whole enc Tryz.prog ((World.holding Tryz.prog os ⟨#[], #[], []⟩).forCall (fun _ _ => 0) ⟨#[], zargs, []⟩).memory Tryz.f3.params.toList Rows.opsCodesSpec.vars false zargs.toList 12 = some ([.agg [.lit (.int .i64 0), .lit (.int .i64 0), .nil, .nil, .lit (.int .i64 0)], .agg [.lit (.int .i64 0), .lit (.int .i64 0), .lit (.bool false), .lit (.int .i64 0), .lit (.int .i64 0), .lit (.int .i64 0)]], [], places) :=
  ⟨[], by kernel_rfl⟩
theorem lifted (os : Os) (started : os.Started) (H : Type) (enc : TypeId × Value → H) (F : Stop.Interp) :
    ReturnsInHanded {} Tryz.checked os 3 .any ((OpenSpec.ofChange Rows.opsCodesSpec).preRow enc Tryz.prog Tryz.f3 Rows.opsCodesRow.domain false Rows.opsCodesRow.laid) (((OpenSpec.ofChange Rows.opsCodesSpec).at F).post enc Tryz.prog Tryz.f3 false true false false) := by
  obtain ⟨places, hx⟩ := reads os enc
  refine returnsInHanded_of_row (C := Tryz.checked) (s := OpenSpec.ofChange Rows.opsCodesSpec) own started (by kernel_rfl) Tryz.func3
    (witness_row_at (enc := enc) (C := Tryz.checked) false (World.holding Tryz.prog os ⟨#[], #[], []⟩) zargs rfl (by kernel_rfl) (by kernel_rfl) (by kernel_rfl)
      (OpenSpec.preRow_of_cond 12 hx (by kernel_rfl) (fun k hk => by cases hk) (by kernel_rfl) (laid_met os))) ?_
  intro W base args ds gs before hval hW _ _ _ _ _ _
  exact contract H enc W base args ds gs before hval hW
theorem proved : Rows.OpsCodesSaid :=
  OpenClaim.holds_of_cond 3 Tryz.f3 rfl rfl rfl rfl rfl rfl rfl ⟨rfl, rfl, rfl, rfl, rfl⟩ rfl rfl rfl rfl rfl (by kernel_rfl) Tryz.func3 closed
    (of_decide_eq_true (by kernel_rfl)) (by unfold Func.isWrapper; first | (rw [if_pos (by decide +kernel)]; kernel_rfl) | (rw [if_neg (by decide +kernel)]; exact ⟨rfl, rfl⟩))
    (fun os started H enc _ F => by rw [OpenClaim.pre_eq_preRow]; exact lifted os started H enc F)
end Go.Proofs.YthmgnfeljhdioaaGreat.opsCodes
