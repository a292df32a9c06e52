/- ClusterNobody returns true for every input, and leaves what it was given as it was. -/
import Derived.Test.YteehmgfoclhokaaGreatNobodyRun
import Derived.Test.YteehmgfoclhokaaGreatNobodyFacts
namespace Go.Proofs.YteehmgfoclhokaaGreat.clusterNobody
open Go.ChangeShapes Go.WideShapes Go.ChangeAt Go.RowKit Go.Dx Go.Shelf
set_option linter.unusedVariables false
set_option linter.unusedSimpArgs false
set_option maxRecDepth 100000
theorem own : ownKnob Tryz.prog.godebug = none := by kernel_rfl
theorem shape39 : shapeK Tryz.prog 9 39 = some [.int .i64, .int .i64, .int .i64, .int .i64, .opq, .opq, .int .i64, .opq] := by kernel_rfl
theorem readable : ∀ t ∈ Tryz.f4.params.toList, Tryz.prog.readableRec t = true ∧ t < Tryz.prog.types.size := by
  rw [Tryz.params4]
  intro t ht
  simp only [List.mem_cons, List.not_mem_nil, or_false] at ht
  subst ht
  exact ⟨by kernel_rfl, of_decide_eq_true (by kernel_rfl)⟩
/-- WHAT THE WALK GIVES, FOR EVERY ARGUMENT. -/
theorem contract (H : Type) (enc : TypeId × Value → H) (W : World) (base : Nat) (args : Array Value) (ds gs : List (DataW H)) (before : List MemPlace)
    (hval : ∀ (j : Nat) t v, Tryz.f4.params[j]? = some t → args[j]? = some v → Value.okWide Tryz.prog W .any base t v)
    (hW : DataW.Whole enc Tryz.prog Tryz.f4.params.toList Rows.clusterNobodySpec.vars false W args.toList ds gs before) :
    Calls Tryz.prog 4 args W fun e W' => ∃ v, e = .returned v ∧ Rows.clusterNobodySpec.post enc Tryz.prog Tryz.f4 false true false false W args v W' := by
  have hW' := hW
  obtain ⟨p, q, hA0, hV, _, _, _⟩ := hW
  have hA : DataW.TrodAll enc Tryz.prog W 0 (fun _ => true) true Tryz.f4.params.toList args.toList ds p := hA0
  rw [Tryz.params4] at hA hval
  obtain ⟨v0, vs0, d0, ds0, p0, q0, hargs0, hds0, _, t0, r0⟩ := trodAll_cons hA
  obtain ⟨hn1, hn2, _⟩ := trodAll_nil r0
  subst hn1 hn2
  subst hds0
  obtain rfl : args = #[v0] := by cases args; simp_all
  obtain ⟨rfl, rfl⟩ := trodVars_none hV
  obtain ⟨fu0, tf0⟩ := t0
  have k0_0 := fits_trod 9 fu0 _ _ _ _ shape39 tf0
  have hv0 := hval 0 39 v0 rfl rfl
  simp only [Value.okWide, Tryz.underlying39] at hv0
  obtain ⟨cs0, rfl, _, _⟩ := hv0
  obtain ⟨cs0⟩ := cs0
  simp only [Value.cells] at k0_0
  obtain ⟨c0, x0, e0, g0, k0_1⟩ := FitK.cons k0_0
  obtain ⟨c1, x1, e1, g1, k0_2⟩ := FitK.cons k0_1
  obtain ⟨c2, x2, e2, g2, k0_3⟩ := FitK.cons k0_2
  obtain ⟨c3, x3, e3, g3, k0_4⟩ := FitK.cons k0_3
  obtain ⟨c4, x4, e4, g4, k0_5⟩ := FitK.cons k0_4
  obtain ⟨c5, x5, e5, g5, k0_6⟩ := FitK.cons k0_5
  obtain ⟨c6, x6, e6, g6, k0_7⟩ := FitK.cons k0_6
  obtain ⟨c7, x7, e7, g7, k0_8⟩ := FitK.cons k0_7
  have z0 := FitK.nil k0_8
  subst z0
  subst e7
  subst e6
  subst e5
  subst e4
  subst e3
  subst e2
  subst e1
  subst e0
  obtain ⟨a0, rfl, _⟩ := g0
  obtain ⟨a1, rfl, _⟩ := g1
  obtain ⟨a2, rfl, _⟩ := g2
  obtain ⟨a3, rfl, _⟩ := g3
  have h4 : opq c4 = true := g4
  have h5 : opq c5 = true := g5
  obtain ⟨a6, rfl, _⟩ := g6
  have h7 : opq c7 = true := g7
  refine (walk a0 a1 a2 a3 c4 c5 a6 c7 h4 h5 h7 W).mono fun e W' ⟨he, hk⟩ => ?_
  subst he
  exact ⟨_, rfl, post_kept laid readable hW' rfl (fun _ _ _ => trodAll_cons_mk (shut_bool Tryz.underlying4 _) trodAll_mk0) rfl rfl hk⟩

def zargs : Array Value := #[.agg #[.int .i64 0, .int .i64 0, .int .i64 0, .int .i64 0, .slice none 0 0, .slice none 0 0, .int .i64 0, .slice none 0 0]]
theorem laid_met (os : Os) : laidMet Tryz.prog Rows.clusterNobodyRow.laid ((World.holding Tryz.prog os ⟨#[], #[], []⟩).forCall (fun _ _ => 0) ⟨#[], zargs, []⟩).memory :=
  laidMet_of_run' 8 (by kernel_rfl) (by kernel_rfl)
theorem reads (os : Os) {H : Type} (enc : TypeId × Value → H) : ∃ places, DataW.whole enc Tryz.prog ((World.holding Tryz.prog os ⟨#[], #[], []⟩).forCall (fun _ _ => 0) ⟨#[], zargs, []⟩).memory Tryz.f4.params.toList Rows.clusterNobodySpec.vars false zargs.toList 12 = some ([.agg [.lit (.int .i64 0), .lit (.int .i64 0), .lit (.int .i64 0), .lit (.int .i64 0), .nil, .nil, .lit (.int .i64 0), .nil]], [], places) :=
  ⟨[], by kernel_rfl⟩
theorem lifted (os : Os) (started : os.Started) (H : Type) (enc : TypeId × Value → H) (F : Stop.Interp) :
    ReturnsInHanded {} Tryz.checked os 4 .any ((OpenSpec.ofChange Rows.clusterNobodySpec).preRow enc Tryz.prog Tryz.f4 Rows.clusterNobodyRow.domain false Rows.clusterNobodyRow.laid) (((OpenSpec.ofChange Rows.clusterNobodySpec).at F).post enc Tryz.prog Tryz.f4 false true false false) := by
  obtain ⟨places, hx⟩ := reads os enc
  refine returnsInHanded_of_row (C := Tryz.checked) (s := OpenSpec.ofChange Rows.clusterNobodySpec) own started (by kernel_rfl) Tryz.func4
    (witness_row_at (enc := enc) (C := Tryz.checked) false (World.holding Tryz.prog os ⟨#[], #[], []⟩) zargs rfl (by kernel_rfl) (by kernel_rfl) (by kernel_rfl)
      (OpenSpec.preRow_of_cond 12 hx (by kernel_rfl) (fun k hk => by cases hk) (by kernel_rfl) (laid_met os))) ?_
  intro W base args ds gs before hval hW _ _ _ _ _ _
  exact contract H enc W base args ds gs before hval hW
theorem proved : Rows.ClusterNobodySaid :=
  OpenClaim.holds_of_cond 4 Tryz.f4 rfl rfl rfl rfl rfl rfl rfl ⟨rfl, rfl, rfl, rfl, rfl⟩ rfl rfl rfl rfl rfl (by kernel_rfl) Tryz.func4 closed
    (of_decide_eq_true (by kernel_rfl)) (by unfold Func.isWrapper; first | (rw [if_pos (by decide +kernel)]; kernel_rfl) | (rw [if_neg (by decide +kernel)]; exact ⟨rfl, rfl⟩))
    (fun os started H enc _ F => by rw [OpenClaim.pre_eq_preRow]; exact lifted os started H enc F)
end Go.Proofs.YteehmgfoclhokaaGreat.clusterNobody
