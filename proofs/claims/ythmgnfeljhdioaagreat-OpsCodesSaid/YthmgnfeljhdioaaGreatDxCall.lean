/- A part. -/
import Derived.Test.YthmgnfeljhdioaaGreatDxCode
set_option linter.unusedVariables false
set_option linter.unusedSimpArgs false
set_option linter.unusedSectionVars false
namespace Go.Dx
open Go
theorem KK {α : Type} (l : List α) (i : Nat) : (PT.ofList l).get i = l[i]? := by
 have key : ∀ (l : List α) (p : Nat × PT α) (i : Nat), ((l.foldl (fun (p : Nat × PT α) x => (p.1 + 1, p.2.put p.1 (some x))) p).2).get i = if p.1 ≤ i ∧ i < p.1 + l.length then l[i - p.1]? else p.2.get i := by
  intro l
  induction l with
  | nil => intro p i; simp; omega
  | cons x l ih =>
   intro p i
   rw [List.foldl_cons, ih]
   simp only [List.length_cons, PT.get_put]
   by_cases h1 : p.1 + 1 ≤ i ∧ i < p.1 + 1 + l.length
   · rw [if_pos h1, if_pos (by omega)]
     rw [show i - p.1 = (i - (p.1 + 1)) + 1 from by omega, List.getElem?_cons_succ]
   · rw [if_neg h1]
     by_cases h2 : i = p.1
     · subst h2
       rw [if_pos rfl, if_pos (by omega)]
       simp
     · rw [if_neg h2, if_neg (by omega)]
 unfold PT.ofList
 rw [key]
 simp only [Nat.zero_le, Nat.zero_add, true_and, Nat.sub_zero, PT.get_nil]
 split
 · rfl
 · rename_i h
   rw [List.getElem?_eq_none (by omega)]
theorem LRel.getD_rel {β : Emb} : ∀ {l l' : List Value}, LRel β l l' → ∀ i : Nat, VRel β ((l[i]?).getD zv) ((l'[i]?).getD undef)
 | _, _, .nil, i => by simpa using VRel.undef
 | _, _, .cons h t, 0 => by simpa using h
 | _, _, .cons h t, i + 1 => by simpa using LRel.getD_rel t i
theorem Pw {β : Emb} {all : List Value} {X : Array Value} (h : LRel β all X.toList) {n : Nat} (hn : all.length ≤ n) :
 YF β n (WE all) (X ++ Array.replicate (n - X.size) undef) := by
 have hs : all.length = X.size := by simpa using h.length
 refine ⟨by simp; omega, fun i => ?_⟩
 unfold WE
 rw [KK]
 have h1 := LRel.getD_rel h i
 have : (X ++ Array.replicate (n - X.size) undef).getD i undef = (X.toList[i]?).getD undef := by
  simp only [Array.getD_eq_getD_getElem?, Array.getElem?_toList]
  by_cases hi : i < X.size
  · rw [Array.getElem?_append_left hi]
  · rw [Array.getElem?_append_right (by omega), Array.getElem?_eq_none (xs := X) (by omega), Array.getElem?_replicate]
    split <;> rfl
 rw [this]
 exact h1
theorem Kv {β : Emb} {n : Nat} : ∀ {ps : List Nat} {args args' : List Value} {t : PT Value} {tmps : Array Value}, LRel β args args' → (∀ p ∈ ps, p < n) → YF β n t tmps →
 YF β n (Zl t ps args) ((ps.zip args').foldl (fun tmps (x : Tmp × Value) => tmps.setIfInBounds x.1 x.2) tmps)
 | [], _, _, _, _, _, _, h => by simpa [Zl] using h
 | p :: ps, _, _, _, _, .nil, _, h => by simpa [Zl] using h
 | p :: ps, _, _, _, _, .cons hv hl, hp, h => by
  simp only [Zl, List.zip_cons_cons, List.foldl_cons]
  exact Kv hl (fun q hq => hp q (by simp [hq])) (h.put (hp p (by simp)) hv)
section
variable {P : Program} {β : Emb} {w : World} {s : DS} {t : PT Value} {tmps : Array Value} {n : Nat}
theorem RA (hR : Rel P β s.get w) {ty : TypeId} {g : Option Nat} (hg : ZV P ty = some g) {ρ : Operand → Value} {a : Operand} {A' : Value} (ha : VRel β (ρ a) A') {v : Value} (h : zk ρ s (.ld g a) = some v) :
 ∃ v', (do loadVar ty (← asAddr A') : Sem Value).run P w = .ok v' w ∧ VRel β v v' := by
 simp only [zk] at h
 generalize ρ a = A at ha h
 cases ha <;> simp only [reduceCtorEq] at h
 rename_i k off loc hl
 cases g with
 | none =>
  simp only at h
  split at h
  · rename_i c ro hk
    obtain ⟨l2, h1, ho⟩ := hR.obj k _ hk
    rw [hl] at h1; cases h1
    obtain ⟨v', hv1, hv2⟩ := ho.2.2.1 off v h
    refine ⟨v', ?_, hv2⟩
    have h1 := (Xc (w := w) hg).1
    simp only [Option.isSome_none] at h1
    simp [asAddr, loadVar, h1, hv1]
  · cases h
 | some n =>
  simp only at h
  split at h
  · rename_i l hk
    simp only [z2] at h
    subst h
    obtain ⟨l', e1, e2, e3, _⟩ := Yg hR hk hl
    have h1 := Xc (w := w) hg
    simp only [Option.isSome_some] at h1
    refine ⟨.agg l'.toArray, ?_, .agg (by simpa using e2)⟩
    simp [asAddr, loadVar, h1.1, zu (h1.2 n rfl), e3]
  · cases h
theorem WP (hR : Rel P β s.get w) (ht : YF β n t tmps) : ∀ (rs : List ResultVar) (ds : List DRes) (vs : List Value), Yo P n rs = some ds → za t s ds = some vs →
 ∃ vs', (rs.mapM fun (x : ResultVar) => match x with | .tmp t => (pure (tmps.getD t undef) : Sem Value) | .cell a t => do loadVar t (← asAddr (tmps.getD a undef))).run P w = .ok vs' w ∧ LRel β vs vs'
 | [], ds, vs, h1, h2 => by
  simp only [Yo, z2] at h1
  subst h1
  simp only [za, z2] at h2
  subst h2
  exact ⟨[], by simp, .nil⟩
 | r :: rs, ds, vs, h1, h2 => by
  simp only [Yo] at h1
  cases hr : Cz P n r with
  | none => simp [hr] at h1
  | some d =>
   cases hrs : Yo P n rs with
   | none => simp [hr, hrs] at h1
   | some ds' =>
    simp only [hr, hrs, z2] at h1
    subst h1
    cases r with
    | tmp i =>
     simp only [Cz] at hr
     split at hr
     · simp only [z2] at hr
       subst hr
       simp only [za] at h2
       split at h2
       · rename_i l hl
         simp only [z2] at h2
         subst h2
         obtain ⟨vs', e1, e2⟩ := WP hR ht rs ds' l hrs hl
         refine ⟨tmps.getD i undef :: vs', ?_, .cons (ht.2 i) e2⟩
         rw [List.mapM_cons]
         simp only [Sem.run_bind, Sem.run_pure, Result.andThen_ok, e1]
       · cases h2
     · cases hr
    | cell a ty =>
     simp only [Cz] at hr
     split at hr
     · cases hg : ZV P ty with
       | none => simp [hg] at hr
       | some g =>
        simp only [hg, z2] at hr
        subst hr
        simp only [za] at h2
        split at h2
        · rename_i v l hv hl
          simp only [z2] at h2
          subst h2
          obtain ⟨vs', e1, e2⟩ := WP hR ht rs ds' l hrs hl
          obtain ⟨v', e3, e4⟩ := RA hR hg (ρ := ev t) (a := .tmp a) (A' := tmps.getD a undef) (ht.2 a) hv
          refine ⟨v' :: vs', ?_, .cons e4 e2⟩
          rw [List.mapM_cons]
          simp only [Sem.run_bind] at e3
          simp only [Sem.run_bind, Sem.run_pure, e3, Result.andThen_ok, e1]
        · cases h2
     · cases hr
theorem DC {vs : List Value} {vs' : List Value} (h : LRel β vs vs') : VRel β (ze vs) (if h : vs'.toArray.size = 1 then vs'.toArray[0] else .tuple vs'.toArray) := by
 cases h with
 | nil => exact .tuple .nil
 | cons hv ht =>
  cases ht with
  | nil => exact hv
  | cons hv2 ht2 =>
   rw [dif_neg (by simp)]
   exact .tuple (.cons hv (.cons hv2 ht2))
theorem GU {fn : Func} (hR : Rel P β s.get w) (ht : YF β n t tmps) {ds : List DRes} {vs : List Value} (h1 : Yo P n fn.results.toList = some ds) (h2 : za t s ds = some vs) :
 ∃ v', (results fn tmps).run P w = .ok v' w ∧ VRel β (ze vs) v' := by
 obtain ⟨vs', e1, e2⟩ := WP hR ht fn.results.toList ds vs h1 h2
 refine ⟨_, ?_, DC e2⟩
 unfold results
 rw [Array.mapM_eq_mapM_toList]
 simp only [Sem.run_bind, Sem.run_pure, map_eq_pure_bind, Result.andThen_ok, bind_assoc]
 exact congrArg (fun r : Result (List Value) => Result.andThen r (fun a w' => Result.ok (if h : a.toArray.size = 1 then a.toArray[0] else Value.tuple a.toArray) w')) e1
end
theorem KB {P : Program} {fn : Func} {tmps : Array Value} {R : Ending → World → Prop} : ∀ (ks : List Nat) (ds : List Deferred) (s s' : DS) (β : Emb) (w : World), Zb s ks = some s' → Q9 β ks ds → Rel P β s.get w →
 (∀ w', Step P β s.get s.next w β s'.get s'.next w' → ∃ v, (results fn tmps).run P w' = .ok v w' ∧ R (.returned v) w') → LeavesInM (FW none) 0 P fn tmps R ds .returning w
 | [], [], s, s', β, w, h, _, hR, hQ => by
  simp only [Zb, z2] at h
  subst h
  exact hQ w (Step.refl hR)
 | k :: ks, d :: ds, s, s', β, w, h, hd, hR, hQ => by
  obtain ⟨⟨l, hl, rfl⟩, hd⟩ := hd
  simp only [Zb] at h
  split at h
  · rename_i hg
    split at h
    · rename_i s1 hs1
      obtain ⟨l2, h1, h2⟩ := hR.obj k _ hg
      rw [hl] at h1; cases h1
      have h2 : w.heap[l.blk]? = some (.deferred (some [])) := h2
      have st : Step P β s.get s.next w β s1.get s1.next (w.putObj l.blk (.deferred none)) :=
       Step.killw hR hs1 hg rfl hl (by simp) (fun r h5 => World.putObj_heap_other h5) rfl rfl rfl
      refine ⟨(by simp), .inl ⟨l.blk, _, rfl, run_takeDeferred h2, ?_⟩⟩
      exact KB ks ds s1 s' β _ h hd st.rel fun w' st' => hQ w' (st.trans st')
    · cases h
  · cases h
 | [], _ :: _, _, _, _, _, _, hd, _, _ => hd.elim
 | _ :: _, [], _, _, _, _, _, hd, _, _ => hd.elim
theorem XM : ∀ (ks : List Nat) {s s' : DS}, Zb s ks = some s' → zq s s'
 | [], s, s', h => by simp only [Zb, z2] at h; subst h; exact zq.refl _
 | k :: ks, s, s', h => by
  simp only [Zb] at h
  split at h
  · split at h
    · rename_i s1 hs1
      exact (zq.kill hs1).trans (XM ks h)
    · cases h
  · cases h
structure WA (P : Program) (k : Nat) (F : List Value → DS → Option (Value × DS)) : Prop where
 frame : ∀ args s v s', F args s = some (v, s') → zq s s'
 body : ∀ X w, (callFunc k X).run P w = .ok (.enter k X) w
 sound : ∀ args s v s', F args s = some (v, s') → ∀ (β : Emb) (w : World) (args' : Array Value), LRel β args args'.toList → Rel P β s.get w → fresh β s s' →
  CallsIn Fence.wide 0 P k args' w fun e w'' => ∃ v', e = .returned v' ∧ ∃ β', VRel β' v v' ∧ Step P β s.get s.next w β' s'.get s'.next w''
structure Dt (P : Program) (E : Env) : Prop where
 mixed : P.follows .mixedOrders = true
 fn : ∀ k df, E.fn k = some df → ∃ f, P.funcs[k]? = some f ∧ zd P f = some df
 intr : ∀ k F, E.intr k = some F → WA P k F
theorem Ju {P : Program} {f : Func} {df : zf} (h : zd P f = some df) : ∃ c rs, f.body = some c ∧ Yo P f.ntmps f.results.toList = some rs ∧ (f.name == "runtime.NumGoroutine") = false ∧ df = { ntmps := f.ntmps, results := rs, body := zR P f.ntmps c } := by
 unfold zd at h
 split at h
 · rename_i c rs h1 h2
   split at h
   · cases h
   · rename_i hn
     simp only [z2] at h
     exact ⟨c, rs, h1, h2, by simpa using hn, h.symm⟩
 · cases h
theorem Yc {P : Program} {g : Nat} {f : Func} (hf : P.funcs[g]? = some f) (hb : f.body.isSome = true) (hn : (f.name == "runtime.NumGoroutine") = false) (X : Array Value) (w : World) :
 (callFunc g X).run P w = .ok (.enter g X) w := by
 unfold callFunc
 have h1 : ¬ f.body = none := by cases h : f.body <;> simp_all
 have h2 : ¬ f.name = "runtime.NumGoroutine" := by simpa using hn
 simp [Sem.run_bind, Result.andThen, hf, h1, h2]
theorem Yh {P : Program} {E : Env} (hE : Dt P E) : ∀ d, zG (dcall E d) ∧ K8 P (dcall E d) ∧ QG P (dcall E d) := by
 intro d
 induction d with
 | zero => exact ⟨fun _ _ _ _ _ h => by simp [dcall] at h, fun _ _ _ _ _ _ h => by simp [dcall] at h, fun _ _ _ _ _ h => by simp [dcall] at h⟩
 | succ d ih =>
  obtain ⟨ihf, ihb, iho⟩ := ih
  have hfr : zG (dcall E (d + 1)) := by
   intro fv args s v s' h
   simp only [dcall] at h
   split at h
   · split at h
     · rename_i r hF
       cases h
       split at hF
       · rename_i F hF0
         exact (hE.intr _ _ hF0).frame _ _ _ _ hF
       · cases hF
     · split at h
       · cases h
       · split at h
         · split at h
           · cases h
           · rename_i x hx hcode
             split at h
             · rename_i s1 hk
               split at h
               · cases h
                 exact (ZK ihf _ hcode).trans (XM _ hk)
               · cases h
             · cases h
           · cases h
         · cases h
   · split at h
     · split at h
       · split at h
         · rename_i x hx
           split at h
           · split at h
             · rename_i s1 hs1
               split at h
               · rename_i e y hy
                 split at h
                 · split at h
                   · rename_i s2 hs2
                     cases h
                     exact (((ZK ihf _ hx).trans (zq.set hs1)).trans (ZK ihf _ hy)).trans (zq.set hs2)
                   · cases h
                 · cases h
               · cases h
             · cases h
           · cases h
         · cases h
       · cases h
     · cases h
   · cases h
  have hbd : K8 P (dcall E (d + 1)) := by
   intro g first captured args s r h X w
   simp only [dcall] at h
   split at h
   · rename_i r hF
     split at hF
     · rename_i F hF0
       exact (hE.intr _ _ hF0).body X w
     · cases hF
   · split at h
     · cases h
     · rename_i df hdf
       obtain ⟨f, hf, htr⟩ := hE.fn _ _ hdf
       obtain ⟨c, rs, h1, _, h3, _⟩ := Ju htr
       exact Yc hf (by simp [h1]) h3 X w
  refine ⟨hfr, hbd, ?_⟩
  intro fv args s v s' h β w fv' args' hfv hargs hR hf
  have h0 := h
  simp only [dcall] at h
  split at h
  · rename_i g first captured
    have hb0 := hbd _ _ _ _ _ _ h0
    cases hfv with
    | func ha hb =>
    rename_i first' captured'
    have hall : LRel β (first.toList ++ (args ++ captured.toList)) (first' ++ args' ++ captured').toList := by
     simp only [Array.toList_append, List.append_assoc]
     exact ha.append (hargs.append hb)
    simp only [Deferred.ofValue, Sem.run_bind, Sem.run_pure, Result.andThen_ok, invoke, hb0]
    simp only [Enters]
    split at h
    · rename_i r hF
      cases h
      split at hF
      · rename_i F hF0
        exact (hE.intr _ _ hF0).sound _ _ _ _ hF β w _ hall hR hf
      · cases hF
    · split at h
      · cases h
      · rename_i df hdf
        obtain ⟨f, hfn, htr⟩ := hE.fn _ _ hdf
        obtain ⟨c, rs, h1, h2, h3, rfl⟩ := Ju htr
        split at h
        · rename_i hlen
          have hlen := Nat.le_of_ble_eq_true hlen
          split at h
          · cases h
          · rename_i e x hne hcode
            split at h
            · rename_i s1 hk
              split at h
              · rename_i vs hvs
                cases h
                have fk := XM _ hk
                refine callsIn_of_wp_marks hfn h1 trivial ?_
                refine Jo (inR := false) (lf := E.lf) (ro := none) hE.mixed iho ihf ihb (fun _ => rfl) c ⟨WE (first.toList ++ (args ++ captured.toList)), s, []⟩ x e β { tmps := first' ++ args' ++ captured' ++ Array.replicate (f.ntmps - (first' ++ args' ++ captured').size) undef, defers := [] } w _ hcode (Pw hall hlen) trivial hR (fresh.left (b := x.s) hf fk.next) ?_
                intro β' a' w' ht' hd' st
                have key : LeavesInM (FW none) 0 P f a'.tmps (fun e w'' => ∃ v', e = .returned v' ∧ ∃ β', VRel β' (ze vs) v' ∧ Step P β s.get s.next w β' s'.get s'.next w'') a'.defers .returning w' := by
                 refine KB x.defers a'.defers x.s s' β' w' hk hd' st.rel ?_
                 intro w2 st2
                 obtain ⟨v', e1, e2⟩ := GU st2.rel ht' h2 hvs
                 exact ⟨v', e1, v', rfl, β', e2, st.trans st2⟩
                cases e with
                | normal => exact key
                | ret => exact key
                | exit id => exact absurd rfl (hne id)
              · cases h
            · cases h
          · cases h
        · cases h
  · rename_i l first captured
    cases hfv with
    | yield hl =>
    rename_i loc
    split at h
    · rename_i st pend t ps ca cb hg
      split at h
      · rename_i hc
        simp only [Bool.and_eq_true, decide_eq_true_eq] at hc
        obtain ⟨hc1, rfl⟩ := hc
        have hc1 := Nat.eq_of_beq_eq_true hc1
        obtain ⟨loc2, e1, r, hr1, hr2, hr3, hr4, hr5, hr6, hr7, hr8, hr9⟩ := hR.obj _ _ hg
        rw [hl] at e1; cases e1
        split at h
        · rename_i x hx
          split at h
          · rename_i pend2 t2 ps2 ca2 cb2 hg2
            split at h
            · rename_i s1 hs1
              split at h
              · rename_i e y hy
                split at h
                · rename_i pend3 t3 ps3 ca3 cb3 hg3
                  split at h
                  · rename_i s2 hs2
                    cases h
                    have hsz : args'.size = r.params.size := by
                     have h5 := hargs.length
                     have h6 : r.params.toList.length = ps.length := by rw [hr6]
                     simp only [Array.length_toList] at h5 h6
                     omega
                    have hrun := run_yield (P := P) (w := w) (args := #[] ++ args') hr1 (by simpa using hsz)
                    simp only [Deferred.ofValue, Sem.run_bind, Sem.run_pure, Result.andThen_ok, invoke, hrun]
                    simp only [Enters]
                    have fx := ZK ihf _ hx
                    have fs1 := zq.set hs1
                    have fy := ZK ihf _ hy
                    have fs2 := zq.set hs2
                    refine roundIn_of_wpIn (F := Fence.wide) trivial ?_
                    have hps : YF β r.tmps.size (Zl t ps args) ((r.params.zip (#[] ++ args')).foldl (fun tmps (x : Tmp × Value) => tmps.setIfInBounds x.1 x.2) r.tmps) := by
                     have h7 := Kv (n := r.tmps.size) hargs hr7 hr5
                     rw [← Array.foldl_toList, Array.toList_zip, hr6]
                     simpa using h7
                    refine Jo (inR := true) (lf := E.lf) (ro := some loc.blk) hE.mixed iho ihf ihb (fun h => by cases h) r.assign ⟨Zl t ps args, s, []⟩ x .normal β { tmps := _, defers := [] } w _ (by rw [hr8]; exact hx) hps trivial hR
                     (fresh.left (b := x.s) hf (Nat.le_trans fs1.next (Nat.le_trans fy.next fs2.next))) ?_
                    intro β1 a1 w1 ht1 hd1 st1
                    obtain ⟨loc2, e1, r2, hq1, hq2, hq3, hq4, hq5, hq6, hq7, hq8, hq9⟩ := st1.rel.obj _ _ hg2
                    have hl1 := st1.emb _ _ hl
                    rw [hl1] at e1; cases e1
                    have hlt1 : loc.blk < w1.heap.size := (Array.getElem?_eq_some_iff.1 hq1).1
                    refine ⟨_, run_beginRound hq1 hq2, ?_⟩
                    have st2 := Step.write (w' := w1.putObj loc.blk (.loop { r2 with state := .busy })) st1.rel hs1 hg2 rfl rfl hl1 (by simp) (fun r' h5 => World.putObj_heap_other h5) rfl rfl rfl
                     ⟨_, World.putObj_heap_same hlt1, rfl, (fun h => by cases h), (fun h => by cases h), hq5, hq6, hq7, hq8, hq9⟩
                    have st12 := st1.trans st2
                    refine Jo (inR := true) (lf := E.lf) (ro := some loc.blk) hE.mixed iho ihf ihb (fun h => by cases h) r.body { x with s := s1 } y e β1 a1 _ _ (by rw [hr9]; exact hy) ht1 hd1 st2.rel
                     (fresh.right (fresh.left (b := y.s) hf fs2.next) st12) ?_
                    intro β3 a3 w3 ht3 hd3 st3
                    obtain ⟨loc3, e1, r3, hk1, hk2, hk3, hk4, hk5, hk6, hk7, hk8, hk9⟩ := st3.rel.obj _ _ hg3
                    have hl3 := st3.emb _ _ hl1
                    rw [hl3] at e1; cases e1
                    have hlt3 : loc.blk < w3.heap.size := (Array.getElem?_eq_some_iff.1 hk1).1
                    have hend := run_endRound (P := P) (Jj e) hk1
                    have st4 := Step.write (w' := w3.putObj loc.blk (.loop { r3 with state := if (Jj e).isNone then .ready else .done, pending := Jj e })) st3.rel hs2 hg3 rfl rfl hl3 (by simp) (fun r' h5 => World.putObj_heap_other h5) rfl rfl rfl
                     ⟨_, World.putObj_heap_same hlt3, by cases e <;> rfl, fun _ => rfl, by cases e <;> simp [Jj], hk5, hk6, hk7, hk8, hk9⟩
                    have stall := (st12.trans st3).trans st4
                    cases e with
                    | normal => exact ⟨_, _, hend, _, rfl, β3, .bool _, stall⟩
                    | ret => exact ⟨_, _, hend, _, rfl, β3, .bool _, stall⟩
                    | exit id => exact ⟨_, _, hend, _, rfl, β3, .bool _, stall⟩
                  · cases h
                · cases h
              · cases h
            · cases h
          · cases h
        · cases h
      · cases h
    · cases h
  · cases h
end Go.Dx
