/- A part. -/
import Derived.Test.YthmgnfeljhdioaaGreatDxDraw
import Derived.LoopNIn
import Derived.RangeFuncRecord
set_option linter.unusedVariables false
set_option linter.unusedSimpArgs false
set_option linter.unusedSectionVars false
namespace Go.Dx
open Go
theorem Step.killw {P : Program} {β : Emb} {s s' : DS} {w w' : World} (h : Rel P β s.get w) {k : Nat} {o : DObj} (hs : s.kill k = some s') (hk : s.get k = some o) (ho : owned o = true) {l : Loc} (hl : β k = some l)
 (hsz : w'.heap.size = w.heap.size) (hw : ∀ r, r ≠ l.blk → w'.heap[r]? = w.heap[r]?) (hos : w'.os = w.os) (ht : w'.tape = w.tape) (hu : w'.output = w.output) :
 Step P β s.get s.next w β s'.get s'.next w' := by
 have hsub : ∀ j x, s'.get j = some x → j ≠ k ∧ s.get j = some x := by
  intro j x hj
  rw [DS.get_kill hs] at hj
  split at hj
  · cases hj
  · rename_i e; exact ⟨e, hj⟩
 refine { le := by rw [DS.kill_next hs]; exact Nat.le_refl _, emb := Emb.le.refl _, dom := fun k h h' => absurd h h', rel := ⟨?_, ?_⟩, size := by omega, os := hos, tape := ht, output := hu, frame := ?_, fresh := ?_ }
 · intro j x hj
   obtain ⟨e, hj⟩ := hsub j x hj
   obtain ⟨l', h1, h2⟩ := h.obj j x hj
   exact ⟨l', h1, h2.keep (Emb.le.refl _) (hw _ fun e' => h.inj k j o x l l' hk hj hl h1 (Ne.symm e) ho e'.symm)⟩
 · intro j j' x x' l1 l2 h1 h2 e1 e2 hne how
   exact h.inj j j' x x' l1 l2 (hsub _ _ h1).2 (hsub _ _ h2).2 e1 e2 hne how
 · intro r hr hno
   exact hw r fun e => hno k o l hk ho hl e.symm
 · intro j x l' hj hl'
   exact .inr ⟨j, x, l', (hsub _ _ hj).2, hl', rfl, id⟩
def KS : DExit → Exit
 | .normal => .normal
 | .ret => .ret
 | .exit id => .exit id
def Q9 (β : Emb) : List Nat → List Deferred → Prop
 | [], [] => True
 | k :: ks, d :: ds => (∃ l, β k = some l ∧ d = { target := .collected l.blk, args := #[] }) ∧ Q9 β ks ds
 | _, _ => False
theorem Q9.mono {β β' : Emb} (hb : β.le β') : ∀ {ks : List Nat} {ds : List Deferred}, Q9 β ks ds → Q9 β' ks ds
 | [], [], _ => trivial
 | _ :: _, _ :: _, ⟨⟨l, h1, h2⟩, h3⟩ => ⟨⟨l, hb _ _ h1, h2⟩, h3.mono hb⟩
 | [], _ :: _, h => h.elim
 | _ :: _, [], h => h.elim
def K8 (P : Program) (call : zn) : Prop := ∀ g first captured args s r, call (.func (.func g) first captured) args s = some r → ∀ X w, (callFunc g X).run P w = .ok (.enter g X) w
section
variable {P : Program} {call : zn} {lf : Nat} {inR : Bool}
theorem ZK (hfr : zG call) : ∀ (c : DCode) {x : St} {e : DExit} {y : St}, zw call lf inR c x = some (e, y) → zq x.s y.s := by
 intro c
 induction c with
 | skip => intro x e y h; simp only [zw, z2, Prod.mk.injEq] at h; obtain ⟨_, rfl⟩ := h; exact zq.refl _
 | ret => intro x e y h; simp only [zw, z2, Prod.mk.injEq] at h; obtain ⟨_, rfl⟩ := h; exact zq.refl _
 | exit id => intro x e y h; simp only [zw, z2, Prod.mk.injEq] at h; obtain ⟨_, rfl⟩ := h; exact zq.refl _
 | region ops =>
  intro x e y h
  simp only [zw] at h
  split at h
  · rename_i t s h1
    cases h
    exact KW hfr h1
  · cases h
 | seq a b iha ihb =>
  intro x e y h
  simp only [zw] at h
  split at h
  · rename_i y1 h1
    exact (iha h1).trans (ihb h)
  · exact iha h
 | cond c a b iha ihb =>
  intro x e y h
  simp only [zw] at h
  split at h
  · exact iha h
  · exact ihb h
  · cases h
 | block id b ih =>
  intro x e y h
  simp only [zw] at h
  split at h
  · rename_i j y1 h1
    split at h <;> (cases h; exact ih h1)
  · exact ih h
 | loop b ih =>
  intro x e y h
  simp only [zw] at h
  have key : ∀ (m : Nat) (x : St), Xt (zw call lf inR b) m x = some (e, y) → zq x.s y.s := by
   intro m
   induction m with
   | zero => intro x h; simp [Xt] at h
   | succ m ihm =>
    intro x h
    simp only [Xt] at h
    split at h
    · rename_i y1 h1
      exact (ih h1).trans (ihm _ h)
    · exact ih h
  exact key lf x h
 | rangeFunc f ps a b iha ihb =>
  intro x e y h
  simp only [zw] at h
  split at h
  · cases h
  split at h
  · split at h
    · rename_i v s3 h1
      split at h
      · split at h
        · split at h
          · rename_i s4 h2
            cases h
            exact (((zq.new _ _).trans (zq.new _ _)).trans (hfr _ _ _ _ _ h1)).trans (zq.set h2)
          · cases h
        · cases h
      · cases h
    · cases h
  · cases h
 | bad => intro x e y h; simp [zw] at h
theorem Fd {n : Nat} {ops : Array Oper} {L : List zK} (h : XW P n ops false = some L) :
 L.length = (List.range ops.size).length ∧ ∀ (p : Nat) (l : zK) (i : Nat), L[p]? = some l → (List.range ops.size)[p]? = some i → Fits P n ops i l ∧ l.haz = [] ∧ l.note = false := by
 unfold XW at h
 simp only [Bool.not_false, if_true] at h
 split at h
 · cases h
 rename_i hall
 simp only [Bool.not_eq_true', Bool.not_eq_false] at hall
 simp only [z2] at h
 subst h
 refine ⟨by simp, ?_⟩
 intro p l i hl hi
 rw [List.getElem?_map] at hl
 cases ho : ops.toList[p]? with
 | none => simp [ho] at hl
 | some o =>
  simp only [ho, Option.map_some, z2] at hl
  subst hl
  have hp : p < ops.size := by have := (List.getElem?_eq_some_iff.1 ho).1; simpa using this
  rw [List.getElem?_range hp] at hi
  cases hi
  have hok := List.all_eq_true.1 hall o (List.mem_of_getElem? ho)
  refine ⟨⟨o, by rw [← Array.getElem?_toList]; exact ho, rfl, rfl, hok, ?_⟩, rfl, rfl⟩
  cases hg : o.guard with
  | none => exact ⟨none, rfl, rfl⟩
  | some jb =>
   obtain ⟨j, w⟩ := jb
   obtain ⟨g, hg2, _⟩ := Xj hok hg
   exact ⟨some (g, w), by simp [Z9, hg2], by simp [Z9, hg2]⟩
theorem Yq {P : Program} {b : Frame} {a : Act} {k : List Item} {cs : List Frame} {w : World} {c : Code} : step P (lone (b.atR a (.code (.scope c) :: k)) cs w) = .next (lone (b.atR a (.code c :: .inScope c :: k)) cs w) :=
 step_lone_go (by simp [stepG, stepG.exec, Frame.atR])
theorem K9 {P : Program} {b : Frame} {a : Act} {k : List Item} {cs : List Frame} {w : World} {c : Code} : step P (lone (b.atR a (.inScope c :: k)) cs w) = .next (lone (b.atR a k) cs w) :=
 step_lone_go (by simp [stepG, stepG.exec, Frame.atR])
theorem Dy {F : Fence} {m : Nat} {P : Program} {c : Code} {Q : Exit → Act → World → Prop} {a : Act} {w : World} (h : c.wpIn F m P (fun e a w => (∀ l, e ≠ .goto l) ∧ Q e a w) a w) : (Code.scope c).wpIn F m P Q a w := by
 intro b k cs hro hb hr
 have h0 : (lone (b.atR a (.code (.scope c) :: k)) cs w).fenced P F := fenced_calm hb hr rfl
 obtain ⟨e, a₁, w₁, ⟨hng, hq⟩, harr⟩ := h b (.inScope c :: k) cs hro hb hr
 cases e with
 | normal => exact ⟨.normal, a₁, w₁, hq, .head h0 Yq (StepsIn.trans harr (.one (fenced_calm hb hr rfl) K9))⟩
 | exit id =>
  have hx : exitTo id (.inScope c :: k) = exitTo id k := by simp [exitTo]
  exact ⟨_, a₁, w₁, hq, fun k' hk => .head h0 Yq (harr.1 k' (by rw [hx]; exact hk)),
   fun hr' hk => let ⟨k₁, h1, h2⟩ := harr.2 hr' (by rw [hx]; exact hk); ⟨k₁, h1, .head h0 Yq h2⟩⟩
 | goto l => exact absurd rfl (hng l)
 | ret => exact ⟨_, a₁, w₁, hq, .of_steps (.one h0 Yq) harr⟩
 | panic ch => exact ⟨_, a₁, w₁, hq, .of_steps (.one h0 Yq) harr⟩
 | outgrown => exact ⟨_, a₁, w₁, hq, .of_steps (.one h0 Yq) harr⟩
theorem Jo (hm : P.follows .mixedOrders = true) (hcall : QG P call) (hfr : zG call) (hbody : K8 P call) {n : Nat} {ro : Option Nat} (hro : inR = false → ro = none) :
 ∀ (c : Code) (x y : St) (e : DExit) (β : Emb) (a : Act) (w : World) (Q : Exit → Act → World → Prop),
  zw call lf inR (zR P n c) x = some (e, y) → YF β n x.t a.tmps → Q9 β x.defers a.defers → Rel P β x.s.get w → fresh β x.s y.s →
  (∀ β' a' w', YF β' n y.t a'.tmps → Q9 β' y.defers a'.defers → Step P β x.s.get x.s.next w β' y.s.get y.s.next w' → Q (KS e) a' w') →
  c.wpIn (FW ro) 0 P Q a w := by
 intro c
 induction c with
 | skip =>
  intro x y e β a w Q h ht hd hR hf hQ
  simp only [zR, zw, z2, Prod.mk.injEq] at h
  obtain ⟨rfl, rfl⟩ := h
  exact wpIn_skip (hQ β a w ht hd (Step.refl hR))
 | ret =>
  intro x y e β a w Q h ht hd hR hf hQ
  simp only [zR, zw, z2, Prod.mk.injEq] at h
  obtain ⟨rfl, rfl⟩ := h
  exact wpIn_ret (hQ β a w ht hd (Step.refl hR))
 | exit id =>
  intro x y e β a w Q h ht hd hR hf hQ
  simp only [zR, zw, z2, Prod.mk.injEq] at h
  obtain ⟨rfl, rfl⟩ := h
  exact wpIn_exit (hQ β a w ht hd (Step.refl hR))
 | region id ops draw =>
  intro x y e β a w Q h ht hd hR hf hQ
  simp only [zR] at h
  split at h
  · rename_i L hL
    simp only [zw] at h
    split at h
    · rename_i t s hops
      cases h
      cases draw with
      | true => exact Sa hm hcall hfr hL hops ht hR hf fun β' a' w' h1 h2 st => hQ β' a' w' h1 (by rw [h2]; exact hd.mono st.emb) st
      | false =>
       obtain ⟨h1, h2⟩ := Fd hL
       exact wpIn_region (Ca (a := a) hcall hfr L _ x.t x.s β a w h1 h2 hops ht hR hf fun β' a' w' h1 h2 st => hQ β' a' w' h1 (by rw [h2]; exact hd.mono st.emb) st)
    · cases h
  · simp [zw] at h
 | seq c1 c2 ih1 ih2 =>
  intro x y e β a w Q h ht hd hR hf hQ
  simp only [zR, zw] at h
  refine wpIn_seq ?_
  split at h
  · rename_i y1 h1
    have f2 := ZK hfr _ h
    refine ih1 x y1 .normal β a w _ h1 ht hd hR (hf.left f2.next) ?_
    intro β' a' w' ht' hd' st
    exact ih2 y1 y e β' a' w' Q h ht' hd' st.rel (hf.right st) fun β2 a2 w2 h3 h4 st2 => hQ β2 a2 w2 h3 h4 (st.trans st2)
  · rename_i hne
    refine ih1 x y e β a w _ h ht hd hR hf ?_
    intro β' a' w' ht' hd' st
    cases e with
    | normal => exact absurd h (hne y)
    | ret => exact hQ β' a' w' ht' hd' st
    | exit id => exact hQ β' a' w' ht' hd' st
 | cond o c1 c2 ih1 ih2 =>
  intro x y e β a w Q h ht hd hR hf hQ
  simp only [zR] at h
  split at h
  · rename_i hok
    simp only [zw] at h
    have hv := ht.ev hok
    split at h
    · rename_i hev
      rw [hev] at hv
      generalize hV : a.eval o = V at hv
      cases hv
      exact wpIn_cond_true hV (ih1 x y e β a w Q h ht hd hR hf hQ)
    · rename_i hev
      rw [hev] at hv
      generalize hV : a.eval o = V at hv
      cases hv
      exact wpIn_cond_false hV (ih2 x y e β a w Q h ht hd hR hf hQ)
    · cases h
  · simp [zw] at h
 | block id c ih =>
  intro x y e β a w Q h ht hd hR hf hQ
  simp only [zR, zw] at h
  refine wpIn_block ?_
  split at h
  · rename_i j y1 h1
    split at h
    · rename_i hj
      cases h
      refine ih x y (.exit j) β a w _ h1 ht hd hR hf ?_
      intro β' a' w' ht' hd' st
      simp only [KS, Exit.inBlock, hj, if_true]
      exact hQ β' a' w' ht' hd' st
    · rename_i hj
      cases h
      refine ih x y (.exit j) β a w _ h1 ht hd hR hf ?_
      intro β' a' w' ht' hd' st
      simp only [KS, Exit.inBlock, hj, if_false]
      exact hQ β' a' w' ht' hd' st
  · rename_i hne
    refine ih x y e β a w _ h ht hd hR hf ?_
    intro β' a' w' ht' hd' st
    cases e with
    | normal => exact hQ β' a' w' ht' hd' st
    | ret => exact hQ β' a' w' ht' hd' st
    | exit j => exact absurd h (hne j y)
 | scope c ih =>
  intro x y e β a w Q h ht hd hR hf hQ
  simp only [zR] at h
  refine Dy (ih x y e β a w _ h ht hd hR hf ?_)
  intro β' a' w' ht' hd' st
  exact ⟨fun l => by cases e <;> simp [KS], hQ β' a' w' ht' hd' st⟩
 | label l =>
  intro x y e β a w Q h ht hd hR hf hQ
  simp only [zR, zw, z2, Prod.mk.injEq] at h
  obtain ⟨rfl, rfl⟩ := h
  exact wpIn_label (hQ β a w ht hd (Step.refl hR))
 | loop c ih =>
  intro x y e β a w Q h ht hd hR hf hQ
  simp only [zR, zw] at h
  refine wpIn_loop_rounds lf ?_
  have fl : ∀ (m : Nat) (x : St), Xt (zw call lf inR (zR P n c)) m x = some (e, y) → zq x.s y.s := by
   intro m
   induction m with
   | zero => intro x h; simp [Xt] at h
   | succ m ihm =>
    intro x h
    simp only [Xt] at h
    split at h
    · rename_i y1 h1
      exact (ZK hfr _ h1).trans (ihm _ h)
    · exact ZK hfr _ h
  have key : ∀ (m : Nat) (x : St) (β : Emb) (a : Act) (w : World), Xt (zw call lf inR (zR P n c)) m x = some (e, y) → YF β n x.t a.tmps → Q9 β x.defers a.defers → Rel P β x.s.get w → fresh β x.s y.s →
   (∀ β' a' w', YF β' n y.t a'.tmps → Q9 β' y.defers a'.defers → Step P β x.s.get x.s.next w β' y.s.get y.s.next w' → Q (KS e) a' w') → Code.roundsIn (FW ro) 0 P c Q m a w := by
   intro m
   induction m with
   | zero => intro x β a w h; simp [Xt] at h
   | succ m ihm =>
    intro x β a w h ht hd hR hf hQ
    simp only [Xt] at h
    rw [roundsIn_succ]
    split at h
    · rename_i y1 h1
      refine ih x y1 .normal β a w _ h1 ht hd hR (hf.left (fl m y1 h).next) ?_
      intro β' a' w' ht' hd' st
      exact ihm y1 β' a' w' h ht' hd' st.rel (hf.right st) fun β2 a2 w2 h3 h4 st2 => hQ β2 a2 w2 h3 h4 (st.trans st2)
    · rename_i hne
      refine ih x y e β a w _ h ht hd hR hf ?_
      intro β' a' w' ht' hd' st
      cases e with
      | normal => exact absurd h (hne y)
      | ret => exact hQ β' a' w' ht' hd' st
      | exit id => exact hQ β' a' w' ht' hd' st
  exact key lf x β a w h ht hd hR hf hQ
 | rangeFunc f ps ca cb iha ihb =>
  intro x y e β a w Q h ht hd hR hf hQ
  simp only [zR] at h
  split at h
  · rename_i hok
    simp only [Bool.and_eq_true] at hok
    simp only [zw] at h
    split at h
    · cases h
    rename_i hinR
    have hro' : ro = none := hro (by simpa using hinR)
    subst hro'
    have hv := ht.ev hok.1
    split at h
    rotate_left
    · cases h
    rename_i g first captured hev
    split at h
    rotate_left
    · cases h
    rename_i v s3 h1
    split at h
    rotate_left
    · cases h
    rename_i st pending t' ps' a' b' hg3
    split at h
    rotate_left
    · cases h
    rename_i hst
    split at h
    rotate_left
    · cases h
    rename_i s4 h4
    cases h
    have f3 := hfr _ _ _ _ _ h1
    have f4 := zq.set h4
    have hb1 : β x.s.next = none := hf x.s.next (Nat.le_refl _) (by have := f3.next; have := f4.next; simp only [DS.new] at *; omega)
    have st1 : Step P β x.s.get x.s.next w (β.upd x.s.next ⟨w.heap.size, 0, 0, 0, 0⟩) (x.s.new .dfr).get (x.s.new .dfr).next (w.alloc (.deferred (some []))) :=
     Step.new hR hb1 (O := .deferred (some [])) rfl rfl rfl rfl rfl (by show _ = _; exact World.alloc_heap_new _ _)
    have hb2 : (β.upd x.s.next ⟨w.heap.size, 0, 0, 0, 0⟩) (x.s.new .dfr).next = none := by
     have : β (x.s.next + 1) = none := hf _ (Nat.le_succ _) (by have := f3.next; have := f4.next; simp only [DS.new] at *; omega)
     show (if x.s.next + 1 = x.s.next then _ else _) = _
     rw [if_neg (by omega)]; exact this
    have hpsz : ∀ p ∈ ps.toList, p < a.tmps.size := by
     intro p hp
     rw [ht.1]
     exact YO (Array.all_eq_true_iff_forall_mem.1 hok.2 p (by simpa using hp))
    refine wpIn_rangeFunc ?_
    intro fn _
    have st2 := Step.new (s := x.s.new .dfr) st1.rel hb2 (o := .loop .ready .normal x.t ps.toList (zR P n ca) (zR P n cb))
     (O := .loop { state := .ready, pending := none, fn := fn, tmps := a.tmps, params := ps, assign := ca, body := cb, defers := w.heap.size }) (l := ⟨w.heap.size + 1, 0, 0, 0, 0⟩)
     (w' := (w.alloc (.deferred (some []))).alloc (.loop { state := .ready, pending := none, fn := fn, tmps := a.tmps, params := ps, assign := ca, body := cb, defers := w.heap.size })) (by rw [World.size_alloc]) rfl rfl rfl rfl
     ⟨{ state := .ready, pending := none, fn := fn, tmps := a.tmps, params := ps, assign := ca, body := cb, defers := w.heap.size }, by
      have := World.alloc_heap_new (w.alloc (.deferred (some []))) (.loop { state := .ready, pending := none, fn := fn, tmps := a.tmps, params := ps, assign := ca, body := cb, defers := w.heap.size })
      rw [World.size_alloc] at this
      exact this, rfl, (fun h => by cases h), (fun _ => ⟨rfl, rfl⟩), by
       simp only [ht.1]
       exact (ht.mono (st1.emb.trans (Emb.le_upd hb2))), rfl, hpsz, by simp only [ht.1], by simp only [ht.1]⟩
    have st12 := st1.trans st2
    generalize hw2 : (w.alloc (.deferred (some []))).alloc (.loop { state := .ready, pending := none, fn := fn, tmps := a.tmps, params := ps, assign := ca, body := cb, defers := w.heap.size }) = w2 at st2 st12
    generalize hβ2 : (β.upd x.s.next ⟨w.heap.size, 0, 0, 0, 0⟩).upd (x.s.new .dfr).next ⟨w.heap.size + 1, 0, 0, 0, 0⟩ = β2 at st2 st12
    have hl2 : β2 (x.s.new .dfr).next = some ⟨w.heap.size + 1, 0, 0, 0, 0⟩ := by rw [← hβ2]; exact Emb.upd_same _ _ _
    have hl1 : β2 x.s.next = some ⟨w.heap.size, 0, 0, 0, 0⟩ := st2.emb _ _ (Emb.upd_same _ _ _)
    rw [hev] at hv
    generalize hV : a.eval f = V at hv
    cases hv with
    | func ha hb =>
     rename_i first' captured'
     have hbd := hbody _ _ _ _ _ _ (by rw [hev] at h1; exact h1)
     have he := hcall _ _ _ _ _ h1 β2 w2 (a.eval f) #[.func (.yield (w.heap.size + 1)) #[] #[]] (by rw [hev, hV]; exact (VRel.func ha hb).mono st12.emb)
      (.cons (VRel.yield hl2) .nil) st2.rel (fun k h5 h6 => by
       have h7 : fresh β x.s s4 := hf
       exact (h7.left f4.next).right st12 k h5 h6)
     simp only [hV, Deferred.ofValue, Sem.run_bind, Sem.run_pure, Result.andThen_ok, invoke, hbd] at he
     simp only [Enters] at he
     refine ⟨w.heap.size + 1, [{ target := .collected w.heap.size, args := #[] }], w2, { target := .fn (.func g) captured', args := first' ++ #[.func (.yield (w.heap.size + 1)) #[] #[]] }, w2, g, first' ++ #[.func (.yield (w.heap.size + 1)) #[] #[]] ++ captured', w2, ?_, ?_, fun _ _ => trivial, ?_, fun h => by simp [K7] at h, ?_⟩
     · rw [← hw2]; exact run_enterLoop_outer fn a.tmps ps ca cb
     · simp only [resolve, rangeCall, hV, Deferred.ofValue, Sem.run_pure, List.map_toArray, z4, z5]
       rfl
     · simp only [invoke]
       exact hbd _ _
     · refine CallsIn.mono (F := FW none) (R := fun e w'' => ∃ v', e = .returned v' ∧ _) he ?_
       rintro e' w3 ⟨v', rfl, β3, hv3, st3⟩
       obtain ⟨l3, hl3, r, hr1, hr2, hr3, hr4, hr5, hr6, hr7, hr8, hr9⟩ := st3.rel.obj _ _ hg3
       have := st3.emb _ _ hl2
       rw [hl3] at this; cases this
       have hpend : r.pending = Jj e := by
        rcases hst with rfl | rfl
        · obtain ⟨h5, h6⟩ := hr4 rfl
          rw [h6, h5]; rfl
        · exact hr3 rfl
       have hnb : r.state ≠ .busy := by
        rw [hr2]
        rcases hst with rfl | rfl <;> simp [Lh]
       have hlt : w.heap.size + 1 < w3.heap.size := (Array.getElem?_eq_some_iff.1 hr1).1
       have st4 := Step.write (w' := w3.putObj (w.heap.size + 1) (.loop { r with state := .exhausted })) st3.rel h4 hg3 rfl rfl hl3 (by simp) (fun r' h5 => World.putObj_heap_other h5) rfl rfl rfl
        ⟨_, World.putObj_heap_same hlt, rfl, (fun h => by cases h), (fun h => by cases h), hr5, hr6, hr7, hr8, hr9⟩
       have stall := st12.trans (st3.trans st4)
       refine ⟨r.pending, w3.putObj (w.heap.size + 1) (.loop { r with state := .exhausted }), run_endLoop hr1 hnb, ?_⟩
       have hq := hQ β3 { a with defers := [{ target := .collected w.heap.size, args := #[] }] ++ a.defers } _ (ht.mono stall.emb) ⟨⟨_, st3.emb _ _ hl1, rfl⟩, hd.mono stall.emb⟩ stall
       rw [hpend] at hq ⊢
       cases e with
       | normal => exact hq
       | ret => exact wpIn_ret hq
       | exit id => exact wpIn_exit hq
  · simp [zw] at h
 | goto l => intro x y e β a w Q h; simp [zR, zw] at h
 | refuse l => intro x y e β a w Q h; simp [zR, zw] at h
end
end Go.Dx
