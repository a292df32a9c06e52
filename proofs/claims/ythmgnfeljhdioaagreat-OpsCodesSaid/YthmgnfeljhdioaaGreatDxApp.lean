/- A part. -/
import Derived.Test.YthmgnfeljhdioaaGreatDxRz
set_option linter.unusedVariables false
set_option linter.unusedSimpArgs false
set_option linter.unusedSectionVars false
namespace Go.Dx
open Go
section
variable {P : Program} {β : Emb} {w w' : World} {ρ ρ' : Operand → Value} {v : Value} {s s' s1 : DS}
theorem Step.regrow (hR : Rel P β s.get w) {k : Nat} {o : DObj} (hg : s.get k = some o) (ho : owned o = true) {loc : Loc} (hk : β k = some loc) (hs : s.kill k = some s1) (hf : β s1.next = none)
 {o' : DObj} {l' : Loc} (hl' : l'.blk = loc.blk) (hsz : w'.heap.size = w.heap.size) (hw : ∀ r, r ≠ loc.blk → w'.heap[r]? = w.heap[r]?)
 (hos : w'.os = w.os) (ht : w'.tape = w.tape) (hu : w'.output = w.output) (ho' : owned o' = true) (hO : JW P (β.upd s1.next l') l' o' w') :
 Step P β s.get s.next w (β.upd s1.next l') (s1.new o').get (s1.new o').next w' := by
 have hn : s1.next = s.next := DS.kill_next hs
 have hle : β.le (β.upd s1.next l') := Emb.le_upd hf
 have hβ : ∀ j, j ≠ s1.next → β.upd s1.next l' j = β j := fun j e => by simp [Emb.upd, e]
 have hobj : ∀ j x, (s1.new o').get j = some x → j = s1.next ∧ x = o' ∨ j ≠ s1.next ∧ j ≠ k ∧ s.get j = some x := by
  intro j x hj
  by_cases e : j = s1.next
  · subst e
    rw [DS.get_new] at hj
    split at hj
    · simp at hj; exact .inl ⟨rfl, hj.symm⟩
    · cases hj
  · rw [DS.get_new_old e, DS.get_kill hs] at hj
    split at hj
    · cases hj
    · rename_i e2; exact .inr ⟨e, e2, hj⟩
 have hne : ∀ j x l2, j ≠ k → s.get j = some x → β j = some l2 → l2.blk ≠ loc.blk := fun j x l2 e hj hl2 e' => hR.inj k j o x loc l2 hg hj hk hl2 (Ne.symm e) ho e'.symm
 refine { le := by show s.next ≤ s1.next + 1; omega, emb := hle, dom := ?_, rel := ⟨?_, ?_⟩, size := by omega, os := hos, tape := ht, output := hu, frame := ?_, fresh := ?_ }
 · intro j hj hj'
   by_cases e : j = s1.next
   · subst e; refine ⟨by omega, ?_⟩; show s1.next < s1.next + 1; omega
   · rw [hβ j e] at hj'; exact absurd hj hj'
 · intro j x hj
   rcases hobj j x hj with ⟨rfl, rfl⟩ | ⟨e, e2, hj⟩
   · exact ⟨l', Emb.upd_same _ _ _, hO⟩
   · obtain ⟨l2, h1, h2⟩ := hR.obj j x hj
     exact ⟨l2, hle _ _ h1, h2.keep hle (hw _ (hne j x l2 e2 hj h1))⟩
 · intro j j' x x' l1 l2 h1 h2 e1 e2 hnn how
   rcases hobj j x h1 with ⟨rfl, rfl⟩ | ⟨a1, a2, h1⟩
   · rcases hobj j' x' h2 with ⟨rfl, _⟩ | ⟨b1, b2, h2⟩
     · exact absurd rfl hnn
     · rw [Emb.upd_same] at e1; cases e1
       rw [hβ j' b1] at e2
       rw [hl']
       exact Ne.symm (hne j' x' l2 b2 h2 e2)
   · rw [hβ j a1] at e1
     rcases hobj j' x' h2 with ⟨rfl, _⟩ | ⟨b1, b2, h2⟩
     · rw [Emb.upd_same] at e2; cases e2
       rw [hl']
       exact hne j x l1 a2 h1 e1
     · rw [hβ j' b1] at e2
       exact hR.inj j j' x x' l1 l2 h1 h2 e1 e2 hnn how
 · intro r hr hno
   exact hw r fun e => hno k o loc hg ho hk e.symm
 · intro j x l2 hj hl2
   rcases hobj j x hj with ⟨rfl, rfl⟩ | ⟨a1, a2, hj⟩
   · rw [Emb.upd_same] at hl2; cases hl2
     exact .inr ⟨k, o, loc, hg, hk, hl'.symm, fun _ => ho⟩
   · rw [hβ j a1] at hl2
     exact .inr ⟨j, x, l2, hj, hl2, rfl, id⟩
theorem ZX {x x' : Value} {n : Nat} (hx : VRel β x x') (h : YX x = some n) : (Builtin.lenOf x').run P w = .ok n w := by
 cases hx <;> simp only [YX, z2, reduceCtorEq] at h <;> subst h <;> rfl
theorem V3 {size : Nat} {x x' : Value} {n m : Nat} {l : List Value} (hR : Rel P β s.get w) (hx : VRel β x x') (hm : YX x = some m) (hn : n ≤ m) (h : ZI s size x n = some l) :
 ∃ l', (Builtin.firstCells size n x').run P w = .ok l'.toArray w ∧ LRel β l l' := by
 cases hx <;> try (simp only [ZI, reduceCtorEq] at h; done)
 case string b =>
  simp only [ZI, z2] at h
  subst h
  refine ⟨(b.data.toList.take n).map fun c => .int .u8 c.toNat, ?_, ?_⟩
  · simp only [Builtin.firstCells, Sem.run_pure]
    congr 1
    apply Array.toList_inj.1
    simp [ByteArray.data_extract, Array.toList_extract, List.extract_eq_take_drop]
  · generalize b.data.toList.take n = L
    induction L with
    | nil => exact .nil
    | cons c L ih => exact .cons (.int _ _) ih
 case nilSlice a c =>
  simp only [ZI, z2] at h
  subst h
  exact ⟨[], by simp [Builtin.firstCells], .nil⟩
 case closed k off loc len cap a hl hle ha =>
  simp only [ZI] at h
  simp only [YX, z2] at hm
  obtain ⟨l', e1, e2, e3, _⟩ := Yg hR h hl
  refine ⟨l', ?_, e2⟩
  rcases ha with ha | ha
  · have h0 : n * size = 0 := by
     have hz : n = 0 := by omega
     simp [hz]
    rw [h0] at e1
    have : l' = [] := List.eq_nil_of_length_eq_zero e1
    subst this
    simp [Builtin.firstCells, h0, loadCells, loadCellsFrom]
  · rw [ha]; exact e3
 case opened k off loc len cap a hl hle hs ha hx9 =>
  simp only [ZI] at h
  simp only [YX, z2] at hm
  obtain ⟨l', e1, e2, e3, _⟩ := Yg hR h hl
  refine ⟨l', ?_, e2⟩
  rcases ha with ha | ha
  · have h0 : n * size = 0 := by
     have hz : n = 0 := by omega
     simp [hz]
    rw [h0] at e1
    have : l' = [] := List.eq_nil_of_length_eq_zero e1
    subst this
    simp [Builtin.firstCells, h0, loadCells, loadCellsFrom]
  · rw [ha]; exact e3
theorem Sb {t e : TypeId} {d x : Operand} {size : Nat} {rest : List TypeId} {ty : TypeId} (hu : P.underlying t = some (.slice e)) (hs : Zx P e = some size) (hR : Rel P β s.get w)
 (hd : VRel β (ρ d) (ρ' d)) (hx : VRel β (ρ x) (ρ' x)) (h : zl ρ s (.bcopy size d x) = some (v, s')) :
 ∃ v' w', (Builtin.copy_ (t :: rest).toArray ty #[ρ' d, ρ' x]).run P w = .ok v' w' ∧ VRel β v v' ∧ Step P β s.get s.next w β s'.get s'.next w' := by
 simp only [zl] at h
 cases hsl : YX (ρ x) with
 | none => cases hD : ρ d <;> simp [hD, hsl] at h
 | some m =>
  cases hD : ρ d <;> rw [hD] at h hd <;> try (simp only [hsl, reduceCtorEq] at h; done)
  rename_i base len cap
  simp only [hsl] at h
  have hmin : Nat.min m len = if Nat.ble m len = true then m else len := by
   by_cases e : m ≤ len
   · rw [if_pos (Nat.ble_eq_true_of_le e)]; exact Nat.min_eq_left e
   · rw [if_neg (fun h => e (Nat.le_of_ble_eq_true h))]; exact Nat.min_eq_right (by omega)
  rw [← hmin] at h
  have hn1 : Nat.min m len ≤ m := Nat.min_le_left _ _
  have hn2 : Nat.min m len ≤ len := Nat.min_le_right _ _
  generalize hnn : Nat.min m len = n at *
  cases hsrc : ZI s size (ρ x) n with
  | none => simp [hsrc] at h
  | some new =>
   simp only [hsrc] at h
   obtain ⟨l', e1, e2⟩ := V3 hR hx hsl hn1 hsrc
   split at h
   · cases h
   · rename_i hchk
     simp only [Bool.not_eq_true, Bool.not_eq_false', Bool.not_not, Bool.and_eq_true, Bool.eq_false_iff, ne_eq, Bool.not_eq_true'] at hchk
     have hchk : Nat.beq new.length (n * size) = true ∧ zh new = true := by
      by_cases c1 : Nat.beq new.length (n * size) = true <;> by_cases c2 : zh new = true <;> simp_all
     have hlen := Nat.eq_of_beq_eq_true hchk.1
     have start : ∀ (a' : Option Addr) (c' : Nat) (w2 : World), ρ' d = .slice a' len c' → ((match a' with | some a => storeCells a l' 0 | none => pure () : Sem Unit).run P w = .ok () w2) →
      (Builtin.copy_ (t :: rest).toArray ty #[ρ' d, ρ' x]).run P w = .ok (.int .i64 n) w2 := by
      intro a' c' w2 ea hst
      simp only [Builtin.copy_, Sem.run_bind, List.getElem?_toArray, List.getElem?_cons_zero, List.getElem?_cons_succ, zc hu, Result.andThen_ok, ea, ZX hx hsl, hnn, zu hs, e1]
      cases a' with
      | none => simp at hst; subst hst; simp [goInt]
      | some a => simp only [List.toList_toArray] at hst ⊢; simp only [hst, Sem.run_bind, Result.andThen_ok]; rfl
     cases base with
     | none =>
      simp only [z2, Prod.mk.injEq] at h
      obtain ⟨rfl, rfl⟩ := h
      generalize hD' : ρ' d = D' at hd start
      cases hd
      exact ⟨_, w, start none _ w rfl (by simp), .int _ _, Step.refl hR⟩
     | some a0 =>
      obtain ⟨k, off, sp⟩ := a0
      simp only at h
      generalize hD' : ρ' d = D' at hd start
      by_cases hn0 : Nat.beq n 0 = true
      · simp only [hn0, if_true, z2, Prod.mk.injEq] at h
        obtain ⟨rfl, rfl⟩ := h
        have hn0 := Nat.eq_of_beq_eq_true hn0
        have hl0 : l' = [] := by
         apply List.eq_nil_of_length_eq_zero
         rw [← e2.length, hlen, hn0, Nat.zero_mul]
        subst hl0
        cases hd
        · exact ⟨_, w, start _ _ w rfl (by simp [storeCells]), .int _ _, Step.refl hR⟩
        · exact ⟨_, w, start _ _ w rfl (by simp [storeCells]), .int _ _, Step.refl hR⟩
      · have hn0' : n ≠ 0 := fun e => hn0 (by rw [e]; rfl)
        simp only [hn0, z3, if_false] at h
        split at h
        · rename_i s1 hw
          simp only [z2, Prod.mk.injEq] at h
          obtain ⟨rfl, rfl⟩ := h
          cases hd with
          | @closed _ _ loc _ _ a hl hle ha =>
           obtain ⟨w2, f1, st⟩ := Y7 hR hw e2 hchk.2 hl
           rcases ha with ha | ha
           · omega
           · subst ha
             exact ⟨_, w2, start _ _ w2 rfl (by simpa using f1), .int _ _, st⟩
          | @opened _ _ loc _ _ a hl hle hs2 ha hx9 =>
           obtain ⟨w2, f1, st⟩ := Y7 hR hw e2 hchk.2 hl
           rcases ha with ha | ha
           · omega
           · subst ha
             exact ⟨_, w2, start _ _ w2 rfl (by simpa using f1), .int _ _, st⟩
        · cases h
theorem Sc {t e : TypeId} {z : List Value} {x : Operand} {rest : List TypeId} {ty : TypeId} (hu : P.underlying t = some (.slice e)) (hz : zeroOf P e = some z) (hz0 : 0 < z.length) (hR : Rel P β s.get w)
 (hx : VRel β (ρ x) (ρ' x)) (h : zl ρ s (.bclrL z x) = some (v, s')) :
 ∃ v' w', (Builtin.clear_ (t :: rest).toArray ty #[ρ' x]).run P w = .ok v' w' ∧ VRel β v v' ∧ Step P β s.get s.next w β s'.get s'.next w' := by
 simp only [zl] at h
 generalize ρ x = X at hx h
 generalize hX' : ρ' x = X' at hx
 split at h
 rotate_left
 · cases h
 rename_i base len c
 obtain ⟨z0, hz1, hz2, hz3⟩ := ZC (w := w) hz
 split at h
 · rename_i h0
   have h0 := Nat.eq_of_beq_eq_true h0
   subst h0
   cases h
   have : ∃ a c', X' = .slice a 0 c' := by cases hx <;> exact ⟨_, _, rfl⟩
   obtain ⟨a, c', rfl⟩ := this
   refine ⟨_, w, ?_, .undef, Step.refl hR⟩
   simp only [Builtin.clear_, Sem.run_bind, zc hu, Result.andThen_ok, List.getElem?_toArray, List.getElem?_cons_zero, Sem.run_pure]
   cases a <;> rfl
 · rename_i h0
   have h0 : len ≠ 0 := fun e => h0 (by rw [e]; rfl)
   cases base with
   | none =>
    simp only [z2, Prod.mk.injEq] at h
    obtain ⟨rfl, rfl⟩ := h
    cases hx
    refine ⟨_, w, ?_, .undef, Step.refl hR⟩
    simp only [Builtin.clear_, Sem.run_bind, zc hu, Result.andThen_ok, List.getElem?_toArray, List.getElem?_cons_zero, Sem.run_pure]
    rfl
   | some a0 =>
    obtain ⟨k, off, sp⟩ := a0
    simp only at h
    split at h
    rotate_left
    · cases h
    rename_i hone
    split at h
    rotate_left
    · cases h
    rename_i s1 hw
    cases h
    have hrel : LRel β (repeatZ z len) (repeatZ z len) := by
     refine LRel.closedA ?_
     have : ∀ n, closedA (repeatZ z n) = true := by
      intro n
      induction n with
      | zero => rfl
      | succ n ih =>
       have app : ∀ a b : List Value, closedA a = true → closedA b = true → closedA (a ++ b) = true := by
        intro a b ha hb
        induction a with
        | nil => exact hb
        | cons y a iha =>
         simp only [List.cons_append, closedA, Bool.and_eq_true] at ha ⊢
         exact ⟨ha.1, iha ha.2⟩
       exact app _ _ hz3 ih
     exact this len
    have hcells : (Builtin.zeroCells z0.cells len).toList = repeatZ z len := by
     have := Qa z0.cells (by rw [← Array.length_toList, hz2]; exact hz0) len
     rw [hz2] at this
     exact this
    have fin : ∀ (loc : Loc) (a : Addr) (c' : Nat), X' = .slice (some a) len c' → a = ⟨loc.blk, loc.off + off, none⟩ → β k = some loc → ∃ v' w', (Builtin.clear_ (t :: rest).toArray ty #[X']).run P w = .ok v' w' ∧ VRel β zv v' ∧ Step P β s.get s.next w β s'.get s'.next w' := by
     intro loc a c' hX ha hl
     subst hX
     subst ha
     obtain ⟨w2, f1, st⟩ := Y7 hR hw hrel hone hl
     refine ⟨_, w2, ?_, .undef, st⟩
     obtain ⟨n', rfl⟩ : ∃ n', len = n' + 1 := ⟨len - 1, by omega⟩
     simp only [Builtin.clear_, Sem.run_bind, zc hu, Result.andThen_ok, List.getElem?_toArray, List.getElem?_cons_zero, hz1, hcells, f1, Sem.run_pure]
     rfl
    cases hx with
    | @closed _ _ loc _ _ a hl hle ha =>
     rcases ha with ha | ha
     · omega
     · exact fin loc a _ rfl ha hl
    | @opened _ _ loc _ _ a hl hle hs2 ha hx9 =>
     rcases ha with ha | ha
     · omega
     · exact fin loc a _ rfl ha hl
theorem Va {w : World} {b i : Nat} {v : Value} (h : w.cell? ⟨b, i, none⟩ = some v) : ∃ arr t fr, w.heap[b]? = some (.cells arr t fr) := by
 unfold World.cell? at h
 split at h
 · rename_i c t fr hh
   exact ⟨c, t, fr, hh⟩
 · cases h
theorem NM {w : World} {b i : Nat} {v : Value} {arr : Array Value} {t : TypeId} {fr : Nat × Nat} (hb : w.heap[b]? = some (.cells arr t fr)) (h : w.cell? ⟨b, i, none⟩ = some v) : i < arr.size := by
 simp [World.cell?, hb] at h
 exact (Array.getElem?_eq_some_iff.1 h).1
theorem Pg {t e : TypeId} {x : Operand} (hu : P.underlying t = some (.slice e)) (he : P.underlying e = some (.int .u8)) (hR : Rel P β s.get w)
 (hx : VRel β (ρ x) (ρ' x)) (h : zl ρ s (.cvB x) = some (v, s')) :
 ∃ v' w', (convert t t (ρ' x)).run P w = .ok v' w' ∧ VRel β v v' ∧ Step P β s.get s.next w β s'.get s'.next w' := by
 simp only [zl] at h
 generalize hX : ρ x = X at hx h
 generalize hX' : ρ' x = X' at hx
 split at h
 rotate_left
 · cases h
 rename_i k off sp len cap
 split at h
 rotate_left
 · cases h
 rename_i hcap
 have hcap := (zX _ _).1 hcap
 split at h
 rotate_left
 · cases h
 rename_i c l hg
 split at h
 rotate_left
 · cases h
 rename_i s1 hs1
 cases h
 have key : ∃ loc a c', β k = some loc ∧ X' = .slice (some a) len c' ∧ a = ⟨loc.blk, loc.off + off, none⟩ := by
  cases hx with
  | @closed _ _ loc _ _ a hl hle ha =>
   rcases ha with ha | ha
   · omega
   · exact ⟨loc, a, _, hl, rfl, ha⟩
  | @opened _ _ loc _ _ a hl hle hs2 ha hx9 =>
   rcases ha with ha | ha
   · omega
   · exact ⟨loc, a, _, hl, rfl, ha⟩
 obtain ⟨loc, a, c', hl, rfl, rfl⟩ := key
 obtain ⟨l2, h1, hb, hsz, hc, hown, hpl⟩ := hR.obj k _ hg
 rw [hl] at h1; cases h1
 obtain ⟨v0, hv0, _⟩ := hc 0 c rfl
 obtain ⟨arr, ct, ⟨lo, hi⟩, hheap⟩ := Va hv0
 obtain ⟨hfz, hrng⟩ := hpl rfl rfl
 have hlohi : lo = hi := by
  have h1 : lo ≤ hi := by
   unfold Xy at hrng
   rw [hheap] at hrng
   exact Nat.le_of_ble_eq_true hrng
  have h2 := hfz lo
  simp [World.frozen?, hheap] at h2
  omega
 subst hlohi
 have hnew : (w.freeze ⟨loc.blk, arr.size, none⟩ 1).heap = w.heap.modify loc.blk fun
  | .cells c elem (lo, hi) => .cells c elem (if lo == hi then (arr.size, arr.size + 1) else (min lo arr.size, max hi (arr.size + 1)))
  | o => o := by
  unfold World.freeze
  rw [if_neg (by decide)]
  rfl
 have hat : (w.freeze ⟨loc.blk, arr.size, none⟩ 1).heap[loc.blk]? = some (.cells arr ct (arr.size, arr.size + 1)) := by
  rw [hnew, Array.getElem?_modify]
  simp [hheap]
 have hcell : ∀ q, (w.freeze ⟨loc.blk, arr.size, none⟩ 1).cell? ⟨loc.blk, q, none⟩ = w.cell? ⟨loc.blk, q, none⟩ := by
  intro q
  simp only [World.cell?, hat, hheap]
 refine ⟨_, w.freeze ⟨loc.blk, arr.size, none⟩ 1, ?_, hx, Step.write hR hs1 hg rfl rfl hl (by rw [hnew]; simp) (fun r hr => by rw [hnew, Array.getElem?_modify, if_neg (Ne.symm hr)]) (by unfold World.freeze; rw [if_neg (by decide)]) (by unfold World.freeze; rw [if_neg (by decide)]) (by unfold World.freeze; rw [if_neg (by decide)])
  ⟨by rw [hnew]; simpa using hb, hsz, fun i v hv => by rw [hcell]; exact hc i v hv, fun hr i hi => ?_, fun _ hp => by cases hp⟩⟩
 · have hsh : w.shape? loc.blk = some (ct, arr.size) := by unfold World.shape?; rw [hheap]
   simp [convert, run_underlying hu, run_underlying he, markStringish, hsh]
 · obtain ⟨⟨u, hu⟩, _⟩ := hown hr i hi
   refine ⟨⟨u, by rw [hcell]; exact hu⟩, ?_⟩
   have := NM hheap hu
   simp only [World.frozen?, hat]
   simp; omega
def J1 (P : Program) (u : TypeId) : Prop := (∃ e, P.underlying u = some (.slice e)) ∨ P.underlying u = some .string
theorem Xd {t u e : TypeId} {size len cap n : Nat} {rest : List TypeId} {ty : TypeId} {base : Option Addr} {x' : Value} {l' : List Value} {w2 : World} (ht : P.underlying t = some (.slice e)) (hu : J1 P u) (hs : Zx P e = some size)
 (hn : (Builtin.lenOf x').run P w = .ok n w) (hl : (Builtin.firstCells size n x').run P w = .ok l'.toArray w) (hle : len + n ≤ cap)
 (hst : (match base with | some a => storeCells (a.add (len * size)) l' 0 | none => pure () : Sem Unit).run P w = .ok () w2) :
 (Builtin.append_ (t :: u :: rest).toArray ty #[.slice base len cap, x']).run P w = .ok (.slice base (len + n) cap) w2 := by
 have hz : ∀ (f : Bool → Sem Value), ((do let z ← (do pure ((← underlying u) matches .int _) : Sem Bool); f z) : Sem Value).run P w = (f false).run P w := by
  intro f
  rcases hu with ⟨e', hu⟩ | hu <;> simp [zc hu]
 simp only [Builtin.append_, Sem.run_bind, List.getElem?_toArray, List.getElem?_cons_zero, List.getElem?_cons_succ, zc ht, Result.andThen_ok, zu hs]
 rcases hu with ⟨e', hu⟩ | hu
 all_goals
  simp only [zc hu, Result.andThen_ok, Sem.run_pure, z3, if_false, Bool.not_false, if_true, hn, hle, Sem.run_bind, hl]
  cases base with
  | none => simp at hst; subst hst; simp
  | some a => simp only [List.toList_toArray] at hst ⊢; simp only [Sem.run_bind, hst, Result.andThen_ok]; rfl
theorem Dh {t u e : TypeId} {size bytes len cap n : Nat} {rest : List TypeId} {ty : TypeId} {base : Option Addr} {x' : Value} {l' old : List Value} {z0 : Value} (ht : P.underlying t = some (.slice e)) (hu : J1 P u) (hs : Zx P e = some size) (hb : Zn P e = some bytes)
 (hz : (zeroValue e).run P w.drew = .ok z0 w.drew)
 (hn : ∀ u, (Builtin.lenOf x').run P u = .ok n u) (hl : (Builtin.firstCells size n x').run P w.drew = .ok l'.toArray w.drew) (hold : (Builtin.firstCells size len (.slice base len cap)).run P w.drew = .ok old.toArray w.drew)
 (hgt : ¬ len + n ≤ cap) (h40 : len + n ≤ 1099511627776) (hby : (len + n) * bytes ≤ 1099511627776) :
 (Builtin.append_ (t :: u :: rest).toArray ty #[.slice base len cap, x']).run P w = .ok (.slice (some ⟨w.heap.size, 0, none⟩) (len + n) (grownCap w (len + n) cap e))
  (w.drew.alloc (.cells (old.toArray ++ l'.toArray ++ Builtin.zeroCells z0.cells (grownCap w (len + n) cap e - (len + n))) e)) := by
 have hinfo : ∃ i, P.info? e = some i ∧ i.bytes = bytes := by
  unfold Zn at hb
  cases hi : P.info? e with
  | none => simp [hi] at hb
  | some i => simp [hi] at hb; exact ⟨i, rfl, hb⟩
 obtain ⟨i0, hi0, hbe⟩ := hinfo
 have h63' : ¬ (9223372036854775807 < ((len : Int) + (n : Int))) := by omega
 have h48' : ¬ (281474976710656 < Builtin.nextslicecap (len + n) cap * bytes) := by
  have := growslice_fits (need := len + n) (old := cap) (bytes := bytes) (by omega) (by omega)
  omega
 have hsz : (sizeOf e).run P w = .ok size w := zu hs
 rcases hu with ⟨e', hu⟩ | hu
 all_goals
  simp [Builtin.append_, zc ht, zc hu, zu hs, typeInfo, hi0, hbe, hn, hgt, h63', h48', Question.forced, hl, hold, hz, newRow, grownCap]
  try (congr 2; apply Array.ext'; simp [List.append_assoc])
theorem Rel.drew {g : Nat → Option DObj} (h : Rel P β g w) : Rel P β g w.drew := h.same rfl
theorem ZH (z : Array Value) (n : Nat) : (Builtin.zeroCells z n).toList.length = n * z.size := by simp [Builtin.zeroCells]
theorem Px {t u e : TypeId} {x y : Operand} {size bytes : Nat} {rest : List TypeId} {ty : TypeId} {z : List Value} (ht : P.underlying t = some (.slice e)) (hu : J1 P u) (hs : Zx P e = some size) (hpos : 0 < size) (hb : Zn P e = some bytes) (hz : zeroOf P e = some z) (hzl : z.length = size) (hR : Rel P β s.get w)
 (hx : VRel β (ρ x) (ρ' x)) (hy : VRel β (ρ y) (ρ' y)) (hf : s.next < s'.next → β s.next = none) (h : zl ρ s (.bapp bytes size x y) = some (v, s')) :
 ∃ β' v' w', (Builtin.append_ (t :: u :: rest).toArray ty #[ρ' x, ρ' y]).run P w = .ok v' w' ∧ VRel β' v v' ∧ Step P β s.get s.next w β' s'.get s'.next w' := by
 simp only [zl] at h
 cases hsl : YX (ρ y) with
 | none => cases hX : ρ x <;> simp [hX, hsl] at h
 | some n =>
  cases hX : ρ x <;> rw [hX] at h hx <;> try (simp only [hsl, reduceCtorEq] at h; done)
  rename_i base len cap
  simp only [hsl] at h
  cases hsrc : ZI s size (ρ y) n with
  | none => simp [hsrc] at h
  | some new =>
   simp only [hsrc] at h
   obtain ⟨l', e1, e2⟩ := V3 hR hy hsl (Nat.le_refl _) hsrc
   obtain ⟨l2, e1d, e2d⟩ := V3 hR.drew hy hsl (Nat.le_refl _) hsrc
   split at h
   · cases h
   · rename_i hchk
     have hchk : Nat.beq new.length (n * size) = true ∧ zh new = true := by
      by_cases c1 : Nat.beq new.length (n * size) = true <;> by_cases c2 : zh new = true <;> simp_all
     have hlen := Nat.eq_of_beq_eq_true hchk.1
     have hll := e2.length
     split at h
     ·
      rename_i hle
      have hle := Nat.le_of_ble_eq_true hle
      cases base with
      | none =>
       simp only at h
       split at h
       · rename_i hn0
         have hn0 := Nat.eq_of_beq_eq_true hn0
         simp only [z2, Prod.mk.injEq] at h
         obtain ⟨rfl, rfl⟩ := h
         generalize hX' : ρ' x = X' at hx
         cases hx
         exact ⟨β, _, w, Xd ht hu hs (ZX hy hsl) e1 hle (by simp), .nilSlice, Step.refl hR⟩
       · cases h
      | some a0 =>
       obtain ⟨k, off, sp⟩ := a0
       simp only at h
       generalize hX' : ρ' x = X' at hx
       by_cases hn0 : Nat.beq n 0 = true
       · simp only [hn0, if_true, z2, Prod.mk.injEq] at h
         obtain ⟨rfl, rfl⟩ := h
         have hn0 := Nat.eq_of_beq_eq_true hn0
         have hl0 : l' = [] := by
          apply List.eq_nil_of_length_eq_zero
          rw [← hll, hlen, hn0, Nat.zero_mul]
         subst hl0
         subst hn0
         cases hx with
         | @closed _ _ loc _ _ a hl hle2 ha =>
          exact ⟨β, _, w, Xd ht hu hs (ZX hy hsl) e1 hle (by simp [storeCells]), .closed hl (by omega) ha, Step.refl hR⟩
         | @opened _ _ loc _ _ a hl hle2 hs2 ha hx9 =>
          exact ⟨β, _, w, Xd ht hu hs (ZX hy hsl) e1 (by omega) (by simp [storeCells]), .opened hl (by omega) hs2 ha hx9, Step.refl hR⟩
       · have hn0' : n ≠ 0 := fun e => hn0 (by rw [e]; rfl)
         simp only [hn0, z3, if_false] at h
         split at h
         · rename_i s1 hw
           simp only [z2, Prod.mk.injEq] at h
           obtain ⟨rfl, rfl⟩ := h
           cases hx with
           | @closed _ _ loc _ _ a hl hle2 ha =>
            obtain ⟨w2, f1, st⟩ := Y7 hR hw e2 hchk.2 hl
            rcases ha with ha | ha
            · omega
            · subst ha
              exact ⟨β, _, w2, Xd ht hu hs (ZX hy hsl) e1 hle (by simp only [Addr.add_lit, Nat.add_assoc]; exact f1), .closed hl (by omega) (.inr rfl), st⟩
           | @opened _ _ loc _ _ a hl hle2 hs2 ha hx9 =>
            obtain ⟨w2, f1, st⟩ := Y7 hR hw e2 hchk.2 hl
            rcases ha with ha | ha
            · omega
            · subst ha
              exact ⟨β, _, w2, Xd ht hu hs (ZX hy hsl) e1 (by omega) (by simp only [Addr.add_lit, Nat.add_assoc]; exact f1), .opened hl (by omega) hs2 (.inr rfl) hx9, st⟩
         · cases h
     · rename_i hgt
       have hgt : ¬ len + n ≤ cap := fun e => hgt (Nat.ble_eq_true_of_le e)
       split at h
       · rename_i hbd
         simp only [Bool.and_eq_true] at hbd
         have h40 := Nat.le_of_ble_eq_true hbd.1
         have hby := Nat.le_of_ble_eq_true hbd.2
         obtain ⟨z0, hz1, hz2, hz3⟩ := ZC (w := w.drew) hz
         have hzs : z0.cells.size = size := by rw [← Array.length_toList, hz2, hzl]
         have grow : ∀ (a' : Option Addr) (cap' : Nat) (old oldl : List Value), ρ' x = .slice a' len cap' → ¬ len + n ≤ cap' → LRel β old oldl → old.length = len * size →
          (Builtin.firstCells size len (.slice a' len cap')).run P w.drew = .ok oldl.toArray w.drew → s.next < s'.next → ∀ (cc : Cells) (sx : DS), ((∀ i v, cc.get i = some v → (old ++ new)[i]? = some v) ∧ cc.size = (old ++ new).length) → Rel P β sx.get w → sx.next = s.next →
          ∃ ext w', len + n + ext ≤ 9223372036854775807 ∧ (Builtin.append_ (t :: u :: rest).toArray ty #[ρ' x, ρ' y]).run P w = .ok (.slice (some ⟨w.heap.size, 0, none⟩) (len + n) (len + n + ext)) w' ∧
           Step P β sx.get sx.next w (β.upd sx.next ⟨w.heap.size, 0, ext, size, (old ++ new).length⟩) (sx.new (.cells cc false)).get (sx.new (.cells cc false)).next w' := by
          intro a' cap' old oldl ea hgt' hold hol hrun hnx cc sx hcc hRx hnxt
          have hge := grownCap_ge w (len + n) cap' e
          have hgr := Dh (ty := ty) (rest := rest) ht hu hs hb hz1 (fun u => ZX hy hsl) e1d hrun hgt' h40 hby
          refine ⟨grownCap w (len + n) cap' e - (len + n), _, by have := grownCap_le_maxLen w (len + n) cap' e (by simp only [maxLen]; omega); simp only [maxLen] at this; omega, ?_, row_step (P := P) (w' := w.drew.alloc (.cells (oldl.toArray ++ l2.toArray ++ Builtin.zeroCells z0.cells (grownCap w (len + n) cap' e - (len + n))) e)) (arr := oldl.toArray ++ l2.toArray ++ Builtin.zeroCells z0.cells (grownCap w (len + n) cap' e - (len + n))) (t := e) (fr := (0, 0)) (l := old ++ new) (l' := oldl ++ l2) (more := (Builtin.zeroCells z0.cells (grownCap w (len + n) cap' e - (len + n))).toList) hRx (by rw [hnxt]; exact hf hnx) rfl rfl rfl rfl (by simp) (hold.append e2d) hcc (by rw [ZH, hzs]) (.inl rfl)⟩
          rw [ea, hgr]
          congr 2
          omega
         cases base with
         | none =>
          simp only at h
          split at h
          · rename_i hl0
            have hl0 := Nat.eq_of_beq_eq_true hl0
            simp only [z2, Prod.mk.injEq] at h
            obtain ⟨rfl, rfl⟩ := h
            subst hl0
            generalize hX' : ρ' x = X' at hx
            cases hx
            obtain ⟨ext, w', g0, g1, g2⟩ := grow none _ [] [] hX' hgt .nil (by simp) (by simp [Builtin.firstCells]) (by show s.next < s.next + 1; omega) (.list _) s (Zc _) hR rfl
            simp only [List.nil_append, Nat.zero_add] at g0 g1 g2
            rw [hX'] at g1
            exact ⟨_, _, w', g1, VRel.opened (l := ⟨w.heap.size, 0, ext, size, new.length⟩) (Emb.upd_same _ _ _) (Nat.le_refl _) (by simp [hlen]) (.inr rfl) g0, g2⟩
          · cases h
         | some a0 =>
          obtain ⟨k, off, sp⟩ := a0
          cases sp with
          | none =>
           simp only at h
           cases hrd : s.read k off (len * size) with
           | none => simp [hrd] at h
           | some old =>
            simp only [hrd] at h
            split at h
            · rename_i hall
              simp only [z2, Prod.mk.injEq] at h
              obtain ⟨rfl, rfl⟩ := h
              generalize hX' : ρ' x = X' at hx
              cases hx with
              | @closed _ _ loc _ _ a hl hle2 ha =>
               obtain ⟨oldl, o1, o2, o3, _⟩ := Yg hR.drew hrd hl
               have hol : old.length = len * size := by rw [o2.length, o1]
               obtain ⟨ext, w', g0, g1, g2⟩ := grow (some a) cap old oldl hX' hgt o2 hol (by
                rcases ha with ha | ha
                · have h0 : len = 0 := by omega
                  subst h0
                  have : oldl = [] := List.eq_nil_of_length_eq_zero (by rw [o1]; simp)
                  subst this
                  simp [Builtin.firstCells, loadCells, loadCellsFrom]
                · rw [ha]; exact o3) (by show s.next < s.next + 1; omega) (.list _) s (Zc _) hR rfl
               rw [hX'] at g1
               exact ⟨_, _, w', g1, VRel.opened (l := ⟨w.heap.size, 0, ext, size, (old ++ new).length⟩) (Emb.upd_same _ _ _) (Nat.le_refl _) (by simp [hlen, hol, Nat.add_mul]) (.inr rfl) g0, g2⟩
            · cases h
          | some sz =>
           simp only at h
           split at h
           · rename_i hsz
             have hsz := Nat.eq_of_beq_eq_true hsz
             subst hsz
             cases hg : s.get k with
             | none => simp [hg] at h
             | some ob =>
              cases ob <;> simp only [hg, reduceCtorEq] at h
              rename_i c ro
              cases ro with
              | true => simp at h
              | false =>
               simp only at h
               cases htk : c.take off (len * sz) with
               | none => simp [htk] at h
               | some old =>
                cases hkl : s.kill k with
                | none => simp [htk, hkl] at h
                | some s1 =>
                 simp only [htk, hkl] at h
                 split at h
                 · rename_i hall
                   simp only [z2, Prod.mk.injEq] at h
                   obtain ⟨rfl, rfl⟩ := h
                   have hnk : s1.next = s.next := DS.kill_next hkl
                   have hfn : β s1.next = none := by rw [hnk]; exact hf (by show s.next < s1.next + 1; omega)
                   have hrd : s.read k off (len * sz) = some old := by simp [DS.read, hg, htk]
                   generalize hX' : ρ' x = X' at hx
                   generalize hvv : (Value.slice (some ⟨s1.next, 0, some sz⟩) (len + n) (len + n)) = vv
                   cases hx with
                   | @opened _ _ loc _ _ a hl hle2 hs2 ha hx9 =>
                    obtain ⟨l0, hl0, hb1, hb2, hb3, hb4, hb5⟩ := hR.obj k _ hg
                    rw [hl] at hl0; cases hl0
                    obtain ⟨oldl, o1, o2, o3, o4⟩ := Yg hR.drew hrd hl
                    have hol : old.length = len * loc.sz := by rw [o2.length, o1]
                    by_cases hroom : len + n ≤ cap + loc.ext
                    ·
                     rcases ha with ha | ha
                     · omega
                     · subst ha
                       have hmul : (len + n) * loc.sz ≤ (cap + loc.ext) * loc.sz := Nat.mul_le_mul_right _ hroom
                       rw [Nat.add_mul, Nat.add_mul] at hmul
                       obtain ⟨w2, f1, f2, f3, f4, f5, f6, f7, f8, f9⟩ := Xx (P := P) l' loc.blk (loc.off + off + len * loc.sz) 0 w (YP e2 hchk.2) (by
                        intro j hj
                        have := hb4 rfl (off + len * loc.sz + j) (by omega)
                        simpa [Nat.add_assoc] using this)
                       have hext : (cap + loc.ext) = (len + n) + (cap + loc.ext - (len + n)) := by omega
                       have hextm : (cap + loc.ext - (len + n)) * loc.sz = cap * loc.sz + loc.ext * loc.sz - (len * loc.sz + n * loc.sz) := by
                        rw [Nat.sub_mul, Nat.add_mul, Nat.add_mul]
                       have st := Step.regrow (P := P) (w' := w2) (o' := .cells (c.like (old ++ new)) false) (l' := ⟨loc.blk, loc.off + off, cap + loc.ext - (len + n), loc.sz, (old ++ new).length⟩) hR hg rfl hl hkl hfn rfl f2 f3 f4 f5 f6 rfl (by
                        have hlb := Emb.le_upd (l := ⟨loc.blk, loc.off + off, cap + loc.ext - (len + n), loc.sz, (old ++ new).length⟩) hfn
                        refine ⟨by show loc.blk < w2.heap.size; omega, (ZM c _).2, ?_, ?_, fun _ hp => ⟨fun i => by rw [f8]; exact (hb5 rfl (by rw [← YL c (old ++ new)]; exact hp)).1 i, by show Xy w2 loc.blk = true; rw [f9]; exact (hb5 rfl (by rw [← YL c (old ++ new)]; exact hp)).2⟩⟩
                        · intro i v hv
                          have hv : (old ++ new)[i]? = some v := (ZM c _).1 i v hv
                          rcases Nat.lt_or_ge i old.length with hi | hi
                          · rw [List.getElem?_append_left hi] at hv
                            obtain ⟨v', q1, q2⟩ := o2.get? hv
                            refine ⟨v', ?_, q2.mono hlb⟩
                            have := o4 i v' q1
                            rw [Addr.add_lit] at this
                            show w2.cell? ⟨loc.blk, loc.off + off + i, none⟩ = some v'
                            rw [f7, if_neg (by omega)]
                            exact this
                          · rw [List.getElem?_append_right hi] at hv
                            obtain ⟨v', q1, q2⟩ := e2.get? hv
                            refine ⟨v', ?_, q2.mono hlb⟩
                            have hlt : i - old.length < l'.length := (List.getElem?_eq_some_iff.1 q1).1
                            show w2.cell? ⟨loc.blk, loc.off + off + i, none⟩ = some v'
                            rw [f7, if_pos (by omega), show loc.off + off + i - (loc.off + off + len * loc.sz + 0) = i - old.length from by omega]
                            exact q1
                        · intro _ i hi
                          have hi' : i < len * loc.sz + n * loc.sz + (cap + loc.ext - (len + n)) * loc.sz := by simpa [hol, hlen] using hi
                          have := hb4 rfl (off + i) (by omega)
                          rw [← Nat.add_assoc] at this
                          obtain ⟨⟨u1, hu1⟩, hu2⟩ := this
                          refine ⟨?_, by rw [f8]; exact hu2⟩
                          show ∃ u, w2.cell? ⟨loc.blk, loc.off + off + i, none⟩ = some u
                          rw [f7]
                          split
                          · exact ⟨_, List.getElem?_eq_getElem (by omega)⟩
                          · exact ⟨u1, hu1⟩)
                       subst hvv
                       refine ⟨_, _, w2, Xd ht hu hs (ZX hy hsl) e1 hroom (by simp only [Addr.add_lit]; exact f1), ?_, st⟩
                       have hv := VRel.opened (β := β.upd s1.next ⟨loc.blk, loc.off + off, cap + loc.ext - (len + n), loc.sz, (old ++ new).length⟩) (k := s1.next) (off := 0) (l := ⟨loc.blk, loc.off + off, cap + loc.ext - (len + n), loc.sz, (old ++ new).length⟩) (n := len + n) (c := len + n) (a := ⟨loc.blk, loc.off + off, none⟩)
                        (Emb.upd_same _ _ _) (Nat.le_refl _) (by simp [hol, hlen, Nat.add_mul]) (.inr rfl) (by show len + n + (cap + loc.ext - (len + n)) ≤ _; omega)
                       simp only [← hext] at hv
                       exact hv
                    ·
                     have hkst := Step.kill (P := P) hR hkl
                     obtain ⟨ext, w', g0, g1, g2⟩ := grow (some a) (cap + loc.ext) old oldl hX' hroom o2 hol (by
                      rcases ha with ha | ha
                      · have h0 : len = 0 := by omega
                        subst h0
                        have : oldl = [] := List.eq_nil_of_length_eq_zero (by rw [o1]; simp)
                        subst this
                        simp [Builtin.firstCells, loadCells, loadCellsFrom]
                      · rw [ha]; exact o3) (by show s.next < s1.next + 1; omega) (c.like (old ++ new)) s1 (ZM c _) hkst.rel hnk
                     rw [hX'] at g1
                     subst hvv
                     exact ⟨_, _, w', g1, VRel.opened (l := ⟨w.heap.size, 0, ext, loc.sz, (old ++ new).length⟩) (Emb.upd_same _ _ _) (Nat.le_refl _) (by simp [hlen, hol, Nat.add_mul]) (.inr rfl) g0, hkst.trans g2⟩
                 · cases h
           · cases h
       · cases h
theorem Cs {t u e : TypeId} {q k' : IntKind} {size bytes len cap n : Nat} {rest : List TypeId} {ty : TypeId} {a : Addr} {z0 : Value} {w2 : World} (ht : P.underlying t = some (.slice e)) (hu : P.underlying u = some (.int q)) (hs : Zx P e = some size) (hpos : 0 < size) (hb : Zn P e = some bytes)
 (hz : (zeroValue e).run P w = .ok z0 w) (h0 : 0 < n) (h40 : len + n ≤ 1099511627776) (hby : (len + n) * bytes ≤ 1099511627776) (hle : len + n ≤ cap)
 (hst : (storeCells (a.add (len * size)) (Builtin.zeroCells z0.cells n).toList 0 : Sem Unit).run P w = .ok () w2) :
 (Builtin.append_ (t :: u :: rest).toArray ty #[.slice (some a) len cap, .int k' (.ofNat n)]).run P w = .ok (.slice (some a) (len + n) cap) w2 := by
 have hinfo : ∃ i, P.info? e = some i ∧ i.bytes = bytes := by
  unfold Zn at hb
  cases hi : P.info? e with
  | none => simp [hi] at hb
  | some i => simp [hi] at hb; exact ⟨i, rfl, hb⟩
 obtain ⟨i0, hi0, hbe⟩ := hinfo
 have hw : IntKind.i64.wrap (n : Int) = (n : Int) := by
  simp [IntKind.wrap, IntKind.bits, IntKind.signed]
  omega
 have hnb : n * bytes ≤ (len + n) * bytes := Nat.mul_le_mul_right _ (by omega)
 have h48 : ¬ (281474976710656 < (n : Int) * (bytes : Int)) := by
  have : ((n * bytes : Nat) : Int) ≤ 1099511627776 := by omega
  rw [Int.natCast_mul] at this
  omega
 have hns : ¬ n * size = 0 := by
  have := Nat.mul_pos h0 hpos
  omega
 simp [Builtin.append_, zc ht, zc hu, zu hs, typeInfo, hi0, hbe, h48, hz, asInt, asIntOf, hw, hns, hle]
 rw [hst]
 rfl
theorem Gz {t u e : TypeId} {q k' : IntKind} {size bytes len cap n : Nat} {rest : List TypeId} {ty : TypeId} {base : Option Addr} {old : List Value} {z0 : Value} (ht : P.underlying t = some (.slice e)) (hu : P.underlying u = some (.int q)) (hs : Zx P e = some size) (hpos : 0 < size) (hb : Zn P e = some bytes)
 (hz : (zeroValue e).run P w.drew = .ok z0 w.drew) (h0 : 0 < n) (hold : (Builtin.firstCells size len (.slice base len cap)).run P w.drew = .ok old.toArray w.drew)
 (hgt : ¬ len + n ≤ cap) (h40 : len + n ≤ 1099511627776) (hby : (len + n) * bytes ≤ 1099511627776) :
 (Builtin.append_ (t :: u :: rest).toArray ty #[.slice base len cap, .int k' (.ofNat n)]).run P w = .ok (.slice (some ⟨w.heap.size, 0, none⟩) (len + n) (grownCap w (len + n) cap e))
  (w.drew.alloc (.cells (old.toArray ++ Builtin.zeroCells z0.cells n ++ Builtin.zeroCells z0.cells (grownCap w (len + n) cap e - (len + n))) e)) := by
 have hinfo : ∃ i, P.info? e = some i ∧ i.bytes = bytes := by
  unfold Zn at hb
  cases hi : P.info? e with
  | none => simp [hi] at hb
  | some i => simp [hi] at hb; exact ⟨i, rfl, hb⟩
 obtain ⟨i0, hi0, hbe⟩ := hinfo
 have hw : IntKind.i64.wrap (n : Int) = (n : Int) := by
  simp [IntKind.wrap, IntKind.bits, IntKind.signed]
  omega
 have hnb : n * bytes ≤ (len + n) * bytes := Nat.mul_le_mul_right _ (by omega)
 have h63' : ¬ (9223372036854775807 < ((len : Int) + (n : Int))) := by omega
 have h48 : ¬ (281474976710656 < (n : Int) * (bytes : Int)) := by
  have : ((n * bytes : Nat) : Int) ≤ 1099511627776 := by omega
  rw [Int.natCast_mul] at this
  omega
 have h48' : ¬ (281474976710656 < Builtin.nextslicecap (len + n) cap * bytes) := by
  have := growslice_fits (need := len + n) (old := cap) (bytes := bytes) (by omega) (by omega)
  omega
 have hns : ¬ n * size = 0 := by
  have := Nat.mul_pos h0 hpos
  omega
 simp [Builtin.append_, zc ht, zc hu, zu hs, typeInfo, hi0, hbe, hgt, h63', h48, h48', Question.forced, hold, hz, newRow, grownCap, asInt, asIntOf, hw, hns]
 intro hneg
 omega
theorem Kn {z : List Value} (hz : closedA z = true) : ∀ n, closedA (repeatZ z n) = true := by
 intro n
 induction n with
 | zero => rfl
 | succ n ih =>
  have app : ∀ a b : List Value, closedA a = true → closedA b = true → closedA (a ++ b) = true := by
   intro a b ha hb
   induction a with
   | nil => exact hb
   | cons y a iha =>
    simp only [List.cons_append, closedA, Bool.and_eq_true] at ha ⊢
    exact ⟨ha.1, iha ha.2⟩
  exact app _ _ hz ih
theorem Sf {t u e : TypeId} {q k' : IntKind} {size bytes k off len cap n : Nat} {rest : List TypeId} {ty : TypeId} {z old : List Value} {X' : Value} {c : Cells} {s1 : DS} (ht : P.underlying t = some (.slice e)) (hu : P.underlying u = some (.int q)) (hs : Zx P e = some size) (hpos : 0 < size) (hb : Zn P e = some bytes) (hz : zeroOf P e = some z) (hzl : z.length = size) (hR : Rel P β s.get w)
 (hx : VRel β (.slice (some ⟨k, off, some size⟩) len cap) X') (h0 : 0 < n) (hgt : ¬ len + n ≤ cap) (h40 : len + n ≤ 1099511627776) (hby : (len + n) * bytes ≤ 1099511627776) (hall : zh (repeatZ z n) = true)
 (hg : s.get k = some (.cells c false)) (htk : c.take off (len * size) = some old) (hkl : s.kill k = some s1) (hf : s.next < (s1.new (.cells (c.like (old ++ repeatZ z n)) false)).next → β s.next = none) :
 ∃ β' v' w', (Builtin.append_ (t :: u :: rest).toArray ty #[X', .int k' (.ofNat n)]).run P w = .ok v' w' ∧ VRel β' (.slice (some ⟨s1.next, 0, some size⟩) (len + n) (len + n)) v' ∧ Step P β s.get s.next w β' (s1.new (.cells (c.like (old ++ repeatZ z n)) false)).get (s1.new (.cells (c.like (old ++ repeatZ z n)) false)).next w' := by
 obtain ⟨z0, hz1, hz2, hz3⟩ := ZC (w := w.drew) hz
 obtain ⟨z0', hz1', hz2', _⟩ := ZC (w := w) hz
 have hzs : z0.cells.size = size := by rw [← Array.length_toList, hz2, hzl]
 have hzs' : z0'.cells.size = size := by rw [← Array.length_toList, hz2', hzl]
 have hcells : (Builtin.zeroCells z0.cells n).toList = repeatZ z n := by
  have := Qa z0.cells (by rw [hzs]; exact hpos) n
  rw [hz2] at this
  exact this
 have hcells' : (Builtin.zeroCells z0'.cells n).toList = repeatZ z n := by
  have := Qa z0'.cells (by rw [hzs']; exact hpos) n
  rw [hz2'] at this
  exact this
 have hlen : (repeatZ z n).length = n * size := by rw [← hcells, ZH, hzs]
 obtain ⟨new, hnew⟩ : ∃ new, new = repeatZ z n := ⟨_, rfl⟩
 have e2 : LRel β new new := by rw [hnew]; exact LRel.closedA (Kn hz3 n)
 have e2d := e2
 rw [← hnew] at hf hall hcells hcells' hlen ⊢
 have hnk : s1.next = s.next := DS.kill_next hkl
 have hfn : β s1.next = none := by rw [hnk]; exact hf (by show s.next < s1.next + 1; omega)
 have hrd : s.read k off (len * size) = some old := by simp [DS.read, hg, htk]
 generalize hvv : (Value.slice (some ⟨s1.next, 0, some size⟩) (len + n) (len + n)) = vv
 cases hx with
 | @opened _ _ loc _ _ a hl hle2 hs2 ha hx9 =>
  obtain ⟨l0, hl0, hb1, hb2, hb3, hb4, hb5⟩ := hR.obj k _ hg
  rw [hl] at hl0; cases hl0
  obtain ⟨oldl, o1, o2, o3, o4⟩ := Yg hR.drew hrd hl
  have hol : old.length = len * loc.sz := by rw [o2.length, o1]
  by_cases hroom : len + n ≤ cap + loc.ext
  · rcases ha with ha | ha
    · omega
    · subst ha
      have hmul : (len + n) * loc.sz ≤ (cap + loc.ext) * loc.sz := Nat.mul_le_mul_right _ hroom
      rw [Nat.add_mul, Nat.add_mul] at hmul
      obtain ⟨w2, f1, f2, f3, f4, f5, f6, f7, f8, f9⟩ := Xx (P := P) new loc.blk (loc.off + off + len * loc.sz) 0 w (YP e2 hall) (by
       intro j hj
       have := hb4 rfl (off + len * loc.sz + j) (by omega)
       simpa [Nat.add_assoc] using this)
      have hext : (cap + loc.ext) = (len + n) + (cap + loc.ext - (len + n)) := by omega
      have hextm : (cap + loc.ext - (len + n)) * loc.sz = cap * loc.sz + loc.ext * loc.sz - (len * loc.sz + n * loc.sz) := by
       rw [Nat.sub_mul, Nat.add_mul, Nat.add_mul]
      have st := Step.regrow (P := P) (w' := w2) (o' := .cells (c.like (old ++ new)) false) (l' := ⟨loc.blk, loc.off + off, cap + loc.ext - (len + n), loc.sz, (old ++ new).length⟩) hR hg rfl hl hkl hfn rfl f2 f3 f4 f5 f6 rfl (by
       have hlb := Emb.le_upd (l := ⟨loc.blk, loc.off + off, cap + loc.ext - (len + n), loc.sz, (old ++ new).length⟩) hfn
       refine ⟨by show loc.blk < w2.heap.size; omega, (ZM c _).2, ?_, ?_, fun _ hp => ⟨fun i => by rw [f8]; exact (hb5 rfl (by rw [← YL c (old ++ new)]; exact hp)).1 i, by show Xy w2 loc.blk = true; rw [f9]; exact (hb5 rfl (by rw [← YL c (old ++ new)]; exact hp)).2⟩⟩
       · intro i v hv
         have hv : (old ++ new)[i]? = some v := (ZM c _).1 i v hv
         rcases Nat.lt_or_ge i old.length with hi | hi
         · rw [List.getElem?_append_left hi] at hv
           obtain ⟨v', q1, q2⟩ := o2.get? hv
           refine ⟨v', ?_, q2.mono hlb⟩
           have := o4 i v' q1
           rw [Addr.add_lit] at this
           show w2.cell? ⟨loc.blk, loc.off + off + i, none⟩ = some v'
           rw [f7, if_neg (by omega)]
           exact this
         · rw [List.getElem?_append_right hi] at hv
           obtain ⟨v', q1, q2⟩ := e2.get? hv
           refine ⟨v', ?_, q2.mono hlb⟩
           have hlt : i - old.length < new.length := (List.getElem?_eq_some_iff.1 q1).1
           show w2.cell? ⟨loc.blk, loc.off + off + i, none⟩ = some v'
           rw [f7, if_pos (by omega), show loc.off + off + i - (loc.off + off + len * loc.sz + 0) = i - old.length from by omega]
           exact q1
       · intro _ i hi
         have hi' : i < len * loc.sz + n * loc.sz + (cap + loc.ext - (len + n)) * loc.sz := by simpa [hol, hlen] using hi
         have := hb4 rfl (off + i) (by omega)
         rw [← Nat.add_assoc] at this
         obtain ⟨⟨u1, hu1⟩, hu2⟩ := this
         refine ⟨?_, by rw [f8]; exact hu2⟩
         show ∃ u, w2.cell? ⟨loc.blk, loc.off + off + i, none⟩ = some u
         rw [f7]
         split
         · exact ⟨_, List.getElem?_eq_getElem (by omega)⟩
         · exact ⟨u1, hu1⟩)
      subst hvv
      refine ⟨_, _, w2, Cs (z0 := z0') ht hu hs hpos hb hz1' h0 h40 hby hroom (by rw [hcells']; simp only [Addr.add_lit]; exact f1), ?_, st⟩
      have hv := VRel.opened (β := β.upd s1.next ⟨loc.blk, loc.off + off, cap + loc.ext - (len + n), loc.sz, (old ++ new).length⟩) (k := s1.next) (off := 0) (l := ⟨loc.blk, loc.off + off, cap + loc.ext - (len + n), loc.sz, (old ++ new).length⟩) (n := len + n) (c := len + n) (a := ⟨loc.blk, loc.off + off, none⟩)
       (Emb.upd_same _ _ _) (Nat.le_refl _) (by simp [hol, hlen, Nat.add_mul]) (.inr rfl) (by show len + n + (cap + loc.ext - (len + n)) ≤ _; omega)
      simp only [← hext] at hv
      exact hv
  · have hkst := Step.kill (P := P) hR hkl
    have hold : (Builtin.firstCells loc.sz len (.slice (some a) len (cap + loc.ext))).run P w.drew = .ok oldl.toArray w.drew := by
     rcases ha with ha | ha
     · have h0 : len = 0 := by omega
       subst h0
       have : oldl = [] := List.eq_nil_of_length_eq_zero (by rw [o1]; simp)
       subst this
       simp [Builtin.firstCells, loadCells, loadCellsFrom]
     · rw [ha]; exact o3
    have hge := grownCap_ge w (len + n) (cap + loc.ext) e
    have hgr := Gz (ty := ty) (rest := rest) (k' := k') ht hu hs hpos hb hz1 h0 hold hroom h40 hby
    have hcm := grownCap_le_maxLen w (len + n) (cap + loc.ext) e (by simp only [maxLen]; omega)
    have st := row_step (P := P) (w' := w.drew.alloc (.cells (oldl.toArray ++ Builtin.zeroCells z0.cells n ++ Builtin.zeroCells z0.cells (grownCap w (len + n) (cap + loc.ext) e - (len + n))) e)) (arr := oldl.toArray ++ Builtin.zeroCells z0.cells n ++ Builtin.zeroCells z0.cells (grownCap w (len + n) (cap + loc.ext) e - (len + n))) (t := e) (fr := (0, 0)) (l := old ++ new) (l' := oldl ++ new) (more := (Builtin.zeroCells z0.cells (grownCap w (len + n) (cap + loc.ext) e - (len + n))).toList) (c := c.like (old ++ new)) (ext := grownCap w (len + n) (cap + loc.ext) e - (len + n)) (sz := loc.sz) hkst.rel hfn rfl rfl rfl rfl (by simp [hcells]) (o2.append e2d) (ZM c _) (by rw [ZH, hzs]) (.inl rfl)
    subst hvv
    refine ⟨_, _, _, hgr, ?_, hkst.trans st⟩
    have hv := VRel.opened (β := β.upd s1.next ⟨w.heap.size, 0, grownCap w (len + n) (cap + loc.ext) e - (len + n), loc.sz, (old ++ new).length⟩) (k := s1.next) (off := 0) (l := ⟨w.heap.size, 0, grownCap w (len + n) (cap + loc.ext) e - (len + n), loc.sz, (old ++ new).length⟩) (n := len + n) (c := len + n) (a := ⟨w.heap.size, 0, none⟩)
     (Emb.upd_same _ _ _) (Nat.le_refl _) (by simp [hlen, hol, Nat.add_mul]) (.inr rfl) (by
      show len + n + (grownCap w (len + n) (cap + loc.ext) e - (len + n)) ≤ 9223372036854775807
      simp only [maxLen] at hcm; omega)
    have hxx : len + n + (grownCap w (len + n) (cap + loc.ext) e - (len + n)) = grownCap w (len + n) (cap + loc.ext) e := by omega
    simp only [hxx] at hv
    exact hv
theorem Gy {t u e : TypeId} {q k' : IntKind} {size bytes len cap : Nat} {rest : List TypeId} {ty : TypeId} {base : Option Addr} (ht : P.underlying t = some (.slice e)) (hu : P.underlying u = some (.int q)) (hs : Zx P e = some size) (hb : Zn P e = some bytes) (hle : len ≤ cap) :
 (Builtin.append_ (t :: u :: rest).toArray ty #[.slice base len cap, .int k' (.ofNat 0)]).run P w = .ok (.slice base len cap) w := by
 have hinfo : ∃ i, P.info? e = some i ∧ i.bytes = bytes := by
  unfold Zn at hb
  cases hi : P.info? e with
  | none => simp [hi] at hb
  | some i => simp [hi] at hb; exact ⟨i, rfl, hb⟩
 obtain ⟨i0, hi0, hbe⟩ := hinfo
 have hw : IntKind.i64.wrap (0 : Int) = 0 := by decide
 cases base <;> simp [Builtin.append_, zc ht, zc hu, zu hs, typeInfo, hi0, hbe, asInt, asIntOf, hw, hle, storeCells]
theorem Sg {t u e : TypeId} {q : IntKind} {x y : Operand} {size bytes : Nat} {rest : List TypeId} {ty : TypeId} {z : List Value} (ht : P.underlying t = some (.slice e)) (hu : P.underlying u = some (.int q)) (hs : Zx P e = some size) (hpos : 0 < size) (hb : Zn P e = some bytes) (hz : zeroOf P e = some z) (hzl : z.length = size) (hR : Rel P β s.get w)
 (hx : VRel β (ρ x) (ρ' x)) (hy : VRel β (ρ y) (ρ' y)) (hf : s.next < s'.next → β s.next = none) (h : zl ρ s (.bappZ bytes z x y) = some (v, s')) :
 ∃ β' v' w', (Builtin.append_ (t :: u :: rest).toArray ty #[ρ' x, ρ' y]).run P w = .ok v' w' ∧ VRel β' v v' ∧ Step P β s.get s.next w β' s'.get s'.next w' := by
 simp only [zl] at h
 generalize ρ x = X at hx h
 generalize ρ y = Y at hy h
 generalize ρ' x = X' at hx
 generalize ρ' y = Y' at hy
 split at h
 rotate_left
 · rename_i k off sz len cap n hn
   obtain ⟨k', rfl⟩ : ∃ k', Y = .int k' (.ofNat n) := by
    cases Y <;> try (cases hn; done)
    rename_i k' a
    cases a with
    | ofNat m => cases hn; exact ⟨k', rfl⟩
    | negSucc m => cases hn
   cases hy
   split at h
   · rename_i hn0
     have hn0 := Nat.eq_of_beq_eq_true hn0
     subst hn0
     split at h
     · rename_i hle
       have hle := Nat.le_of_ble_eq_true hle
       cases h
       cases hx with
       | @opened _ _ loc _ _ a hl hle2 hs2 ha hx9 =>
        exact ⟨β, _, w, Gy ht hu hs hb (by omega), .opened hl (by omega) hs2 ha hx9, Step.refl hR⟩
     · cases h
   · rename_i hn0
     have h0 : 0 < n := Nat.pos_of_ne_zero fun e => hn0 (by rw [e]; rfl)
     split at h
     · rename_i hc
       simp only [Bool.and_eq_true, Bool.not_eq_true'] at hc
       obtain ⟨⟨⟨⟨hc1, hc2⟩, hc3⟩, hc4⟩, hc5⟩ := hc
       have hgt : ¬ len + n ≤ cap := fun e => by rw [Nat.ble_eq_true_of_le e] at hc1; cases hc1
       have hsz := Nat.eq_of_beq_eq_true hc2
       rw [hzl] at hsz h
       subst hsz
       split at h
       · rename_i c hg
         split at h
         · rename_i old s1 htk hkl
           split at h
           · cases h
             exact Sf ht hu hs hpos hb hz hzl hR hx h0 hgt (Nat.le_of_ble_eq_true hc4) (Nat.le_of_ble_eq_true hc5) hc3 hg htk hkl hf
           · cases h
         · cases h
       · cases h
     · cases h
 · cases h
 rename_i n hn
 split at h
 rotate_left
 · cases h
 rename_i hc
 simp only [Bool.and_eq_true] at hc
 obtain ⟨⟨h0, h40⟩, hby⟩ := hc
 have h0 := (zX _ _).1 h0
 have h40 := Nat.le_of_ble_eq_true h40
 have hby := Nat.le_of_ble_eq_true hby
 cases h
 cases hx
 obtain ⟨k', rfl⟩ : ∃ k', Y = .int k' (.ofNat n) := by
  cases Y <;> try (cases hn; done)
  rename_i k' a
  cases a with
  | ofNat m => cases hn; exact ⟨k', rfl⟩
  | negSucc m => cases hn
 cases hy
 have hinfo : ∃ i, P.info? e = some i ∧ i.bytes = bytes := by
  unfold Zn at hb
  cases hi : P.info? e with
  | none => simp [hi] at hb
  | some i => simp [hi] at hb; exact ⟨i, rfl, hb⟩
 obtain ⟨i0, hi0, hbe⟩ := hinfo
 obtain ⟨z0, hz1, hz2, hz3⟩ := ZC (w := w.drew) hz
 have hzs : z0.cells.size = size := by rw [← Array.length_toList, hz2, hzl]
 have hw : IntKind.i64.wrap (n : Int) = (n : Int) := by
  simp [IntKind.wrap, IntKind.bits, IntKind.signed]
  omega
 have h63' : ¬ (9223372036854775807 < (n : Int)) := by omega
 have h48 : ¬ (281474976710656 < (n : Int) * (bytes : Int)) := by
  have : ((n * bytes : Nat) : Int) ≤ 1099511627776 := by omega
  rw [Int.natCast_mul] at this
  omega
 have h48' : ¬ (281474976710656 < Builtin.nextslicecap n 0 * bytes) := by
  have := growslice_fits (need := n) (old := 0) (bytes := bytes) (by omega) (by omega)
  omega
 have hgt : ¬ n ≤ 0 := by omega
 have hns : ¬ n * size = 0 := by
  have := Nat.mul_pos h0 hpos
  omega
 have hcells : (Builtin.zeroCells z0.cells n).toList = repeatZ z n := by
  have := Qa z0.cells (by rw [hzs]; exact hpos) n
  rw [hz2] at this
  exact this
 have hge := grownCap_ge w n 0 e
 have hcm := grownCap_le_maxLen w n 0 e (by simp only [maxLen]; omega)
 have hrun : (Builtin.append_ (t :: u :: rest).toArray ty #[.slice none 0 0, .int k' (.ofNat n)]).run P w = .ok (.slice (some ⟨w.heap.size, 0, none⟩) n (grownCap w n 0 e))
  (w.drew.alloc (.cells (Builtin.zeroCells z0.cells n ++ Builtin.zeroCells z0.cells (grownCap w n 0 e - n)) e)) := by
  simp [Builtin.append_, zc ht, zc hu, zu hs, typeInfo, hi0, hbe, hgt, h63', h48, h48', Question.forced, hz1, newRow, grownCap, asInt, asIntOf, hw, Builtin.firstCells, hns, h0]
  rw [if_neg (by omega), if_neg (by omega)]
 have hrel : LRel β (repeatZ z n) (repeatZ z n) := by
  refine LRel.closedA ?_
  have : ∀ n, closedA (repeatZ z n) = true := by
   intro n
   induction n with
   | zero => rfl
   | succ n ih =>
    have app : ∀ a b : List Value, closedA a = true → closedA b = true → closedA (a ++ b) = true := by
     intro a b ha hb
     induction a with
     | nil => exact hb
     | cons y a iha =>
      simp only [List.cons_append, closedA, Bool.and_eq_true] at ha ⊢
      exact ⟨ha.1, iha ha.2⟩
    exact app _ _ hz3 ih
  exact this n
 have hrl : (repeatZ z n).length = n * size := by
  rw [← hcells, ZH, hzs]
 have st := row_step (P := P) (w' := w.drew.alloc (.cells (Builtin.zeroCells z0.cells n ++ Builtin.zeroCells z0.cells (grownCap w n 0 e - n)) e)) (arr := Builtin.zeroCells z0.cells n ++ Builtin.zeroCells z0.cells (grownCap w n 0 e - n)) (t := e) (fr := (0, 0)) (l := repeatZ z n) (l' := repeatZ z n) (more := (Builtin.zeroCells z0.cells (grownCap w n 0 e - n)).toList) (c := .list (repeatZ z n)) (ext := grownCap w n 0 e - n) (sz := size) hR (hf (by show s.next < s.next + 1; omega)) rfl rfl rfl rfl (by rw [Array.toList_append, hcells]) hrel (Zc _) (by rw [ZH, hzs]) (.inl rfl)
 refine ⟨_, _, _, hrun, ?_, st⟩
 have hv := VRel.opened (β := β.upd s.next ⟨w.heap.size, 0, grownCap w n 0 e - n, size, (repeatZ z n).length⟩) (k := s.next) (off := 0) (l := ⟨w.heap.size, 0, grownCap w n 0 e - n, size, (repeatZ z n).length⟩) (n := n) (c := n) (a := ⟨w.heap.size, 0, none⟩)
  (Emb.upd_same _ _ _) (Nat.le_refl _) (by show 0 + n * size = (repeatZ z n).length; rw [hrl]; omega) (.inr rfl) (by
   show n + (grownCap w n 0 e - n) ≤ 9223372036854775807
   simp only [maxLen] at hcm; omega)
 have hxx : n + (grownCap w n 0 e - n) = grownCap w n 0 e := by omega
 simp only [hxx] at hv
 rw [hzl]
 exact hv
end
end Go.Dx
