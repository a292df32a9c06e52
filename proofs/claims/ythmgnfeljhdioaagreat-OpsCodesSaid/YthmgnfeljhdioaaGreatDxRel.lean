/- A part. -/
import Derived.Test.YthmgnfeljhdioaaGreatDxTrans
import Derived.OrdersIn
import Derived.RangeFuncIn
import Derived.RangeFuncLeaves
import Derived.Laws.AppendOwn
set_option linter.unusedVariables false
set_option linter.unusedSimpArgs false
set_option linter.unusedSectionVars false
namespace Go.Dx
open Go
structure Loc where
 blk : Nat
 off : Nat
 ext : Nat
 sz : Nat
 size : Nat
abbrev Emb := Nat → Option Loc
def Emb.le (β β' : Emb) : Prop := ∀ k l, β k = some l → β' k = some l
theorem Emb.le.refl (β : Emb) : β.le β := fun _ _ h => h
theorem Emb.le.trans {a b c : Emb} (h : a.le b) (h' : b.le c) : a.le c := fun k l x => h' k l (h k l x)
def opq : Value → Bool
 | .slice _ _ _ | .map _ | .pointer _ => true
 | _ => false
mutual
inductive VRel (β : Emb) : Value → Value → Prop where
 | bool (b : Bool) : VRel β (.bool b) (.bool b)
 | int (k : IntKind) (n : Int) : VRel β (.int k n) (.int k n)
 | string (s : ByteArray) : VRel β (.string s) (.string s)
 | nilPtr : VRel β (.pointer none) (.pointer none)
 | ptr {k off : Nat} {l : Loc} (h : β k = some l) : VRel β (.pointer (some ⟨k, off, none⟩)) (.pointer (some ⟨l.blk, l.off + off, none⟩))
 | nilSlice {n c : Nat} : VRel β (.slice none n c) (.slice none n c)
 | closed {k off : Nat} {l : Loc} {n c : Nat} {a : Addr} (h : β k = some l) (hn : n ≤ c) (ha : c = 0 ∨ a = ⟨l.blk, l.off + off, none⟩) :
  VRel β (.slice (some ⟨k, off, none⟩) n c) (.slice (some a) n c)
 | opened {k off : Nat} {l : Loc} {n c : Nat} {a : Addr} (h : β k = some l) (hn : n ≤ c) (hs : off + c * l.sz = l.size) (ha : c + l.ext = 0 ∨ a = ⟨l.blk, l.off + off, none⟩) (hx : c + l.ext ≤ 9223372036854775807) :
  VRel β (.slice (some ⟨k, off, some l.sz⟩) n c) (.slice (some a) n (c + l.ext))
 | nilMap : VRel β (.map none) (.map none)
 | map {k : Nat} {l : Loc} (h : β k = some l) : VRel β (.map (some k)) (.map (some l.blk))
 | func {f : FuncId} {a a' b b' : Array Value} (ha : LRel β a.toList a'.toList) (hb : LRel β b.toList b'.toList) : VRel β (.func (.func f) a b) (.func (.func f) a' b')
 | yield {k : Nat} {l : Loc} (h : β k = some l) : VRel β (.func (.yield k) #[] #[]) (.func (.yield l.blk) #[] #[])
 | nilFunc : VRel β .nilFunc .nilFunc
 | pin {k : Nat} {l : Loc} (h : β k = some l) (h0 : l.off = 0) : VRel β (.chan (some k)) (.pointer (some ⟨l.blk, 0, none⟩))
 | any {v' : Value} (h : opq v' = true) : VRel β .nilIface v'
 | agg {a a' : Array Value} (h : LRel β a.toList a'.toList) : VRel β (.agg a) (.agg a')
 | tuple {a a' : Array Value} (h : LRel β a.toList a'.toList) : VRel β (.tuple a) (.tuple a')
inductive LRel (β : Emb) : List Value → List Value → Prop where
 | nil : LRel β [] []
 | cons {v v' : Value} {l l' : List Value} (h : VRel β v v') (t : LRel β l l') : LRel β (v :: l) (v' :: l')
end
theorem VRel.undef {β : Emb} : VRel β zv undef := .tuple .nil
section
variable {β β' : Emb}
mutual
theorem VRel.mono (hb : β.le β') : ∀ {v v' : Value}, VRel β v v' → VRel β' v v'
 | _, _, .bool b => .bool b
 | _, _, .int k n => .int k n
 | _, _, .string s => .string s
 | _, _, .nilPtr => .nilPtr
 | _, _, .ptr h => .ptr (hb _ _ h)
 | _, _, .nilSlice => .nilSlice
 | _, _, .closed h hn ha => .closed (hb _ _ h) hn ha
 | _, _, .opened h hn hs ha hx => .opened (hb _ _ h) hn hs ha hx
 | _, _, .nilMap => .nilMap
 | _, _, .map h => .map (hb _ _ h)
 | _, _, .func ha hb' => .func (LRel.mono hb ha) (LRel.mono hb hb')
 | _, _, .yield h => .yield (hb _ _ h)
 | _, _, .nilFunc => .nilFunc
 | _, _, .pin h h0 => .pin (hb _ _ h) h0
 | _, _, .any h => .any h
 | _, _, .agg h => .agg (LRel.mono hb h)
 | _, _, .tuple h => .tuple (LRel.mono hb h)
theorem LRel.mono (hb : β.le β') : ∀ {l l' : List Value}, LRel β l l' → LRel β' l l'
 | _, _, .nil => .nil
 | _, _, .cons h t => .cons (VRel.mono hb h) (LRel.mono hb t)
end
theorem LRel.length : ∀ {l l' : List Value}, LRel β l l' → l.length = l'.length
 | _, _, .nil => rfl
 | _, _, .cons _ t => by simp [LRel.length t]
theorem LRel.append : ∀ {a a' b b' : List Value}, LRel β a a' → LRel β b b' → LRel β (a ++ b) (a' ++ b')
 | _, _, _, _, .nil, h => h
 | _, _, _, _, .cons h t, h' => .cons h (LRel.append t h')
theorem LRel.take : ∀ (n : Nat) {l l' : List Value}, LRel β l l' → LRel β (l.take n) (l'.take n)
 | 0, _, _, _ => by simpa using LRel.nil
 | _ + 1, _, _, .nil => by simpa using LRel.nil
 | n + 1, _, _, .cons h t => .cons h (LRel.take n t)
theorem LRel.drop : ∀ (n : Nat) {l l' : List Value}, LRel β l l' → LRel β (l.drop n) (l'.drop n)
 | 0, _, _, h => h
 | _ + 1, _, _, .nil => by simpa using LRel.nil
 | n + 1, _, _, .cons _ t => by simpa using LRel.drop n t
theorem LRel.getN : ∀ {l l' : List Value} {i : Nat} {v : Value}, LRel β l l' → getN l i = some v → ∃ v', l'[i]? = some v' ∧ VRel β v v'
 | _, _, _, _, .nil, h => by simp [Dx.getN] at h
 | _, _, 0, _, .cons h t, e => by simp [Dx.getN] at e; subst e; exact ⟨_, rfl, h⟩
 | _, _, i + 1, _, .cons h t, e => by simpa using LRel.getN (i := i) t (by simpa [Dx.getN] using e)
theorem LRel.map {ρ ρ' : Operand → Value} : ∀ {l : List Operand}, (∀ x ∈ l, VRel β (ρ x) (ρ' x)) → LRel β (l.map ρ) (l.map ρ')
 | [], _ => .nil
 | x :: l, h => .cons (h x (by simp)) (LRel.map fun y hy => h y (by simp [hy]))
mutual
theorem VRel.closedV : ∀ {v : Value}, closedV v = true → VRel β v v
 | .bool _, _ => .bool _
 | .int _ _, _ => .int _ _
 | .string _, _ => .string _
 | .nilFunc, _ => .nilFunc
 | .pointer none, _ => .nilPtr
 | .pointer (some _), h => by simp [Dx.closedV] at h
 | .map none, _ => .nilMap
 | .map (some _), h => by simp [Dx.closedV] at h
 | .slice none _ _, _ => .nilSlice
 | .slice (some _) _ _, h => by simp [Dx.closedV] at h
 | .agg ⟨cs⟩, h => .agg (LRel.closedA (l := cs) (by simpa [Dx.closedV] using h))
 | .tuple ⟨cs⟩, h => .tuple (LRel.closedA (l := cs) (by simpa [Dx.closedV] using h))
 | .func (.func _) ⟨a⟩ ⟨b⟩, h => by
  simp only [Dx.closedV, Bool.and_eq_true] at h
  exact .func (LRel.closedA (l := a) h.1) (LRel.closedA (l := b) h.2)
 | .func (.method _) _ _, h => by simp [Dx.closedV] at h
 | .func (.methodOf _ _) _ _, h => by simp [Dx.closedV] at h
 | .func (.via _ _ _ _) _ _, h => by simp [Dx.closedV] at h
 | .func (.yield _) _ _, h => by simp [Dx.closedV] at h
 | .float _ _, h => by simp [Dx.closedV] at h
 | .complex _ _ _, h => by simp [Dx.closedV] at h
 | .chan _, h => by simp [Dx.closedV] at h
 | .iface _ _, h => by simp [Dx.closedV] at h
 | .nilIface, h => by simp [Dx.closedV] at h
theorem LRel.closedA : ∀ {l : List Value}, closedA l = true → LRel β l l
 | [], _ => .nil
 | v :: l, h => by
  simp only [Dx.closedA, Bool.and_eq_true] at h
  exact .cons (VRel.closedV h.1) (LRel.closedA h.2)
end
end
def YF (β : Emb) (n : Nat) (t : PT Value) (tmps : Array Value) : Prop :=
 tmps.size = n ∧ ∀ i, VRel β ((t.get i).getD zv) (tmps.getD i undef)
theorem YF.mono {β β' : Emb} {n : Nat} {t : PT Value} {tmps : Array Value} (hb : β.le β') (h : YF β n t tmps) : YF β' n t tmps :=
 ⟨h.1, fun i => (h.2 i).mono hb⟩
theorem YF.ev {β : Emb} {n : Nat} {t : PT Value} {a : Act} (h : YF β n t a.tmps) {x : Operand} (hx : JA n x = true) : VRel β (ev t x) (a.eval x) := by
 cases x with
 | tmp i => exact h.2 i
 | const v => exact VRel.closedV hx
 | global g => simp [JA] at hx
 | func f => exact .func .nil .nil
theorem YF.put {β : Emb} {n : Nat} {t : PT Value} {tmps : Array Value} (h : YF β n t tmps) {d : Nat} {v v' : Value} (hd : d < n) (hv : VRel β v v') :
 YF β n (t.put d (some v)) (tmps.setIfInBounds d v') := by
 refine ⟨by simpa using h.1, fun i => ?_⟩
 rw [PT.get_put]
 by_cases e : i = d
 · subst e
   simp [h.1, hd, hv]
 · have := h.2 i
   simpa [e, Array.getElem?_setIfInBounds, Ne.symm e] using this
def owned : DObj → Bool
 | .cells _ ro => !ro
 | _ => true
def Zt (β : Emb) : List z6 → List MapEntry → Prop
 | [], [] => True
 | e :: es, x :: xs => (e.key = x.key ∧ closedV e.key = true) ∧ e.born = x.born ∧ VRel β e.val x.val ∧ Zt β es xs
 | _, _ => False
theorem Zt.mono {β β' : Emb} (hb : β.le β') : ∀ {es : List z6} {xs : List MapEntry}, Zt β es xs → Zt β' es xs
 | [], [], _ => trivial
 | _ :: _, _ :: _, ⟨a, b, c, d⟩ => ⟨a, b, c.mono hb, Zt.mono hb d⟩
 | [], _ :: _, h => h.elim
 | _ :: _, [], h => h.elim
def Lh : LoopSt → LoopState
 | .ready => .ready
 | .busy => .busy
 | .done => .done
 | .exhausted => .exhausted
def Jj : DExit → Option Code
 | .normal => none
 | .ret => some .ret
 | .exit id => some (.exit id)
def Xy (w : World) (b : Nat) : Bool := match w.heap[b]? with | some (.cells _ _ (lo, hi)) => Nat.ble lo hi | _ => true
section
variable (P : Program)
def JW (β : Emb) (l : Loc) : DObj → World → Prop
 | .cells c ro, w => l.blk < w.heap.size ∧ c.size = l.size ∧
  (∀ i v, c.get i = some v → ∃ v', w.cell? ⟨l.blk, l.off + i, none⟩ = some v' ∧ VRel β v v') ∧
  (ro = false → ∀ i, i < l.size + l.ext * l.sz → (∃ u, w.cell? ⟨l.blk, l.off + i, none⟩ = some u) ∧ w.frozen? ⟨l.blk, l.off + i, none⟩ = false) ∧
  (ro = false → c.plain = true → (∀ i, w.frozen? ⟨l.blk, i, none⟩ = false) ∧ Xy w l.blk = true)
 | .map es clock, w => ∃ xs, w.heap[l.blk]? = some (.map xs clock) ∧ Zt β es xs.toList
 | .iter m since seen last, w => l.off = 0 ∧ ∃ m' seen', w.heap[l.blk]? = some (.mapIter m' since seen' last) ∧ seen'.toList.reverse = seen ∧
  (match m with | none => m' = none | some k => ∃ lm, β k = some lm ∧ m' = some lm.blk)
 | .loop st pend t ps a b, w => ∃ r : Loop, w.heap[l.blk]? = some (.loop r) ∧ r.state = Lh st ∧ (st = .done → r.pending = Jj pend) ∧ (st = .ready → pend = .normal ∧ r.pending = none) ∧
  YF β r.tmps.size t r.tmps ∧ r.params.toList = ps ∧ (∀ p ∈ ps, p < r.tmps.size) ∧ zR P r.tmps.size r.assign = a ∧ zR P r.tmps.size r.body = b
 | .dfr, w => w.heap[l.blk]? = some (.deferred (some []))
structure Rel (β : Emb) (g : Nat → Option DObj) (w : World) : Prop where
 obj : ∀ k o, g k = some o → ∃ l, β k = some l ∧ JW P β l o w
 inj : ∀ k k' o o' l l', g k = some o → g k' = some o' → β k = some l → β k' = some l' → k ≠ k' → owned o = true → l.blk ≠ l'.blk
structure Step (β : Emb) (g : Nat → Option DObj) (n : Nat) (w : World) (β' : Emb) (g' : Nat → Option DObj) (n' : Nat) (w' : World) : Prop where
 le : n ≤ n'
 emb : β.le β'
 dom : ∀ k, β k = none → β' k ≠ none → n ≤ k ∧ k < n'
 rel : Rel P β' g' w'
 size : w.heap.size ≤ w'.heap.size
 os : w'.os = w.os
 tape : w'.tape = w.tape
 output : w'.output = w.output
 frame : ∀ r, r < w.heap.size → (∀ k o l, g k = some o → owned o = true → β k = some l → l.blk ≠ r) → w'.heap[r]? = w.heap[r]?
 fresh : ∀ k o l, g' k = some o → β' k = some l → w.heap.size ≤ l.blk ∨ (∃ k0 o0 l0, g k0 = some o0 ∧ β k0 = some l0 ∧ l0.blk = l.blk ∧ (owned o = true → owned o0 = true))
end
section
variable {P : Program} {β β' β'' : Emb} {g g' g'' : Nat → Option DObj} {n n' n'' : Nat} {w w' w'' : World}
theorem JW.lt {l : Loc} {o : DObj} (h : JW P β l o w) : l.blk < w.heap.size := by
 cases o with
 | cells c ro => exact h.1
 | map es clock => obtain ⟨xs, h, _⟩ := h; exact (Array.getElem?_eq_some_iff.1 h).1
 | iter m since seen last => obtain ⟨_, m', s', h, _⟩ := h; exact (Array.getElem?_eq_some_iff.1 h).1
 | loop st pend t ps a b => obtain ⟨r, h, _⟩ := h; exact (Array.getElem?_eq_some_iff.1 h).1
 | dfr => exact (Array.getElem?_eq_some_iff.1 h).1
theorem JW.keep {l : Loc} {o : DObj} (h : JW P β l o w) (hb : β.le β') (hw : w'.heap[l.blk]? = w.heap[l.blk]?) : JW P β' l o w' := by
 cases o with
 | cells c ro =>
  obtain ⟨h1, h2, h3, h4, h5⟩ := h
  have h1' : l.blk < w'.heap.size := by
   have := Array.getElem?_eq_getElem h1
   rw [this] at hw
   exact (Array.getElem?_eq_some_iff.1 hw).1
  refine ⟨h1', h2, fun i v hv => ?_, fun hr i hi => ?_, fun hr hp => ⟨fun i => (World.frozen?_of_block (a := ⟨l.blk, i, none⟩) hw).trans ((h5 hr hp).1 i), by have := (h5 hr hp).2; unfold Xy at this ⊢; rw [hw]; exact this⟩⟩
  · obtain ⟨v', hc, hv'⟩ := h3 i v hv
    exact ⟨v', (World.cell?_of_block (a := ⟨l.blk, l.off + i, none⟩) hw).trans hc, hv'.mono hb⟩
  · obtain ⟨⟨u, hu⟩, hf⟩ := h4 hr i hi
    exact ⟨⟨u, (World.cell?_of_block (a := ⟨l.blk, l.off + i, none⟩) hw).trans hu⟩, (World.frozen?_of_block (a := ⟨l.blk, l.off + i, none⟩) hw).trans hf⟩
 | map es clock => obtain ⟨xs, h, he⟩ := h; exact ⟨xs, hw.trans h, he.mono hb⟩
 | iter m since seen last =>
  obtain ⟨h0, m', s', h, hs, hm⟩ := h
  refine ⟨h0, m', s', hw.trans h, hs, ?_⟩
  cases m with
  | none => exact hm
  | some k => obtain ⟨lm, h1, h2⟩ := hm; exact ⟨lm, hb _ _ h1, h2⟩
 | loop st pend t ps a b =>
  obtain ⟨r, h, h1, h2, h2', h3, h4⟩ := h
  exact ⟨r, hw.trans h, h1, h2, h2', h3.mono hb, h4⟩
 | dfr => exact hw.trans h
theorem Step.refl (h : Rel P β g w) : Step P β g n w β g n w where
 le := Nat.le_refl _
 emb := Emb.le.refl _
 dom := fun k h h' => absurd h h'
 rel := h
 size := Nat.le_refl _
 os := rfl
 tape := rfl
 output := rfl
 frame := fun _ _ _ => rfl
 fresh := fun k o l ho hl => .inr ⟨k, o, l, ho, hl, rfl, id⟩
theorem Step.trans (h : Step P β g n w β' g' n' w') (h' : Step P β' g' n' w' β'' g'' n'' w'') : Step P β g n w β'' g'' n'' w'' where
 le := Nat.le_trans h.le h'.le
 emb := h.emb.trans h'.emb
 dom := fun k hk hk' => by
  by_cases e : β' k = none
  · have := h'.dom k e hk'; have := h.le; omega
  · have := h.dom k hk e; have := h'.le; omega
 rel := h'.rel
 size := Nat.le_trans h.size h'.size
 os := h'.os.trans h.os
 tape := h'.tape.trans h.tape
 output := h'.output.trans h.output
 frame := fun r hr hk => by
  refine (h'.frame r (Nat.lt_of_lt_of_le hr h.size) fun k o l ho hown hl e => ?_).trans (h.frame r hr hk)
  rcases h.fresh k o l ho hl with hlt | ⟨k0, o0, l0, h0, hl0, hb, hw⟩
  · omega
  · exact hk k0 o0 l0 h0 (hw hown) hl0 (hb.trans e)
 fresh := fun k o l ho hl => by
  rcases h'.fresh k o l ho hl with hlt | ⟨k1, o1, l1, h1, hl1, hb1, hw1⟩
  · exact .inl (Nat.le_trans h.size hlt)
  · rcases h.fresh k1 o1 l1 h1 hl1 with hlt | ⟨k0, o0, l0, h0, hl0, hb0, hw0⟩
    · exact .inl (by omega)
    · exact .inr ⟨k0, o0, l0, h0, hl0, hb0.trans hb1, fun hh => hw0 (hw1 hh)⟩
end
end Go.Dx
