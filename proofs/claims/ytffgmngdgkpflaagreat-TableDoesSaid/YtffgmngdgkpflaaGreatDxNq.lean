/- A part. -/
import Derived.Test.YtffgmngdgkpflaaGreatDxRel
import Derived.Laws.Strings
import Derived.Laws.Concat
set_option linter.unusedVariables false
set_option linter.unusedSimpArgs false
set_option linter.unusedSectionVars false
namespace Go.Dx
open Go
theorem D4 (k : IntKind) : (2 ^ k.bits : Nat) = zN k := by cases k <;> rfl
theorem Kb (k : IntKind) : (2 ^ k.bits : Int) = (zN k : Int) := by cases k <;> rfl
theorem RK (k : IntKind) : (2 ^ (k.bits - 1) : Int) = (Gm k : Int) := by cases k <;> rfl
theorem K0 (k : IntKind) : 0 < zN k := by cases k <;> decide
theorem Cc (k : IntKind) : k.signed = W5 k := by cases k <;> rfl
theorem R0 (k : IntKind) : k.bits = bitsOf k := by cases k <;> rfl
theorem Gd (k : IntKind) (n : Int) : (low k n : Int) = n % (zN k : Int) := by
 have hp := K0 k
 cases n with
 | ofNat n => simp [low]
 | negSucc n =>
  simp only [low]
  have h1 : n % zN k < zN k := Nat.mod_lt _ hp
  rw [Int.emod_def, Int.negSucc_ediv _ (by omega : (0 : Int) < (zN k : Int))]
  have h2 : (n : Int) = zN k * (n / zN k : Nat) + (n % zN k : Nat) := by
   have := Nat.div_add_mod n (zN k)
   exact_mod_cast this.symm
  have h3 : ((zN k - 1 - n % zN k : Nat) : Int) = (zN k : Int) - 1 - (n % zN k : Nat) := by omega
  rw [h3, Int.negSucc_eq]
  have h4 : (n : Int).ediv (zN k : Int) = ((n / zN k : Nat) : Int) := by
   show (n : Int) / (zN k : Int) = _
   simp
  rw [h4, Int.mul_neg, Int.mul_add, Int.mul_one]
  generalize (zN k : Int) * ((n / zN k : Nat) : Int) = q at *
  omega
theorem LW (k : IntKind) (n : Int) : low k n < zN k := by
 have h := Gd k n
 have hp := K0 k
 have := Int.emod_lt_of_pos n (show (0 : Int) < zN k by omega)
 omega
theorem Zh (k : IntKind) (n : Int) : zf k n = k.wrap n := by
 unfold zf IntKind.wrap
 simp only [Kb, RK, Cc, ← Gd]
 have hl := LW k n
 cases W5 k with
 | false => simp
 | true =>
  simp only [if_true, Bool.true_and]
  by_cases h : Gm k ≤ low k n
  · have hb : Nat.ble (Gm k) (low k n) = true := Nat.ble_eq_true_of_le h
    rw [if_pos hb, if_pos (by simp; omega)]
    rw [Int.negSucc_eq]
    omega
  · have hb : ¬ Nat.ble (Gm k) (low k n) = true := by rw [Nat.ble_eq]; exact h
    rw [if_neg hb, if_neg (by simp; omega)]
    rfl
theorem KI (k : IntKind) (n : Int) : (n % (2 ^ k.bits : Int)).toNat = low k n := by
 rw [Kb, ← Gd]; rfl
theorem Tv (k : IntKind) (n : Int) : (n % (zN k : Int)).toNat = low k n := by
 rw [← Gd]; rfl
section
variable {P : Program} {w : World}
theorem CA {op : BinOp} {k : IntKind} {a b : Int} {v : Value} (h : zm op k a b = some v) :
 (match op with
 | .add | .sub | .mul => Op.intArith op k a b
 | .quo | .rem => Op.intDiv op k a b
 | .and | .or | .xor | .andNot => Op.intBits op k a b
 | _ => Op.intCmp op a b : Sem Value).run P w = .ok v w := by
 cases op <;> simp only [zm, z2, reduceCtorEq] at h
 case add => subst h; simp [Op.intArith, Zh]
 case sub => subst h; simp [Op.intArith, Zh]
 case mul => subst h; simp [Op.intArith, Zh]
 case quo =>
  by_cases hb : b = 0
  · simp [hb] at h
  · simp only [hb, if_false, z2] at h; subst h; simp [Op.intDiv, hb, Zh]
 case rem =>
  by_cases hb : b = 0
  · simp [hb] at h
  · simp only [hb, if_false, z2] at h; subst h; simp [Op.intDiv, hb]
 case and => subst h; simp [Op.intBits, Zh, KI]
 case or => subst h; simp [Op.intBits, Zh, KI]
 case xor => subst h; simp [Op.intBits, Zh, KI]
 case andNot => subst h; simp [Op.intBits, Zh, D4, Tv]
 case eql => subst h; simp [Op.intCmp]; rfl
 case neq => subst h; simp [Op.intCmp, bne]; rfl
 case lss => subst h; simp [Op.intCmp]
 case leq => subst h; simp [Op.intCmp]
 case gtr => subst h; simp [Op.intCmp]
 case geq => subst h; simp [Op.intCmp]
theorem Qv {op : BinOp} {k yk : IntKind} {a b : Int} {v : Value} (h : Zx op k a b = some v) : (Op.shift op k a yk b).run P w = .ok v w := by
 unfold Zx at h
 unfold Op.shift
 by_cases hb : b < 0
 · simp [hb] at h
 · simp only [hb, if_false] at h ⊢
   have hn : (if Nat.ble (bitsOf k) b.toNat = true then bitsOf k else b.toNat) = min b.toNat k.bits := by
    rw [R0]
    by_cases e : bitsOf k ≤ b.toNat
    · rw [if_pos (Nat.ble_eq_true_of_le e)]; omega
    · rw [if_neg (by rw [Nat.ble_eq]; exact e)]; omega
   rw [hn] at h
   have hp : (Int.ofNat (2 ^ min b.toNat k.bits)) = (2 : Int) ^ min b.toNat k.bits := by
    rw [Int.ofNat_eq_natCast]; exact Int.natCast_pow 2 _
   cases op <;> simp only [z2, reduceCtorEq] at h
   case shl => subst h; simp [Zh, hp]
   case shr => subst h; simp [hp]
theorem Xr : ∀ (x y : List UInt8), Xv x y = (x == y)
 | [], [] => rfl
 | [], _ :: _ => rfl
 | _ :: _, [] => rfl
 | a :: x, b :: y => by
  have := Xr x y
  simp only [Xv, this]
  by_cases e : a = b
  · subst e; simp
  · have h1 : ¬ a.toNat = b.toNat := fun h => e (UInt8.toNat_inj.1 h)
    have h2 : Nat.beq a.toNat b.toNat = false := by
     cases h : Nat.beq a.toNat b.toNat with
     | false => rfl
     | true => exact absurd (Nat.eq_of_beq_eq_true h) h1
    have h3 : (a == b) = false := by simpa using e
    rw [h2]
    simp [h3]
theorem bytesLess_eq : ∀ (x y : List UInt8), bytesLess x y = Op.bytesLess x y
 | [], [] => rfl
 | _ :: _, [] => rfl
 | [], _ :: _ => rfl
 | a :: x, b :: y => by
  have := bytesLess_eq x y
  simp only [bytesLess, Op.bytesLess, this]
  have h1 : Nat.blt a.toNat b.toNat = decide (a < b) := by
   rw [Bool.eq_iff_iff]; simp [Nat.blt_eq, UInt8.lt_iff_toNat_lt]
  have h2 : Nat.beq a.toNat b.toNat = (a == b) := by
   rw [Bool.eq_iff_iff]; simp [Nat.beq_eq, UInt8.toNat_inj]
  rw [h1, h2]
theorem toList_data (b : ByteArray) : b.toList = b.data.toList := ByteArray.toList_eq b
theorem Nw {op : BinOp} {a b : ByteArray} {v : Value} (h : Nx op a b = some v) : (Op.stringOp op a b).run P w = .ok v w := by
 unfold Nx at h
 unfold Op.stringOp
 simp only [toList_data, Xr, bytesLess_eq] at h ⊢
 cases op <;> simp only [z2, reduceCtorEq] at h
 case add =>
  have hs : a.data.toList.length = a.size ∧ b.data.toList.length = b.size := ⟨rfl, rfl⟩
  rw [hs.1, hs.2] at h
  by_cases hb : a.size + b.size ≤ 1099511627776
  · rw [if_pos (Nat.ble_eq_true_of_le hb)] at h
    have hm : ¬ (((a.size + b.size : Nat) : Int) > IntKind.i64.max) := by simp [IntKind.max, IntKind.signed, IntKind.bits]; omega
    rw [if_neg hm]
    cases h
    simp only [Sem.run_pure, Result.ok.injEq, and_true, Value.string.injEq]
    apply ByteArray.ext
    simp [ByteArray.data_append]
  · rw [if_neg (by intro e; exact hb (Nat.le_of_ble_eq_true e))] at h; cases h
 all_goals subst h; rfl
theorem NC {op : BinOp} {x y : Value} {v : Value} (t : TypeId) (h : zl op x y = some v) : (binOp op t x y).run P w = .ok v w := by
 unfold zl at h
 split at h
 · rename_i k a k' b
   by_cases hk : k = k'
   · subst hk
     cases op
     case shl => exact Qv (op := .shl) (yk := k) h
     case shr => exact Qv (op := .shr) (yk := k) h
     all_goals (simp only [if_true] at h; have := CA (P := P) (w := w) h; simpa [binOp] using this)
   · cases op
     case shl => exact Qv (op := .shl) (yk := k') h
     case shr => exact Qv (op := .shr) (yk := k') h
     all_goals (simp [hk] at h)
 · have := Nw (P := P) (w := w) h
   cases op <;> simpa [binOp] using this
 · cases h
end
end Go.Dx
namespace Go.Dx
open Go
def Emb.upd (β : Emb) (k : Nat) (l : Loc) : Emb := fun j => if j = k then some l else β j
theorem Emb.le_upd {β : Emb} {k : Nat} {l : Loc} (h : β k = none) : β.le (β.upd k l) := by
 intro j x hj
 unfold Emb.upd
 by_cases e : j = k
 · subst e; rw [h] at hj; cases hj
 · simp [e, hj]
theorem Emb.upd_same (β : Emb) (k : Nat) (l : Loc) : β.upd k l k = some l := by simp [Emb.upd]
section
variable {P : Program} {β β' : Emb} {s s' : DS} {w w' : World}
theorem Rel.sub {g g' : Nat → Option DObj} (h : Rel P β g w) (hs : ∀ k o, g' k = some o → g k = some o) : Rel P β g' w :=
 ⟨fun k o hk => h.obj k o (hs k o hk), fun k k' o o' l l' h1 h2 => h.inj k k' o o' l l' (hs _ _ h1) (hs _ _ h2)⟩
theorem Rel.same {g : Nat → Option DObj} (h : Rel P β g w) (hw : w'.heap = w.heap) : Rel P β g w' :=
 ⟨fun k o hk => let ⟨l, a, b⟩ := h.obj k o hk; ⟨l, a, b.keep (Emb.le.refl _) (by rw [hw])⟩, h.inj⟩
theorem Step.same {g : Nat → Option DObj} {n : Nat} (h : Rel P β g w) (hh : w'.heap = w.heap) (ho : w'.os = w.os) (ht : w'.tape = w.tape) (hu : w'.output = w.output) :
 Step P β g n w β g n w' where
 le := Nat.le_refl _
 emb := Emb.le.refl _
 dom := fun k h h' => absurd h h'
 rel := h.same hh
 size := by rw [hh]; exact Nat.le_refl _
 os := ho
 tape := ht
 output := hu
 frame := fun _ _ _ => by rw [hh]
 fresh := fun k o l ho hl => .inr ⟨k, o, l, ho, hl, rfl, id⟩
theorem Zs (a b : Nat) : Nat.blt a b = true ↔ a < b := by rw [Nat.blt_eq]
theorem DS.get_new (s : DS) (o : DObj) (k : Nat) : (s.new o).get k = if Nat.blt k (s.next + 1) && s.vis k then (if k = s.next then some o else s.heap.get k) else none := by
 simp [DS.get, DS.new, PT.get_put]
theorem DS.get_new_old {s : DS} {o : DObj} {k : Nat} (h : k ≠ s.next) : (s.new o).get k = s.get k := by
 rw [DS.get_new]; simp only [h, if_false]
 have : Nat.blt k (s.next + 1) = Nat.blt k s.next := by
  rw [Bool.eq_iff_iff, Zs, Zs]; omega
 rw [this]; rfl
theorem DS.get_lt {s : DS} {k : Nat} {o : DObj} (h : s.get k = some o) : k < s.next := by
 unfold DS.get at h
 split at h
 · rename_i hc
   simp only [Bool.and_eq_true] at hc
   exact (Zs _ _).1 hc.1
 · cases h
theorem Step.new (h : Rel P β s.get w) (hf : β s.next = none) {o : DObj} {O : Obj} {l : Loc} (hl : l.blk = w.heap.size)
 (hh : w'.heap = w.heap.push O) (hos : w'.os = w.os) (ht : w'.tape = w.tape) (hu : w'.output = w.output)
 (hO : KQ P (β.upd s.next l) l o w') : Step P β s.get s.next w (β.upd s.next l) (s.new o).get (s.new o).next w' := by
 have hle : β.le (β.upd s.next l) := Emb.le_upd hf
 have hold : ∀ r, r < w.heap.size → w'.heap[r]? = w.heap[r]? := by
  intro r hr
  rw [hh, Array.getElem?_push]
  simp [Nat.ne_of_lt hr]
 have hobj : ∀ k o', (s.new o).get k = some o' → k = s.next ∧ o' = o ∨ k ≠ s.next ∧ s.get k = some o' := by
  intro k o' hk
  by_cases e : k = s.next
  · subst e
    rw [DS.get_new] at hk
    split at hk
    · simp at hk; exact .inl ⟨rfl, hk.symm⟩
    · cases hk
  · exact .inr ⟨e, by rwa [DS.get_new_old e] at hk⟩
 have hβ : ∀ k, k ≠ s.next → β.upd s.next l k = β k := fun k e => by simp [Emb.upd, e]
 refine { le := Nat.le_succ _, emb := hle, dom := ?_, rel := ⟨?_, ?_⟩, size := by rw [hh]; simp, os := hos, tape := ht, output := hu, frame := fun r hr _ => hold r hr, fresh := ?_ }
 · intro k hk hk'
   by_cases e : k = s.next
   · subst e; exact ⟨Nat.le_refl _, Nat.lt_succ_self _⟩
   · rw [hβ k e] at hk'; exact absurd hk hk'
 · intro k o' hk
   rcases hobj k o' hk with ⟨rfl, rfl⟩ | ⟨e, hk⟩
   · exact ⟨l, Emb.upd_same _ _ _, hO⟩
   · obtain ⟨l', h1, h2⟩ := h.obj k o' hk
     exact ⟨l', hle _ _ h1, h2.keep hle (hold _ h2.lt)⟩
 · intro k k' o1 o2 l1 l2 h1 h2 e1 e2 hne how
   rcases hobj k o1 h1 with ⟨rfl, rfl⟩ | ⟨e, h1⟩
   · rcases hobj k' o2 h2 with ⟨rfl, rfl⟩ | ⟨e', h2⟩
     · exact absurd rfl hne
     · rw [Emb.upd_same] at e1
       cases e1
       rw [hβ k' e'] at e2
       obtain ⟨l', h3, h4⟩ := h.obj k' o2 h2
       rw [e2] at h3
       cases h3
       have := h4.lt
       omega
   · rw [hβ k e] at e1
     rcases hobj k' o2 h2 with ⟨rfl, _⟩ | ⟨e', h2⟩
     · rw [Emb.upd_same] at e2
       cases e2
       obtain ⟨l', h3, h4⟩ := h.obj k o1 h1
       rw [e1] at h3
       cases h3
       have := h4.lt
       omega
     · rw [hβ k' e'] at e2
       exact h.inj k k' o1 o2 l1 l2 h1 h2 e1 e2 hne how
 · intro k o' l' hk hl'
   rcases hobj k o' hk with ⟨rfl, rfl⟩ | ⟨e, hk⟩
   · rw [Emb.upd_same] at hl'; cases hl'; left; omega
   · rw [hβ k e] at hl'
     exact .inr ⟨k, o', l', hk, hl', rfl, id⟩
theorem DS.get_set {k : Nat} {o : DObj} (h : s.set k o = some s') (j : Nat) : s'.get j = if Nat.blt j s.next && s.vis j then (if j = k then some o else s.heap.get j) else none := by
 unfold DS.set at h
 split at h
 · cases h; simp [DS.get, PT.get_put]
 · cases h
theorem DS.set_next {k : Nat} {o : DObj} (h : s.set k o = some s') : s'.next = s.next := by
 unfold DS.set at h
 split at h <;> cases h
 rfl
theorem Step.write (h : Rel P β s.get w) {k : Nat} {o o' : DObj} (hs : s.set k o' = some s') (hk : s.get k = some o) (ho : owned o = true) (ho' : owned o' = true)
 {l : Loc} (hl : β k = some l) (hsz : w'.heap.size = w.heap.size) (hw : ∀ r, r ≠ l.blk → w'.heap[r]? = w.heap[r]?)
 (hos : w'.os = w.os) (ht : w'.tape = w.tape) (hu : w'.output = w.output) (hO : KQ P β l o' w') :
 Step P β s.get s.next w β s'.get s'.next w' := by
 have hobj : ∀ j x, s'.get j = some x → j = k ∧ x = o' ∨ j ≠ k ∧ s.get j = some x := by
  intro j x hj
  rw [DS.get_set hs] at hj
  by_cases e : j = k
  · subst e
    split at hj
    · simp at hj; exact .inl ⟨rfl, hj.symm⟩
    · cases hj
  · refine .inr ⟨e, ?_⟩
    simp only [e, if_false] at hj
    exact hj
 refine { le := by rw [DS.set_next hs]; exact Nat.le_refl _, emb := Emb.le.refl _, dom := fun k h h' => absurd h h', rel := ⟨?_, ?_⟩, size := by omega, os := hos, tape := ht, output := hu, frame := ?_, fresh := ?_ }
 · intro j x hj
   rcases hobj j x hj with ⟨rfl, rfl⟩ | ⟨e, hj⟩
   · exact ⟨l, hl, hO⟩
   · obtain ⟨l', h1, h2⟩ := h.obj j x hj
     exact ⟨l', h1, h2.keep (Emb.le.refl _) (hw _ fun e' => h.inj k j o x l l' hk hj hl h1 (Ne.symm e) ho e'.symm)⟩
 · intro j j' x x' l1 l2 h1 h2 e1 e2 hne how
   rcases hobj j x h1 with ⟨rfl, rfl⟩ | ⟨e, h1⟩
   · rcases hobj j' x' h2 with ⟨rfl, rfl⟩ | ⟨e', h2⟩
     · exact absurd rfl hne
     · exact h.inj _ _ o x' l1 l2 hk h2 e1 e2 hne ho
   · rcases hobj j' x' h2 with ⟨rfl, rfl⟩ | ⟨e', h2⟩
     · exact h.inj _ _ x o l1 l2 h1 hk e1 e2 hne how
     · exact h.inj _ _ x x' l1 l2 h1 h2 e1 e2 hne how
 · intro r hr hno
   exact hw r fun e => hno k o l hk ho hl e.symm
 · intro j x l' hj hl'
   rcases hobj j x hj with ⟨rfl, rfl⟩ | ⟨e, hj⟩
   · exact .inr ⟨j, o, l', hk, hl', rfl, fun _ => ho⟩
   · exact .inr ⟨j, x, l', hj, hl', rfl, id⟩
theorem DS.get_kill {k : Nat} (h : s.kill k = some s') (j : Nat) : s'.get j = if j = k then none else s.get j := by
 unfold DS.kill at h
 split at h
 · cases h
   simp only [DS.get, PT.get_put]
   by_cases e : j = k <;> simp [e]
 · cases h
theorem DS.kill_next {k : Nat} (h : s.kill k = some s') : s'.next = s.next := by
 unfold DS.kill at h
 split at h <;> cases h
 rfl
theorem Step.kill (h : Rel P β s.get w) {k : Nat} (hs : s.kill k = some s') : Step P β s.get s.next w β s'.get s'.next w := by
 have hsub : ∀ j x, s'.get j = some x → s.get j = some x := by
  intro j x hj
  rw [DS.get_kill hs] at hj
  split at hj
  · cases hj
  · exact hj
 exact { le := by rw [DS.kill_next hs]; exact Nat.le_refl _, emb := Emb.le.refl _, dom := fun k h h' => absurd h h', rel := h.sub hsub, size := Nat.le_refl _, os := rfl, tape := rfl, output := rfl, frame := fun _ _ _ => rfl, fresh := fun j x l hj hl => .inr ⟨j, x, l, hsub j x hj, hl, rfl, id⟩ }
end
end Go.Dx
