/- A part. -/
import Derived.Test.YthmgnfeljhdioaaGreatDxTop
import Derived.WalkKit
import Derived.ProofKit
import Derived.OpenShut
import Derived.JoinedCond
import Derived.Deep.DeepHandedRow
import Derived.LaidLaws
import Derived.Carry
set_option linter.unusedVariables false
set_option linter.unusedSimpArgs false
set_option linter.unusedSectionVars false
namespace Go.Dx
open Go Go.ChangeShapes Go.WideShapes Go.ChangeAt Go.RowKit
theorem Kept.below {W w' : World} (h : Kept W w') : Below W.heap.size W w' := ⟨h.os, h.tape, h.output, h.size, fun k hk => h.heap k hk⟩
section
variable {H : Type} {enc : TypeId × Value → H} {P : Program}
theorem QH (hl : laidOutB P = true) {W W' : World} (hb : Below W.heap.size W W') : ∀ {ts : List TypeId} {vs : List Value} {ds : List (DataW H)} {ps : List MemPlace},
 (∀ t ∈ ts, P.readableRec t = true ∧ t < P.types.size) → (∀ p ∈ ps, p.block < W.heap.size) → DataW.TrodAll enc P W 0 (fun _ => true) true ts vs ds ps →
 DataW.TrodAll enc P W' 0 (fun b => decide (b < W.heap.size)) true ts vs ds ps
 | [], [], [], _, _, _, h => h
 | t :: ts, v :: vs, d :: ds, ps, hts, hps, h => by
  obtain ⟨p, q, h1, h2, h3⟩ := h
  subst h3
  exact ⟨p, q, Below.trod hl (hts t (List.mem_cons_self ..)).1 (hts t (List.mem_cons_self ..)).2 h1 hb (fun x hx => hps x (List.mem_append_left _ hx)),
   QH hl hb (fun t ht => hts t (List.mem_cons_of_mem _ ht)) (fun x hx => hps x (List.mem_append_right _ hx)) h2, rfl⟩
 | [], [], _ :: _, _, _, _, h => h.elim
 | [], _ :: _, _, _, _, _, h => by cases h
 | _ :: _, [], _, _, _, _, h => by cases h
 | _ :: _, _ :: _, [], _, _, _, h => by cases h
theorem TU {f : Func} {s : ChangeSpec} {handsOn : Bool} {W W' : World} {args : Array Value} {v : Value} {ds gs : List (DataW H)} {before : List MemPlace}
 (hl : laidOutB P = true) (hts : ∀ t ∈ f.params.toList, P.readableRec t = true ∧ t < P.types.size)
 (hW : DataW.Whole enc P f.params.toList s.vars false W args.toList ds gs before) (hv : s.vars = [])
 (hres : ∀ (b : Nat) (sp : Nat → Bool) (hd : Bool), DataW.TrodAll enc P W' b sp hd f.resultTypes.toList (v.resultList f.resultTypes.size) (s.fn H (ds ++ gs)).results [])
 (hargs : (s.fn H (ds ++ gs)).args = ds) (hvars : (s.fn H (ds ++ gs)).vars = []) (hk : Kept W W') :
 s.post enc P f false true handsOn false W args v W' := by
 obtain ⟨p, q, hA, hV, e, hf, hn⟩ := hW
 refine ⟨ds, gs, before, [], p, [], ⟨p, q, hA, hV, e, hf, hn⟩, hres _ _ _, ?_, ?_, hk.keptBut _, fun h => by cases h⟩
 · rw [hargs]
   exact QH hl hk.below hts (DataW.TrodAll.lt hA) hA
 · rw [hvars, hv]; rfl
end
inductive Kd where
 | int (k : IntKind) | bool | str | opq
 deriving DecidableEq, Repr
def Kd.ok : Kd → Value → Prop
 | .int k, v => ∃ n, v = .int k n ∧ (Lit.int k n).wf = true
 | .bool, v => ∃ b, v = .bool b
 | .str, v => ∃ s, v = .string s ∧ s.size ≤ maxLen
 | .opq, v => Dx.opq v = true
def z7 : List Kd → List Value → Prop
 | [], [] => True
 | k :: ks, c :: cs => k.ok c ∧ z7 ks cs
 | _, _ => False
theorem z7.nil {cs : List Value} (h : z7 [] cs) : cs = [] := by
 cases cs with
 | nil => rfl
 | cons _ _ => exact h.elim
theorem z7.cons {k : Kd} {ks : List Kd} {cs : List Value} (h : z7 (k :: ks) cs) : ∃ c r, cs = c :: r ∧ k.ok c ∧ z7 ks r := by
 cases cs with
 | nil => exact h.elim
 | cons c r => exact ⟨c, r, rfl, h.1, h.2⟩
theorem z7.append : ∀ {a b : List Kd} {x y : List Value}, z7 a x → z7 b y → z7 (a ++ b) (x ++ y)
 | [], _, x, _, h, h' => by rw [z7.nil h]; exact h'
 | k :: a, _, x, _, h, h' => by
  obtain ⟨c, r, rfl, h1, h2⟩ := z7.cons h
  exact ⟨h1, z7.append h2 h'⟩
theorem z7.length : ∀ {a : List Kd} {x : List Value}, z7 a x → x.length = a.length
 | [], x, h => by rw [z7.nil h]; rfl
 | k :: a, x, h => by
  obtain ⟨c, r, rfl, h1, h2⟩ := z7.cons h
  simp [z7.length h2]
def P0 (ks : List Kd) : Nat → List Kd
 | 0 => []
 | n + 1 => ks ++ P0 ks n
section
variable (P : Program)
def J5 (f : TypeId → Option (List Kd)) : List Field → Nat → Option (List Kd)
 | [], _ => some []
 | x :: xs, pos =>
  match f x.type with
  | some a => if Nat.beq x.offset pos && Nat.beq a.length (P.cellsOf x.type) then (match J5 f xs (pos + a.length) with | some b => some (a ++ b) | none => none) else none
  | none => none
def WL : Nat → TypeId → Option (List Kd)
 | 0, _ => none
 | n + 1, t =>
  match P.underlying t with
  | some .bool => some [.bool]
  | some (.int k) => some [.int k]
  | some .string => some [.str]
  | some (.pointer _) | some (.slice _) | some (.map _ _) => some [.opq]
  | some (.struct fs) => match J5 P (WL n) fs.toList 0 with
   | some a => if Nat.beq a.length (P.cellsOf t) then some a else none
   | none => none
  | some (.array m e) => match WL n e with
   | some a => if Nat.beq a.length (P.cellsOf e) && Nat.beq (m * a.length) (P.cellsOf t) then some (P0 a m) else none
   | none => none
  | _ => none
end
section
variable {H : Type} {enc : TypeId × Value → H} {P : Program} {w : World} {base : Nat} {sp : Nat → Bool} {held : Bool}
theorem JE {g : TypeId → Option (List Kd)} {tr : TypeId → List Value → Option (DataW H × List MemPlace)} (hg : ∀ t cs a x, g t = some a → tr t cs = some x → z7 a cs) {all : List Value} :
 ∀ {fs : List Field} {pos : Nat} {a : List Kd} {xs : List (DataW H × List MemPlace)}, J5 P g fs pos = some a → fs.mapM (fun f => tr f.type ((all.drop f.offset).take (P.cellsOf f.type))) = some xs → z7 a ((all.drop pos).take a.length)
 | [], pos, a, xs, h, _ => by cases h; simp [z7]
 | x :: fs, pos, a, xs, h, hm => by
  simp only [J5] at h
  split at h
  rotate_left
  · cases h
  rename_i a0 hg0
  split at h
  rotate_left
  · cases h
  rename_i hc
  simp only [Bool.and_eq_true] at hc
  have ho := Nat.eq_of_beq_eq_true hc.1
  have hs := Nat.eq_of_beq_eq_true hc.2
  split at h
  rotate_left
  · cases h
  rename_i b hb
  cases h
  simp only [List.mapM_cons, bind, Option.bind_eq_some_iff, pure] at hm
  obtain ⟨y, hy, ys, hys, _⟩ := hm
  have h1 := hg _ _ _ _ hg0 hy
  rw [ho, ← hs] at h1
  have h2 := JE hg hb hys
  have : (all.drop pos).take (a0 ++ b).length = (all.drop pos).take a0.length ++ (all.drop (pos + a0.length)).take b.length := by
   rw [List.length_append, ← List.drop_drop, List.take_add]
  rw [this]
  exact h1.append h2
theorem FM {a : List Kd} {tr : List Value → Option (DataW H × List MemPlace)} (hg : ∀ cs x, tr cs = some x → z7 a cs) {all : List Value} :
 ∀ (m i : Nat), (∀ j, i ≤ j → j < i + m → ∃ x, tr ((all.drop (j * a.length)).take a.length) = some x) → z7 (P0 a m) ((all.drop (i * a.length)).take (m * a.length))
 | 0, i, _ => by simp [P0, z7]
 | m + 1, i, h => by
  obtain ⟨x, hx⟩ := h i (Nat.le_refl _) (by omega)
  have h2 := FM hg m (i + 1) (fun j h1 h3 => h j (by omega) (by omega))
  have : (all.drop (i * a.length)).take ((m + 1) * a.length) = (all.drop (i * a.length)).take a.length ++ (all.drop ((i + 1) * a.length)).take (m * a.length) := by
   rw [Nat.succ_mul, Nat.add_comm (m * a.length), Nat.succ_mul, ← List.drop_drop, List.take_add]
  rw [this]
  exact (hg _ _ hx).append h2
theorem mapM_some {α β : Type} {f : α → Option β} : ∀ {l : List α} {ys : List β}, l.mapM f = some ys → ∀ x ∈ l, ∃ y, f x = some y
 | [], _, _, _, h => by cases h
 | a :: l, ys, hm, x, hx => by
  simp only [List.mapM_cons, bind, Option.bind_eq_some_iff, pure] at hm
  obtain ⟨y, hy, zs, hz, _⟩ := hm
  rcases List.mem_cons.1 hx with rfl | hx
  · exact ⟨y, hy⟩
  · exact mapM_some hz x hx
theorem Wb : ∀ (n fuel : Nat) (t : TypeId) (cs : List Value) (a : List Kd) (x : DataW H × List MemPlace), WL P n t = some a → DataW.trod enc P w base sp held fuel t cs = some x → z7 a cs
 | 0, _, _, _, _, _, h, _ => by cases h
 | n + 1, 0, _, _, _, _, _, h => by simp [DataW.trod] at h
 | n + 1, fuel + 1, t, cs, a, x, h, ht => by
  unfold DataW.trod at ht
  unfold WL at h
  cases hu : P.underlying t with
  | none => simp [hu] at h
  | some u =>
   cases u <;> simp only [hu, reduceCtorEq, z2] at h
   case bool =>
    subst h
    rw [hu] at ht
    split at ht <;> first | cases ht | (rename_i e; cases e) | skip
    all_goals simp_all [z7, Kd.ok]
   case int k =>
    subst h
    rw [hu] at ht
    split at ht <;> simp_all [z7, Kd.ok]
   case string =>
    subst h
    rw [hu] at ht
    split at ht <;> simp_all [z7, Kd.ok]
   case pointer e =>
    subst h
    rw [hu] at ht
    split at ht <;> simp_all [z7, Kd.ok, opq]
   case slice e =>
    subst h
    rw [hu] at ht
    split at ht <;> simp_all [z7, Kd.ok, opq]
   case map k e =>
    subst h
    rw [hu] at ht
    split at ht <;> simp_all [z7, Kd.ok, opq]
   case struct fs =>
    rw [hu] at ht
    split at h
    rotate_left
    · cases h
    rename_i b hb
    split at h
    rotate_left
    · cases h
    rename_i hbl
    cases h
    have hbl := Nat.eq_of_beq_eq_true hbl
    simp only at ht
    split at ht
    rotate_left
    · cases ht
    rename_i hlen
    simp only [Option.map_eq_some_iff] at ht
    obtain ⟨xs, hxs, _⟩ := ht
    have := JE (P := P) (fun t cs a x => Wb n fuel t cs a x) hb hxs
    rw [List.drop_zero, hbl, ← hlen, List.take_length] at this
    exact this
   case array m e =>
    rw [hu] at ht
    split at h
    rotate_left
    · cases h
    rename_i b hb
    split at h
    rotate_left
    · cases h
    rename_i hbl
    cases h
    simp only [Bool.and_eq_true] at hbl
    have h1 := Nat.eq_of_beq_eq_true hbl.1
    have h2 := Nat.eq_of_beq_eq_true hbl.2
    simp only at ht
    split at ht
    rotate_left
    · cases ht
    rename_i hlen
    simp only [Option.map_eq_some_iff] at ht
    obtain ⟨xs, hxs, _⟩ := ht
    have := FM (all := cs) (fun cs x => Wb n fuel _ cs b x hb) m 0 (fun j _ hj => by
     have := mapM_some hxs j (List.mem_range.2 (by omega))
     rw [← h1] at this
     exact this)
    rw [Nat.zero_mul, List.drop_zero, h2, ← hlen, List.take_length] at this
    exact this
end
def Vo (all : List Value) (s : DS) : Option (Value × DS) := match all with | [] => some (.bool true, s) | _ => none
theorem Sy {P : Program} {g : Nat} (hc : ∀ W, Calls P g #[] W fun e w' => e = .returned (.bool true) ∧ Kept W w') (hbody : ∀ X w, (callFunc g X).run P w = .ok (.enter g X) w) : WA P g Vo := by
 refine ⟨fun a s v s' h => ?_, hbody, fun a s v s' h β w args' hargs hR hf => ?_⟩
 · unfold Vo at h
   split at h
   · cases h; exact zq.refl _
   · cases h
 · unfold Vo at h
   split at h
   rotate_left
   · cases h
   cases h
   obtain ⟨args'⟩ := args'
   cases hargs
   refine callsIn_wide.2 ((hc w).mono ?_)
   rintro e w'' ⟨rfl, hk⟩
   refine ⟨_, rfl, β, .bool true, ?_⟩
   refine { le := Nat.le_refl _, emb := Emb.le.refl _, dom := fun k hk hk' => absurd hk hk', rel := ⟨fun k o ho => ?_, hR.inj⟩, size := hk.size, os := hk.os, tape := hk.tape, output := hk.output, frame := fun r hr _ => hk.heap r hr, fresh := fun k o l ho hl => .inr ⟨k, o, l, ho, hl, rfl, id⟩ }
   obtain ⟨l, h1, h2⟩ := hR.obj k o ho
   exact ⟨l, h1, h2.keep (Emb.le.refl _) (hk.heap _ h2.lt)⟩
end Go.Dx
