/- A part. -/
import Derived.Test.YthmgnfeljhdioaaGreatDxCall
import Derived.Shelf.SlIterI.Sorted
set_option linter.unusedVariables false
set_option linter.unusedSimpArgs false
set_option linter.unusedSectionVars false
namespace Go.Dx
open Go Go.Proofs Go.Shelf Go.RowKit Go.Maps
def DZ (x : Int) : List Int → List Int
 | [] => [x]
 | y :: l => if x ≤ y then x :: y :: l else y :: DZ x l
def Ke : List Int → List Int
 | [] => []
 | x :: l => DZ x (Ke l)
theorem Jl (x : Int) : ∀ l : List Int, (DZ x l).Perm (x :: l)
 | [] => .refl _
 | y :: l => by
  unfold DZ
  split
  · exact .refl _
  · exact ((Jl x l).cons y).trans (.swap x y l)
theorem Qw : ∀ l : List Int, (Ke l).Perm l
 | [] => .refl _
 | x :: l => (Jl x (Ke l)).trans ((Qw l).cons x)
theorem JC (x : Int) : ∀ l : List Int, l.Pairwise (· ≤ ·) → (DZ x l).Pairwise (· ≤ ·)
 | [], _ => by simp [DZ]
 | y :: l, h => by
  rw [List.pairwise_cons] at h
  unfold DZ
  split
  · rename_i hxy
    rw [List.pairwise_cons, List.pairwise_cons]
    refine ⟨fun a ha => ?_, h⟩
    rcases List.mem_cons.1 ha with rfl | ha
    · exact hxy
    · exact Int.le_trans hxy (h.1 a ha)
  · rename_i hxy
    rw [List.pairwise_cons]
    refine ⟨fun a ha => ?_, JC x l h.2⟩
    rcases List.mem_cons.1 ((Jl x l).mem_iff.1 ha) with rfl | ha
    · omega
    · exact h.1 a ha
theorem QK : ∀ l : List Int, (Ke l).Pairwise (· ≤ ·)
 | [] => .nil
 | x :: l => JC x _ (QK l)
theorem SE {l l' : List Int} (h : l.Perm l') : l.mergeSort (fun x y => decide (x ≤ y)) = Ke l' := by
 have tr : ∀ a b c : Int, decide (a ≤ b) = true → decide (b ≤ c) = true → decide (a ≤ c) = true := fun a b c h1 h2 => by simp only [decide_eq_true_eq] at *; exact Int.le_trans h1 h2
 have to : ∀ a b : Int, (decide (a ≤ b) || decide (b ≤ a)) = true := fun a b => by simp only [Bool.or_eq_true, decide_eq_true_eq]; exact Int.le_total a b
 refine List.Perm.eq_of_pairwise (le := fun a b : Int => a ≤ b) (fun a b _ _ h1 h2 => Int.le_antisymm h1 h2) ((List.pairwise_mergeSort tr to l).imp fun {a b} h => by simpa using h) (QK l') (((List.mergeSort_perm l _).trans h).trans (Qw l').symm)
def keysOf (clock : Nat) : List z6 → Option (List Int)
 | [] => some []
 | e :: es => match e.key, keysOf clock es with
  | .int .i64 n, some l => if (Lit.int .i64 n).wf && !(l.any fun x => decide (x = n)) && Nat.blt e.born clock && !(es.any fun x => Nat.beq x.born e.born) then some (n :: l) else none
  | _, _ => none
def encI (n : Int) : Value := .int .i64 n
def KE (all : List Value) (g10 : Nat) (s : DS) : Option (Value × DS) :=
 match all with
 | [.map (some m)] => some (.func (.func g10) #[] #[.chan (some s.next)], s.new (.cells (.list [.map (some m)]) false))
 | _ => none
def Wh (g10 : Nat) (all : List Value) (s : DS) : Option (Value × DS) :=
 match all with
 | [.func (.func g) ⟨[]⟩ ⟨[.chan (some k)]⟩] =>
  if Nat.beq g g10 then
   match s.get k with
   | some (.cells c _) => match c.get 0 with
    | some (.map (some m)) => match s.get m with
     | some (.map es clock) => match keysOf clock es with
      | some l => if Nat.ble l.length 1000000 then
       match Ke l with
       | [] => some (.slice none 0 0, s)
       | x :: r => some (.slice (some ⟨s.next, 0, some 1⟩) (r.length + 1) (r.length + 1), s.new (.cells (.list ((x :: r).map encI)) false))
       else none
      | none => none
     | _ => none
    | _ => none
   | _ => none
  else none
 | _ => none
theorem DY {all : List Value} {g10 : Nat} {s s' : DS} {v : Value} (h : KE all g10 s = some (v, s')) : zq s s' := by
 unfold KE at h
 split at h
 · cases h; exact zq.new _ _
 · cases h
theorem V5 {g10 : Nat} {all : List Value} {s s' : DS} {v : Value} (h : Wh g10 all s = some (v, s')) : zq s s' := by
 unfold Wh at h
 split at h
 · split at h
   · split at h
     · split at h
       · split at h
         · split at h
           · split at h
             · split at h
               · cases h; exact zq.refl _
               · cases h; exact zq.new _ _
             · cases h
           · cases h
         · cases h
       · cases h
     · cases h
   · cases h
 · cases h
section
variable {P : Program} {ρ : Ren} {β : Emb} {s s' : DS} {w w' : World}
theorem Step.newB (h : Rel P β s.get w) (hf : β s.next = none) {o : DObj} {l : Loc} (hl : w.heap.size ≤ l.blk) (hs : w.heap.size ≤ w'.heap.size)
 (hold : ∀ r, r < w.heap.size → w'.heap[r]? = w.heap[r]?) (hos : w'.os = w.os) (ht : w'.tape = w.tape) (hu : w'.output = w.output)
 (hO : JW P (β.upd s.next l) l o w') : Step P β s.get s.next w (β.upd s.next l) (s.new o).get (s.new o).next w' := by
 have hle : β.le (β.upd s.next l) := Emb.le_upd hf
 have hobj : ∀ k o', (s.new o).get k = some o' → k = s.next ∧ o' = o ∨ k ≠ s.next ∧ s.get k = some o' := by
  intro k o' hk
  by_cases e : k = s.next
  · subst e
    rw [DS.get_new] at hk
    split at hk
    · simp at hk; exact .inl ⟨rfl, hk.symm⟩
    · cases hk
  · exact .inr ⟨e, by rwa [DS.get_new_old e] at hk⟩
 have hβ : ∀ k, k ≠ s.next → β.upd s.next l k = β k := fun k e => by simp [Emb.upd, e]
 refine { le := Nat.le_succ _, emb := hle, dom := ?_, rel := ⟨?_, ?_⟩, size := hs, os := hos, tape := ht, output := hu, frame := fun r hr _ => hold r hr, fresh := ?_ }
 · intro k hk hk'
   by_cases e : k = s.next
   · subst e; exact ⟨Nat.le_refl _, Nat.lt_succ_self _⟩
   · rw [hβ k e] at hk'; exact absurd hk hk'
 · intro k o' hk
   rcases hobj k o' hk with ⟨rfl, rfl⟩ | ⟨e, hk⟩
   · exact ⟨l, Emb.upd_same _ _ _, hO⟩
   · obtain ⟨l', h1, h2⟩ := h.obj k o' hk
     exact ⟨l', hle _ _ h1, h2.keep hle (hold _ h2.lt)⟩
 · intro k k' o1 o2 l1 l2 h1 h2 e1 e2 hne how
   rcases hobj k o1 h1 with ⟨rfl, rfl⟩ | ⟨e, h1⟩
   · rcases hobj k' o2 h2 with ⟨rfl, rfl⟩ | ⟨e', h2⟩
     · exact absurd rfl hne
     · rw [Emb.upd_same] at e1
       cases e1
       rw [hβ k' e'] at e2
       obtain ⟨l', h3, h4⟩ := h.obj k' o2 h2
       rw [e2] at h3
       cases h3
       have := h4.lt
       omega
   · rw [hβ k e] at e1
     rcases hobj k' o2 h2 with ⟨rfl, _⟩ | ⟨e', h2⟩
     · rw [Emb.upd_same] at e2
       cases e2
       obtain ⟨l', h3, h4⟩ := h.obj k o1 h1
       rw [e1] at h3
       cases h3
       have := h4.lt
       omega
     · rw [hβ k' e'] at e2
       exact h.inj k k' o1 o2 l1 l2 h1 h2 e1 e2 hne how
 · intro k o' l' hk hl'
   rcases hobj k o' hk with ⟨rfl, rfl⟩ | ⟨e, hk⟩
   · rw [Emb.upd_same] at hl'; cases hl'; left; omega
   · rw [hβ k e] at hl'
     exact .inr ⟨k, o', l', hk, hl', rfl, id⟩
theorem Step.below (h : Rel P β s.get w) (hb : Below w.heap.size w w') : Step P β s.get s.next w β s.get s.next w' := by
 refine { le := Nat.le_refl _, emb := Emb.le.refl _, dom := fun k hk hk' => absurd hk hk', rel := ⟨fun k o hk => ?_, h.inj⟩, size := hb.size, os := hb.os, tape := hb.tape, output := hb.output, frame := fun r hr _ => hb.block r hr, fresh := fun k o l hk hl => .inr ⟨k, o, l, hk, hl, rfl, id⟩ }
 obtain ⟨l, h1, h2⟩ := h.obj k o hk
 exact ⟨l, h1, h2.keep (Emb.le.refl _) (hb.block _ h2.lt)⟩
theorem DX (L : SlLaysZI.n7 P ρ) {all : List Value} {v : Value} (h : KE all (ρ.f 10) s = some (v, s')) {args' : Array Value} (hargs : LRel β all args'.toList) (hR : Rel P β s.get w) (hf : fresh β s s') :
 CallsIn Fence.wide 0 P (ρ.f 7) args' w fun e w'' => ∃ v', e = .returned v' ∧ ∃ β', VRel β' v v' ∧ Step P β s.get s.next w β' s'.get s'.next w'' := by
 unfold KE at h
 split at h
 rotate_left
 · cases h
 rename_i m
 cases h
 obtain ⟨args'⟩ := args'
 simp only at hargs
 cases hargs with
 | @cons _ A _ l1 hA hargs =>
 cases hargs
 cases hA with
 | @map _ lm hm =>
 refine callsIn_wide.2 ((callsIn_wide.1 (AnyZI.keys_in L Fence.wide 0 trivial rfl (some lm.blk) w)).mono ?_)
 rintro e w'' ⟨rfl, rfl⟩
 have hfn : β s.next = none := hf s.next (Nat.le_refl _) (Nat.lt_succ_self _)
 have st := row_step (P := P) (arr := #[.map (some lm.blk)]) (t := ρ.t 23) (fr := (0, 0)) (l := [.map (some m)]) (l' := [.map (some lm.blk)]) (more := []) (ext := 0) (sz := 1) (c := .list [.map (some m)]) (w' := w.alloc (.cells #[.map (some lm.blk)] (ρ.t 23))) hR hfn rfl rfl rfl rfl rfl (.cons (.map hm) .nil) (Zc _) rfl (.inl rfl)
 refine ⟨_, rfl, _, ?_, st⟩
 exact .func (f := ρ.f 10) .nil (.cons (.pin (Emb.upd_same _ _ _) rfl) .nil)
theorem QS {clock : Nat} : ∀ {es : List z6} {xs : List MapEntry} {l : List Int}, keysOf clock es = some l → Zt β es xs →
 xs.map (·.key) = l.map encI ∧ (∀ n ∈ l, (Lit.int .i64 n).wf = true) ∧ l.Nodup ∧ (∀ x ∈ xs, x.born < clock) ∧ (xs.map (·.born)).Nodup ∧ xs.map (·.born) = es.map (·.born)
 | [], [], l, h, _ => by cases h; simp
 | [], _ :: _, _, _, h => h.elim
 | _ :: _, [], _, _, h => h.elim
 | e :: es, x :: xs, l, h, ⟨⟨hk, _⟩, hb, _, ht⟩ => by
  unfold keysOf at h
  split at h
  rotate_left
  · cases h
  rename_i n l1 hkey hrest
  split at h
  rotate_left
  · cases h
  rename_i hc
  cases h
  simp only [Bool.and_eq_true, Bool.not_eq_true', List.any_eq_false, decide_eq_true_eq] at hc
  obtain ⟨⟨⟨hwf, hnd⟩, hlt⟩, hbd⟩ := hc
  obtain ⟨i1, i2, i3, i4, i5, i6⟩ := QS hrest ht
  refine ⟨?_, ?_, ?_, ?_, ?_, ?_⟩
  · simp only [z4, i1, ← hk, hkey]; rfl
  · intro q hq
    rcases List.mem_cons.1 hq with rfl | hq
    · exact hwf
    · exact i2 q hq
  · exact List.nodup_cons.2 ⟨fun hm => hnd n hm rfl, i3⟩
  · intro y hy
    rcases List.mem_cons.1 hy with rfl | hy
    · rw [← hb]; exact (zX _ _).1 hlt
    · exact i4 y hy
  · simp only [z4]
    refine List.nodup_cons.2 ⟨fun hm => ?_, i5⟩
    rw [i6, List.mem_map] at hm
    obtain ⟨y, hy, he⟩ := hm
    have := hbd y hy
    rw [he, hb, Nat.beq_refl] at this
    exact this rfl
  · simp only [z4, i6, hb]
theorem insert_perm {H : Type} (x : Lit × DataW H) : ∀ l : List (Lit × DataW H), (DataW.insert x l).Perm (x :: l)
 | [] => .refl _
 | y :: r => by
  unfold DataW.insert
  split
  · exact .refl _
  · exact ((insert_perm x r).cons y).trans (.swap x y r)
theorem Yz {H : Type} : ∀ l : List (Lit × DataW H), (l.foldr DataW.insert []).Perm l
 | [] => .refl _
 | x :: l => (insert_perm x _).trans ((Yz l).cons x)
theorem V4 (L6 : SlLaysZI.n6 P ρ) (L10 : SlLaysZI.n10 P ρ) (hsort : ∀ m, AnyZI.SortsIn P ρ Fence.wide m) (e9 : ∀ args w, (callFunc (ρ.f 9) args).run P w = .ok (.enter (ρ.f 9) args) w)
 {all : List Value} {v : Value} (h : Wh (ρ.f 10) all s = some (v, s')) {args' : Array Value} (hargs : LRel β all args'.toList) (hR : Rel P β s.get w) (hf : fresh β s s') :
 CallsIn Fence.wide 0 P (ρ.f 6) args' w fun e w'' => ∃ v', e = .returned v' ∧ ∃ β', VRel β' v v' ∧ Step P β s.get s.next w β' s'.get s'.next w'' := by
 unfold Wh at h
 split at h
 rotate_left
 · cases h
 rename_i g k
 split at h
 rotate_left
 · cases h
 rename_i hg
 have hg := Nat.eq_of_beq_eq_true hg
 subst hg
 split at h
 rotate_left
 · cases h
 rename_i c ro hbox
 split at h
 rotate_left
 · cases h
 rename_i m hc0
 split at h
 rotate_left
 · cases h
 rename_i es clock hmap
 split at h
 rotate_left
 · cases h
 rename_i l hkeys
 split at h
 rotate_left
 · cases h
 rename_i hlen
 have hlen := Nat.le_of_ble_eq_true hlen
 obtain ⟨args'⟩ := args'
 simp only at hargs
 cases hargs with
 | @cons _ A _ l1 hA hargs =>
 cases hargs
 cases hA with
 | @func _ _ a' _ b' ha hb =>
 obtain ⟨a'⟩ := a'
 obtain ⟨b'⟩ := b'
 simp only at ha hb
 cases ha
 cases hb with
 | @cons _ B _ l2 hB hb =>
 cases hb
 cases hB with
 | @pin _ lk hk hk0 =>
 obtain ⟨lk', hk', hb1, hb2, hb3, hb4, hb5⟩ := hR.obj k _ hbox
 rw [hk] at hk'
 cases hk'
 obtain ⟨v0, hv0, hvr⟩ := hb3 0 _ hc0
 rw [hk0] at hv0
 cases hvr with
 | @map _ lm hm =>
 obtain ⟨lm', hm', xs, hxs, hE⟩ := hR.obj m _ hmap
 rw [hm] at hm'
 cases hm'
 obtain ⟨f1, f2, f3, f4, f5, f6⟩ := QS hkeys hE
 let R : Value → Option (DataW Unit × List MemPlace) := fun _ => some (.nil, [])
 have hxl : xs.size = l.length := by
  have := congrArg List.length f1
  simpa using this
 have hkof : ∀ n ∈ l, keyOf P (ρ.t 26) (encI n) = some (.int .i64 n) := fun n hn => keyOf_int_mk L6.t26 (f2 n hn)
 have hrd : ∀ x ∈ xs.toList, ∃ n ∈ l, x.key = encI n ∧ WideElems.rd P (ρ.t 26) R x = some (.int .i64 n, .nil) := by
  intro x hx
  have hx' : x.key ∈ l.map encI := by rw [← f1]; exact List.mem_map_of_mem hx
  obtain ⟨n, hn, hxe⟩ := List.mem_map.1 hx'
  refine ⟨n, hn, hxe.symm, ?_⟩
  simp [WideElems.rd, ← hxe, hkof n hn, R]
 have hfit : WideElems.Fit P (ρ.t 26) R xs clock := ⟨by rw [hxl]; simp only [maxLen]; omega, ⟨f4, f5, by
  rw [f1]
  exact List.pairwise_map.2 (f3.imp fun hne e => hne (by simpa [encI] using e))⟩, fun x hx => by
  obtain ⟨n, _, _, h⟩ := hrd x hx
  exact ⟨_, h⟩⟩
 have hown : w.ownsMap P (ρ.t 26) R lm.blk xs.size (.map ((xs.toList.map (WideElems.rg P (ρ.t 26) R)).foldr DataW.insert [])) := ⟨xs, clock, hxs, hfit, Nat.le_refl _, rfl⟩
 have hsz : Maps.size (.map ((xs.toList.map (WideElems.rg P (ρ.t 26) R)).foldr DataW.insert [])) = l.length := by
  show ((xs.toList.map (WideElems.rg P (ρ.t 26) R)).foldr DataW.insert []).length = l.length
  rw [(Yz _).length_eq]
  simpa using hxl
 have hik : (intKeys (.map ((xs.toList.map (WideElems.rg P (ρ.t 26) R)).foldr DataW.insert []))).Perm l := by
  show (((xs.toList.map (WideElems.rg P (ρ.t 26) R)).foldr DataW.insert []).map fun p => intOf p.1).Perm l
  refine ((Yz _).map _).trans (List.Perm.of_eq ?_)
  rw [List.map_map]
  have key : ∀ (ys : List MapEntry) (q : List Int), (∀ x ∈ ys, x ∈ xs.toList) → ys.map (·.key) = q.map encI → ys.map ((fun p : Lit × DataW Unit => intOf p.1) ∘ WideElems.rg P (ρ.t 26) R) = q := by
   intro ys
   induction ys with
   | nil => intro q _ hq; cases q with
    | nil => rfl
    | cons _ _ => cases hq
   | cons y ys ih =>
    intro q hsub hq
    cases q with
    | nil => cases hq
    | cons n q =>
     simp only [z4, List.cons.injEq] at hq
     simp only [z4, ih q (fun x hx => hsub x (List.mem_cons_of_mem _ hx)) hq.2]
     obtain ⟨n', _, hy, hr⟩ := hrd y (hsub y (List.mem_cons_self ..))
     have hn : n = n' := by
      have := hq.1.symm.trans hy
      simpa [encI] using this
     simp only [Function.comp, WideElems.rg, hr, z1, hn]
     rfl
  exact key xs.toList l (fun _ h => h) f1
 have hseq := AnyZI.keys_gives (ρ := ρ) L10 Fence.wide (5 - 1 - 1 - 1) trivial rfl (by omega) lk.blk lm.blk xs.size _ w hb1 hv0 hown
 rw [hsz] at hseq
 have cS := AnyZI.sorted_in L6 Fence.wide 5 trivial trivial trivial trivial rfl (by omega) (hsort _) e9 (ρ.f 10) #[.pointer (some ⟨lk.blk, 0, none⟩)] trivial (L10.f10.enters rfl) _ _ (by simp only [maxLen]; omega) (by omega) w hseq
 refine callsIn_wide.2 ((callsIn_wide.1 cS).mono ?_)
 rintro e w'' ⟨v', ss, rfl, hS, hrow, hnil, hbel⟩
 have hp : ss.Perm l := hS.trans hik
 rw [SE hp] at hrow
 have hssl : ss.length = l.length := hp.length_eq
 have hkl : (Ke l).length = l.length := (Qw l).length_eq
 split at h
 · rename_i hs0
   cases h
   have : ss = [] := by rw [hs0] at hkl; exact List.eq_nil_of_length_eq_zero (by rw [hssl, ← hkl]; rfl)
   rw [hnil.2 this]
   exact ⟨_, rfl, β, .nilSlice, Step.below hR hbel⟩
 · rename_i x r hs1
   cases h
   rcases hrow.2 with ⟨_, hz⟩ | ⟨gb, cap, cur, rfl, hbase, hgb, r1, r2, r3, r4⟩
   · rw [hs1] at hkl; simp at hkl; omega
   have hn : r.length + 1 = ss.length := by rw [hs1] at hkl; simp at hkl; omega
   have hfn : β s.next = none := hf s.next (Nat.le_refl _) (Nat.lt_succ_self _)
   rw [hs1] at r4
   have hl0 : ((x :: r).map encI).length = r.length + 1 := by simp
   have hrel : LRel β ((x :: r).map encI) ((x :: r).map encI) := by
    have : ∀ q : List Int, LRel β (q.map encI) (q.map encI) := fun q => by
     induction q with
     | nil => exact .nil
     | cons a q ih => exact .cons (.int _ _) ih
    exact this _
   have hO := VO (P := P) (β := β.upd s.next ⟨gb, 0, cap - (r.length + 1), 1, ((x :: r).map encI).length⟩) (w' := w'') (B := gb) (arr := cur) (t := ρ.t 26) (fr := (0, 0)) (l := (x :: r).map encI) (l' := (x :: r).map encI) (more := cur.toList.drop (r.length + 1)) (c := .list ((x :: r).map encI)) (ext := cap - (r.length + 1)) (sz := 1) hgb
    (by
     have : (x :: r).map encI = cur.toList.take (r.length + 1) := by
      rw [hn, ← Nat.mul_one ss.length]; exact r4.symm
     rw [this, List.take_append_drop])
    (hrel.mono (Emb.le_upd hfn)) (Zc _).1 (Zc _).2 (by simp [r3]) (.inl rfl)
   have st := Step.newB (P := P) (w' := w'') (o := .cells (.list ((x :: r).map encI)) false) hR hfn hbase hbel.size hbel.block hbel.os hbel.tape hbel.output hO
   refine ⟨_, rfl, _, ?_, st⟩
   have hv := VRel.opened (β := β.upd s.next ⟨gb, 0, cap - (r.length + 1), 1, ((x :: r).map encI).length⟩) (k := s.next) (off := 0) (l := ⟨gb, 0, cap - (r.length + 1), 1, ((x :: r).map encI).length⟩) (n := r.length + 1) (c := r.length + 1) (a := ⟨gb, 0, none⟩)
    (Emb.upd_same _ _ _) (Nat.le_refl _) (by show 0 + (r.length + 1) * 1 = ((x :: r).map encI).length; rw [hl0]; omega) (.inr rfl) (by
     show r.length + 1 + (cap - (r.length + 1)) ≤ 9223372036854775807
     simp only [maxLen] at r2; omega)
   have hx : r.length + 1 + (cap - (r.length + 1)) = cap := by omega
   simp only [hx] at hv
   rw [← hn]
   exact hv
theorem Nm (L : SlLaysZI.n7 P ρ) (hbody : ∀ X w, (callFunc (ρ.f 7) X).run P w = .ok (.enter (ρ.f 7) X) w) : WA P (ρ.f 7) fun all s => KE all (ρ.f 10) s :=
 ⟨fun _ _ _ _ h => DY h, hbody, fun _ _ _ _ h _ _ _ hargs hR hf => DX L h hargs hR hf⟩
theorem TJ (L6 : SlLaysZI.n6 P ρ) (L10 : SlLaysZI.n10 P ρ) (hsort : ∀ m, AnyZI.SortsIn P ρ Fence.wide m) (e9 : ∀ args w, (callFunc (ρ.f 9) args).run P w = .ok (.enter (ρ.f 9) args) w)
 (hbody : ∀ X w, (callFunc (ρ.f 6) X).run P w = .ok (.enter (ρ.f 6) X) w) : WA P (ρ.f 6) fun all s => Wh (ρ.f 10) all s :=
 ⟨fun _ _ _ _ h => V5 h, hbody, fun _ _ _ _ h _ _ _ hargs hR hf => V4 L6 L10 hsort e9 h hargs hR hf⟩
end
end Go.Dx
