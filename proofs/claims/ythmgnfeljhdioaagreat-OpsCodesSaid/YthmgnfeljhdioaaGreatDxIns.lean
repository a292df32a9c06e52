/- A part. -/
import Derived.Test.YthmgnfeljhdioaaGreatDxCall
import Derived.Shelf.Spec.SlicesInsertGrow
set_option linter.unusedVariables false
set_option linter.unusedSimpArgs false
set_option linter.unusedSectionVars false
namespace Go.Dx
open Go Go.Proofs Go.Shelf
def D0 (all : List Value) (s : DS) : Option (Value × DS) :=
 match all with
 | [.slice (some ⟨k, off, sp⟩) n c, .int .i64 (.ofNat i), .slice (some ⟨kv, ov, _⟩) m _] =>
  if Nat.blt i n && Nat.ble n 1000000 && Nat.beq m 1 && !Nat.beq k kv && Nat.ble c 4611686018427387904 then
   match s.get k, s.get kv with
   | some (.cells cc false), some (.cells cv false) =>
    match cc.take off n, cv.take ov 1 with
    | some cs, some vs =>
     if zh cs && zh vs && cv.plain then
      if Nat.blt n c then
       match s.write k (off + i) (vs ++ cs.drop i) with
       | some s' => some (.slice (some ⟨k, off, sp⟩) (n + 1) c, s')
       | none => none
      else match sp with
       | none => some (.slice (some ⟨s.next, 0, some 1⟩) (n + 1) (n + 1), s.new (.cells (.list (cs.take i ++ (vs ++ cs.drop i))) false))
       | some sz =>
        if Nat.beq sz 1 then
         match s.kill k with
         | some s1 => some (.slice (some ⟨s1.next, 0, some 1⟩) (n + 1) (n + 1), s1.new (.cells (cc.like (cs.take i ++ (vs ++ cs.drop i))) false))
         | none => none
        else none
     else none
    | _, _ => none
   | _, _ => none
  else none
 | _ => none
theorem T3 {all : List Value} {s s' : DS} {v : Value} (h : D0 all s = some (v, s')) : zq s s' := by
 unfold D0 at h
 split at h
 · split at h
   · split at h
     · split at h
       · split at h
         · split at h
           · split at h
             · rename_i s1 hw; cases h; exact zq.write hw
             · cases h
           · split at h
             · cases h; exact zq.new _ _
             · split at h
               · split at h
                 · rename_i s1 hk; cases h; exact (zq.kill hk).trans (zq.new _ _)
                 · cases h
               · cases h
         · cases h
       · cases h
     · cases h
   · cases h
 · cases h
section
variable {P : Program} {β : Emb} {w w' : World} {s s' : DS}
structure Vk (w w' : World) (b o : Nat) (l : List Value) : Prop where
 size : w'.heap.size = w.heap.size
 other : ∀ r, r ≠ b → w'.heap[r]? = w.heap[r]?
 os : w'.os = w.os
 tape : w'.tape = w.tape
 output : w'.output = w.output
 cell : ∀ q, w'.cell? ⟨b, q, none⟩ = if o ≤ q ∧ q < o + l.length then l[q - o]? else w.cell? ⟨b, q, none⟩
 frozen : ∀ a, w'.frozen? a = w.frozen? a
 rng : Xy w' b = Xy w b
theorem Xf : ∀ (vs : List Value) (b o : Nat) (w : World), (∀ j, j < vs.length → ∃ u, w.cell? ⟨b, o + j, none⟩ = some u) → Vk w (w.setCells b o vs) b o vs
 | [], b, o, w, _ => ⟨rfl, fun _ _ => rfl, rfl, rfl, rfl, fun q => by rw [if_neg (by simp)]; rfl, fun _ => rfl, rfl⟩
 | v :: vs, b, o, w, h => by
  obtain ⟨u, hu⟩ := h 0 (by simp)
  simp only [Nat.add_zero] at hu
  have ih := Xf vs b (o + 1) (w.setCell ⟨b, o, none⟩ v) (by
   intro j hj
   obtain ⟨u2, hu2⟩ := h (j + 1) (by simp; omega)
   refine ⟨u2, ?_⟩
   rw [World.cell?_setCell_other w _ _ _ (by intro h; injection h with h1 h2 <;> omega)]
   rw [show o + 1 + j = o + (j + 1) from by omega]; exact hu2)
  refine ⟨ih.size.trans (World.size_setCell ..), fun r hr => (ih.other r hr).trans (Qo w _ v r hr), ih.os, ih.tape, ih.output, ?_, fun a => (ih.frozen a).trans (World.frozen?_setCell ..), ih.rng.trans (Qp ..)⟩
  intro q
  show ((w.setCell ⟨b, o, none⟩ v).setCells b (o + 1) vs).cell? ⟨b, q, none⟩ = _
  rw [ih.cell q]
  by_cases c1 : q = o
  · subst c1
    rw [if_neg (by omega), if_pos (by simp), World.cell?_setCell_same w _ _ hu]
    simp
  · rw [World.cell?_setCell_other w _ _ _ (by intro h; injection h with h1 h2; omega)]
    by_cases c2 : o + 1 ≤ q ∧ q < o + 1 + vs.length
    · rw [if_pos c2, if_pos (by simp; omega)]
      obtain ⟨m, rfl⟩ : ∃ m, q = o + 1 + m := ⟨q - (o + 1), by omega⟩
      rw [show o + 1 + m - (o + 1) = m from by omega, show o + 1 + m - o = m + 1 from by omega]
      simp
    · rw [if_neg c2, if_neg (by simp; omega)]
theorem Vk.join {w0 w1 w2 : World} {b o : Nat} {a c : List Value} (h1 : Vk w0 w1 b (o + a.length) c) (h2 : Vk w1 w2 b o a) : Vk w0 w2 b o (a ++ c) := by
 refine ⟨h2.size.trans h1.size, fun r hr => (h2.other r hr).trans (h1.other r hr), h2.os.trans h1.os, h2.tape.trans h1.tape, h2.output.trans h1.output, ?_, fun x => (h2.frozen x).trans (h1.frozen x), h2.rng.trans h1.rng⟩
 intro q
 rw [h2.cell q, h1.cell q, List.length_append]
 by_cases c1 : o ≤ q ∧ q < o + a.length
 · rw [if_pos c1, if_pos (by omega), List.getElem?_append_left (by omega)]
 · rw [if_neg c1]
   by_cases c2 : o + a.length ≤ q ∧ q < o + a.length + c.length
   · rw [if_pos c2, if_pos (by omega), List.getElem?_append_right (by omega), show q - o - a.length = q - (o + a.length) from by omega]
   · rw [if_neg c2, if_neg (by omega)]
theorem Dw (hR : Rel P β s.get w) {k off : Nat} {l l' : List Value} (h : s.write k off l = some s') (hl : LRel β l l') {loc : Loc} (hk : β k = some loc) (hw : Vk w w' loc.blk (loc.off + off) l') :
 Step P β s.get s.next w β s'.get s'.next w' := by
 unfold DS.write at h
 split at h
 · rename_i c hg
   split at h
   · rename_i hle
     have hle := Nat.le_of_ble_eq_true hle
     obtain ⟨l2, h1, hb, hsz, hc, hown, hpl⟩ := hR.obj k _ hg
     rw [hk] at h1; cases h1
     have hlen := hl.length
     refine Step.write hR h hg rfl rfl hk hw.size hw.other hw.os hw.tape hw.output ⟨by rw [hw.size]; exact hb, by rw [Cells.size_fill]; exact hsz, ?_, ?_, fun hr hp => ⟨fun i => by rw [hw.frozen]; exact (hpl hr (by rw [← Cells.plain_fill l c off]; exact hp)).1 i, by rw [hw.rng]; exact (hpl hr (by rw [← Cells.plain_fill l c off]; exact hp)).2⟩⟩
     · intro i v hv
       rw [Cells.get_fill l c off i hle] at hv
       rw [hw.cell]
       by_cases cnd : off ≤ i ∧ i < off + l.length
       · rw [if_pos cnd] at hv
         rw [if_pos (by omega), show loc.off + i - (loc.off + off) = i - off from by omega]
         exact hl.get? hv
       · rw [if_neg cnd] at hv
         rw [if_neg (by omega)]
         exact hc i v hv
     · intro hr i hi
       obtain ⟨⟨u, hu⟩, hf⟩ := hown hr i hi
       rw [hw.frozen]
       refine ⟨?_, hf⟩
       rw [hw.cell]
       by_cases cnd : loc.off + off ≤ loc.off + i ∧ loc.off + i < loc.off + off + l'.length
       · rw [if_pos cnd]
         exact ⟨_, List.getElem?_eq_getElem (by omega)⟩
       · rw [if_neg cnd]; exact ⟨u, hu⟩
   · cases h
 · cases h
theorem K3 {b o : Nat} {v : Value} (h : w.cell? ⟨b, o, none⟩ = some v) : ∃ t k, w.shape? b = some (t, k) ∧ o < k := by
 unfold World.cell? at h
 unfold World.shape?
 simp only at h
 cases hb : w.heap[b]? with
 | none => simp [hb] at h
 | some ob =>
  cases ob <;> simp [hb] at h
  rename_i c t f
  obtain ⟨h1, _⟩ := Array.getElem?_eq_some_iff.1 h
  exact ⟨t, c.size, rfl, h1⟩
def Vb (a : Array Value) : Nat → List Value → Array Value
 | _, [] => a
 | o, v :: r => Vb (a.setIfInBounds o v) (o + 1) r
theorem Jd : ∀ (vs : List Value) (a : Array Value) (o : Nat), (Vb a o vs).size = a.size
 | [], _, _ => rfl
 | v :: r, a, o => by simp [Vb, Jd r]
theorem Kh : ∀ (vs : List Value) (a : Array Value) (o j : Nat), o + vs.length ≤ a.size → (Vb a o vs)[j]? = if o ≤ j ∧ j < o + vs.length then vs[j - o]? else a[j]?
 | [], a, o, j, _ => by rw [if_neg (by simp)]; rfl
 | v :: r, a, o, j, h => by
  simp only [List.length_cons] at h
  show (Vb (a.setIfInBounds o v) (o + 1) r)[j]? = _
  rw [Kh r _ (o + 1) j (by simp; omega)]
  by_cases c1 : j = o
  · subst c1
    rw [if_neg (by omega), if_pos (by simp)]
    simp [show j < a.size from by omega]
  · by_cases c2 : o + 1 ≤ j ∧ j < o + 1 + r.length
    · rw [if_pos c2, if_pos (by simp; omega)]
      obtain ⟨m, rfl⟩ : ∃ m, j = o + 1 + m := ⟨j - (o + 1), by omega⟩
      rw [show o + 1 + m - (o + 1) = m from by omega, show o + 1 + m - o = m + 1 from by omega]
      simp
    · rw [if_neg c2, if_neg (by simp; omega), Array.getElem?_setIfInBounds_ne (Ne.symm c1)]
theorem XH (H : Array Obj) (t : TypeId) : ∀ (vs : List Value) (a : Array Value) (o : Nat) (w : World), w.heap = H.push (.cells a t) →
 (w.setCells H.size o vs).heap = H.push (.cells (Vb a o vs) t) ∧ (w.setCells H.size o vs).os = w.os ∧ (w.setCells H.size o vs).tape = w.tape ∧ (w.setCells H.size o vs).output = w.output
 | [], a, o, w, h => ⟨h, rfl, rfl, rfl⟩
 | v :: r, a, o, w, h => by
  have h1 : (w.setCell ⟨H.size, o, none⟩ v).heap = H.push (.cells (a.setIfInBounds o v) t) := by
   apply Array.ext_getElem?
   intro i
   simp only [World.setCell, h, Array.getElem?_modify, Array.getElem?_push]
   by_cases e : i = H.size
   · subst e; simp
   · simp [e, Ne.symm e]
  exact XH H t r _ (o + 1) _ h1
end
section
variable {P : Program} {ρ : Ren} {β : Emb} {w : World} {s s' : DS}
theorem CE {α : Type} (cs L : List α) (i j : Nat) (hi : i ≤ cs.length) : (cs.take i ++ L)[j]? = if j < i then cs[j]? else L[j - i]? := by
 by_cases c : j < i
 · rw [if_pos c, List.getElem?_append_left (by simp; omega), List.getElem?_take, if_pos c]
 · rw [if_neg c, List.getElem?_append_right (by simp; omega)]
   congr 1
   simp
   omega
theorem T2 (L : Lays2.n21 P ρ) {all : List Value} {v : Value} (h : D0 all s = some (v, s')) {args' : Array Value} (hargs : LRel β all args'.toList) (hR : Rel P β s.get w) (hf : fresh β s s') :
 CallsIn Fence.wide 0 P (ρ.f 21) args' w fun e w'' => ∃ v', e = .returned v' ∧ ∃ β', VRel β' v v' ∧ Step P β s.get s.next w β' s'.get s'.next w'' := by
 unfold D0 at h
 split at h
 rotate_left
 · cases h
 rename_i k off sp n c i kv ov sv m vc
 split at h
 rotate_left
 · cases h
 rename_i hchk
 simp only [Bool.and_eq_true, Bool.not_eq_true'] at hchk
 obtain ⟨⟨⟨⟨hin, hn6⟩, hm1⟩, hkk⟩, hc62⟩ := hchk
 have hin := YO hin
 have hn6 := Nat.le_of_ble_eq_true hn6
 have hm1 := Nat.eq_of_beq_eq_true hm1
 have hc62 := Nat.le_of_ble_eq_true hc62
 have hkk : k ≠ kv := by rintro rfl; simp at hkk
 subst hm1
 split at h
 rotate_left
 · cases h
 rename_i cc cv hg hgv
 split at h
 rotate_left
 · cases h
 rename_i cs vs hcs hvs
 split at h
 rotate_left
 · cases h
 rename_i hone
 simp only [Bool.and_eq_true] at hone
 obtain ⟨⟨ho1, ho2⟩, hplain⟩ := hone
 obtain ⟨args'⟩ := args'
 simp only at hargs
 cases hargs with
 | @cons _ A _ l1 hA hargs =>
 cases hargs with
 | @cons _ I _ l2 hI hargs =>
 cases hargs with
 | @cons _ V _ l3 hV hargs =>
 cases hargs
 cases hI
 obtain ⟨lv, hlv, hbv1, hbv2, hbv3, hbv4, hbv5⟩ := hR.obj kv _ hgv
 obtain ⟨lk, hlk, hb1, hb2, hb3, hb4, hb5⟩ := hR.obj k _ hg
 have hne : lv.blk ≠ lk.blk := fun e => hR.inj k kv _ _ lk lv hg hgv hlk hlv hkk rfl e.symm
 have hVa : ∃ vc', V = .slice (some ⟨lv.blk, lv.off + ov, none⟩) 1 vc' := by
  cases hV with
  | @closed _ _ loc _ _ a hl hn ha =>
   rw [hlv] at hl; cases hl
   rcases ha with ha | ha
   · omega
   · exact ⟨_, by rw [ha]⟩
  | @opened _ _ loc _ _ a hl hn hs ha hx =>
   rw [hlv] at hl; cases hl
   rcases ha with ha | ha
   · omega
   · exact ⟨_, by rw [ha]⟩
 obtain ⟨vc', rfl⟩ := hVa
 have hAa : ∃ C, A = .slice (some ⟨lk.blk, lk.off + off, none⟩) n C ∧ n ≤ C ∧ C ≤ 9223372036854775807 ∧ ((sp = none ∧ C = c) ∨ (∃ sz, sp = some sz ∧ sz = lk.sz ∧ C = c + lk.ext ∧ off + c * sz = lk.size)) := by
  cases hA with
  | @closed _ _ loc _ _ a hl hn ha =>
   rw [hlk] at hl; cases hl
   rcases ha with ha | ha
   · omega
   · exact ⟨_, by rw [ha], hn, by omega, .inl ⟨rfl, rfl⟩⟩
  | @opened _ _ loc _ _ a hl hn hs ha hx =>
   rw [hlk] at hl; cases hl
   rcases ha with ha | ha
   · omega
   · exact ⟨_, by rw [ha], by omega, hx, .inr ⟨_, rfl, rfl, rfl, hs⟩⟩
 obtain ⟨C, rfl, hnC, hC63, hsp⟩ := hAa
 have hrd : s.read k off n = some cs := by simp [DS.read, hg, hcs]
 have hrv : s.read kv ov 1 = some vs := by simp [DS.read, hgv, hvs]
 obtain ⟨cs', e1, e2, e3, e4⟩ := Yg hR hrd hlk
 obtain ⟨vs', f1, f2, f3, f4⟩ := Yg hR hrv hlv
 have hcs' : ∀ j v, cs'[j]? = some v → w.cell? ⟨lk.blk, lk.off + off + j, none⟩ = some v := fun j u hu => by have := e4 j u hu; rwa [Addr.add_lit] at this
 have hvs' : ∀ j v, vs'[j]? = some v → w.cell? ⟨lv.blk, lv.off + ov + j, none⟩ = some v := fun j u hu => by have := f4 j u hu; rwa [Addr.add_lit] at this
 have h1c := YP e2 ho1
 have h1v := YP f2 ho2
 have hcl : cs.length = n := by rw [e2.length, e1]
 have hvl : vs.length = 1 := by rw [f2.length, f1]
 have hLrel : LRel β (vs ++ cs.drop i) (vs' ++ cs'.drop i) := f2.append (e2.drop i)
 have hNrel : LRel β (cs.take i ++ (vs ++ cs.drop i)) (cs'.take i ++ (vs' ++ cs'.drop i)) := (e2.take i).append hLrel
 have hLlen : (vs' ++ cs'.drop i).length = n + 1 - i := by simp [f1, e1]; omega
 have hNlen : (cs.take i ++ (vs ++ cs.drop i)).length = n + 1 := by simp [hvl, hcl]; omega
 obtain ⟨u0, hu0⟩ : ∃ u, cs'[0]? = some u := ⟨cs'[0], List.getElem?_eq_getElem (by omega)⟩
 obtain ⟨uv, huv⟩ : ∃ u, vs'[0]? = some u := ⟨vs'[0], List.getElem?_eq_getElem (by omega)⟩
 obtain ⟨tB, kB, hsb, hkB⟩ := K3 (hcs' 0 _ hu0)
 obtain ⟨tA, kA, hsa, hkA⟩ := K3 (hvs' 0 _ huv)
 have hpl := (hbv5 rfl hplain).1
 have inplace : n + 1 ≤ C → (∀ j, j < n + 1 → (∃ u, w.cell? ⟨lk.blk, lk.off + off + j, none⟩ = some u) ∧ w.frozen? ⟨lk.blk, lk.off + off + j, none⟩ = false) →
  CallsIn Fence.wide 0 P (ρ.f 21) #[.slice (some ⟨lk.blk, lk.off + off, none⟩) n C, .int .i64 i, .slice (some ⟨lv.blk, lv.off + ov, none⟩) 1 vc'] w fun e w'' =>
   e = .returned (.slice (some ⟨lk.blk, lk.off + off, none⟩) (n + 1) C) ∧ Vk w w'' lk.blk (lk.off + off + i) (vs' ++ cs'.drop i) := by
  intro hroom hcell
  refine callsIn_wide.2 ?_
  refine (Any2.slices_Insert_int_shift L lk.blk (lk.off + off) n C i lv.blk (lv.off + ov) 1 vc' cs' vs' w hin (by omega) hroom hC63 hne e1 f1 hcs' (fun j hj => by
   obtain ⟨⟨u, hu⟩, _⟩ := hcell j hj
   rw [hu]; rfl) (fun j hj => (hcell j hj).2) hvs' h1c h1v tA tB kA kB hsa hsb (by omega) (hpl _) (hpl _)).mono ?_
  rintro e w'' ⟨rfl, rfl⟩
  refine ⟨rfl, ?_⟩
  have hd : Vk w w.drew lk.blk (lk.off + off + i + vs'.length) [] := ⟨rfl, fun _ _ => rfl, rfl, rfl, rfl, fun q => by rw [if_neg (by simp)]; rfl, fun _ => rfl, rfl⟩
  have h1 : Vk w.drew (w.drew.setCells lk.blk (lk.off + off + (i + 1)) (cs'.drop i)) lk.blk (lk.off + off + (i + 1)) (cs'.drop i) := Xf _ _ _ _ (fun j hj => by
   have hj' : j < n - i := by simpa [e1] using hj
   have := (hcell (i + 1 + j) (by omega)).1
   rwa [← Nat.add_assoc] at this)
  have h1' : Vk w (w.drew.setCells lk.blk (lk.off + off + (i + 1)) (cs'.drop i)) lk.blk (lk.off + off + i + vs'.length) (cs'.drop i) := by
   have e0 : lk.off + off + i + vs'.length = lk.off + off + (i + 1) := by rw [f1, Nat.add_assoc]
   rw [e0]
   exact ⟨h1.size, h1.other, h1.os, h1.tape, h1.output, h1.cell, h1.frozen, h1.rng⟩
  refine h1'.join (Xf _ _ _ _ (fun j hj => ?_))
  have hj0 : j = 0 := by omega
  subst hj0
  rw [h1'.cell, if_neg (by omega)]
  have := (hcell i (by omega)).1
  exact this
 have grown : C < n + 1 → ∀ (cc2 : Cells) (sx : DS), ((∀ j v, cc2.get j = some v → (cs.take i ++ (vs ++ cs.drop i))[j]? = some v) ∧ cc2.size = (cs.take i ++ (vs ++ cs.drop i)).length) → Rel P β sx.get w → β sx.next = none →
  CallsIn Fence.wide 0 P (ρ.f 21) #[.slice (some ⟨lk.blk, lk.off + off, none⟩) n C, .int .i64 i, .slice (some ⟨lv.blk, lv.off + ov, none⟩) 1 vc'] w fun e w'' =>
   ∃ v', e = .returned v' ∧ ∃ β', VRel β' (.slice (some ⟨sx.next, 0, some 1⟩) (n + 1) (n + 1)) v' ∧ Step P β sx.get sx.next w β' (sx.new (.cells cc2 false)).get (sx.new (.cells cc2 false)).next w'' := by
  intro hroom cc2 sx hcc hRx hfx
  refine callsIn_wide.2 ?_
  refine (Any2.slices_Insert_int_grow L lk.blk (lk.off + off) n C i lv.blk (lv.off + ov) 1 vc' cs' vs' w hin (by omega) hnC hroom (by omega) e1 f1 hcs' hvs' h1c h1v).mono ?_
  rintro e w'' ⟨rfl, rfl⟩
  generalize hG : grownCap w (n + 1) C (ρ.t 3) = G
  have hGe : n + 1 ≤ G := by rw [← hG]; exact grownCap_ge w (n + 1) C (ρ.t 3)
  have hGm : G ≤ 9223372036854775807 := by
   rw [← hG]
   have := grownCap_le_maxLen w (n + 1) C (ρ.t 3) (by simp only [maxLen]; omega)
   simpa only [maxLen] using this
  generalize hrow : ((cs'.take i).toArray ++ Builtin.zeroCells (Value.int .i64 0).cells (n + 1 - i) ++ Builtin.zeroCells (Value.int .i64 0).cells (G - (n + 1))) = ROW
  have hROW : ROW.size = G := by
   rw [← hrow]
   simp [Builtin.zeroCells, Value.cells, e1]
   omega
  obtain ⟨a1, a2, a3, a4⟩ := XH w.heap (ρ.t 3) vs' ROW i (w.alloc (.cells ROW (ρ.t 3))).drew rfl
  obtain ⟨b1, b2, b3, b4⟩ := XH w.heap (ρ.t 3) (cs'.drop i) _ (i + 1) _ (show (((w.alloc (.cells ROW (ρ.t 3))).drew.setCells w.heap.size i vs').drew).heap = _ from a1)
  have harr : ∃ more : List Value, (Vb (Vb ROW i vs') (i + 1) (cs'.drop i)).toList = (cs'.take i ++ (vs' ++ cs'.drop i)) ++ more ∧ more.length = (G - (n + 1)) * 1 := by
   refine ⟨(Vb (Vb ROW i vs') (i + 1) (cs'.drop i)).toList.drop (n + 1), ?_, ?_⟩
   · have hlen : (cs'.take i ++ (vs' ++ cs'.drop i)).length = n + 1 := by simp [f1, e1]; omega
     refine (List.take_append_drop (n + 1) _).symm.trans ?_
     congr 1
     apply List.ext_getElem?
     intro j
     rw [List.getElem?_take, CE _ _ _ _ (by omega)]
     by_cases hj : j < n + 1
     · rw [if_pos hj, Array.getElem?_toList, Kh _ _ _ _ (by rw [Jd]; simp [e1]; omega), Kh _ _ _ _ (by omega)]
       by_cases c1 : j < i
       · rw [if_pos c1, if_neg (by omega), if_neg (by omega), ← hrow]
         rw [Array.getElem?_append_left (by simp [Builtin.zeroCells, Value.cells, e1]; omega), Array.getElem?_append_left (by simp [e1]; omega)]
         simp [c1]
       · rw [if_neg c1]
         by_cases c2 : j = i
         · subst c2
           rw [if_neg (by omega), if_pos (by omega), List.getElem?_append_left (by omega)]
         · rw [if_pos (by simp [e1]; omega), List.getElem?_append_right (by omega)]
           congr 1
           omega
     · rw [if_neg hj, if_neg (by omega), List.getElem?_eq_none (by omega)]
   · simp [Jd, hROW]
  obtain ⟨more, hm1, hm2⟩ := harr
  have st := row_step (P := P) (w' := ((((w.alloc (.cells ROW (ρ.t 3))).drew.setCells w.heap.size i vs').drew).setCells w.heap.size (i + 1) (cs'.drop i))) (ext := G - (n + 1)) (sz := 1) (fr := (0, 0)) hRx hfx b1 (b2.trans a2) (b3.trans a3) (b4.trans a4) hm1 hNrel hcc hm2 (.inl rfl)
  refine ⟨_, rfl, _, ?_, st⟩
  have hv := VRel.opened (β := β.upd sx.next ⟨w.heap.size, 0, G - (n + 1), 1, (cs.take i ++ (vs ++ cs.drop i)).length⟩) (k := sx.next) (off := 0) (l := ⟨w.heap.size, 0, G - (n + 1), 1, (cs.take i ++ (vs ++ cs.drop i)).length⟩) (n := n + 1) (c := n + 1) (a := ⟨w.heap.size, 0, none⟩)
   (Emb.upd_same _ _ _) (Nat.le_refl _) (by show 0 + (n + 1) * 1 = (cs.take i ++ (vs ++ cs.drop i)).length; rw [hNlen]; omega) (.inr rfl) (by show n + 1 + (G - (n + 1)) ≤ 9223372036854775807; omega)
  have hx : n + 1 + (G - (n + 1)) = G := by omega
  simp only [hx] at hv
  exact hv
 split at h
 · rename_i hnc
   have hnc := YO hnc
   split at h
   · rename_i s1 hw
     cases h
     have hwb : off + i + (vs ++ cs.drop i).length ≤ lk.size := by
      have hw2 := hw
      unfold DS.write at hw2
      rw [hg] at hw2
      simp only at hw2
      split at hw2
      · rename_i hle
        rw [← hb2]; exact Nat.le_of_ble_eq_true hle
      · cases hw2
     have hll : (vs ++ cs.drop i).length = n + 1 - i := by simp [hvl, hcl]; omega
     have hroomC : n + 1 ≤ C := by
      rcases hsp with ⟨_, e⟩ | ⟨_, _, _, e, _⟩ <;> omega
     refine CallsIn.mono (F := Fence.wide) (inplace hroomC (fun j hj => by
      have := hb4 rfl (off + j) (by omega)
      rwa [← Nat.add_assoc] at this)) ?_
     rintro e w'' ⟨rfl, hs⟩
     refine ⟨_, rfl, β, ?_, Dw hR hw hLrel hlk (by rw [← Nat.add_assoc]; exact hs)⟩
     rcases hsp with ⟨rfl, rfl⟩ | ⟨sz, rfl, rfl, rfl, hs2⟩
     · exact .closed hlk (by omega) (.inr rfl)
     · exact .opened hlk (by omega) hs2 (.inr rfl) hC63
   · cases h
 · rename_i hnc
   have hnc : ¬ n < c := fun e => hnc ((zX _ _).2 e)
   split at h
   · cases h
     have hCc : C = c := by
      rcases hsp with ⟨_, e⟩ | ⟨_, e, _⟩
      · exact e
      · cases e
     exact grown (by omega) _ s (Zc _) hR (hf s.next (Nat.le_refl _) (Nat.lt_succ_self _))
   · rename_i sz
     split at h
     · rename_i hsz
       have hsz := Nat.eq_of_beq_eq_true hsz
       subst hsz
       split at h
       · rename_i s1 hkl
         cases h
         obtain ⟨C2, hC2, hoff⟩ : 1 = lk.sz ∧ C = c + lk.ext ∧ off + c * 1 = lk.size := by
          rcases hsp with ⟨e, _⟩ | ⟨sz, e, e2, e3, e4⟩
          · cases e
          · cases e; exact ⟨e2, e3, e4⟩
         have hnk : s1.next = s.next := DS.kill_next hkl
         have hfn : β s1.next = none := by rw [hnk]; exact hf s.next (Nat.le_refl _) (by show s.next < s1.next + 1; omega)
         by_cases hroom : n + 1 ≤ C
         · have hcell : ∀ j, j < n + 1 → (∃ u, w.cell? ⟨lk.blk, lk.off + off + j, none⟩ = some u) ∧ w.frozen? ⟨lk.blk, lk.off + off + j, none⟩ = false := by
            intro j hj
            have := hb4 rfl (off + j) (by rw [← C2]; omega)
            rwa [← Nat.add_assoc] at this
           refine CallsIn.mono (F := Fence.wide) (inplace hroom hcell) ?_
           rintro e w'' ⟨rfl, hs⟩
           generalize hxt : C - (n + 1) = ext
           have st := Step.regrow (P := P) (w' := w'') (o' := .cells (cc.like (cs.take i ++ (vs ++ cs.drop i))) false) (l' := ⟨lk.blk, lk.off + off, ext, 1, n + 1⟩) hR hg rfl hlk hkl hfn rfl hs.size hs.other hs.os hs.tape hs.output rfl (by
            have hlb := Emb.le_upd (l := ⟨lk.blk, lk.off + off, ext, 1, n + 1⟩) hfn
            refine ⟨by show lk.blk < w''.heap.size; rw [hs.size]; exact hb1, (ZM cc _).2.trans hNlen, ?_, ?_, fun _ hp => ⟨fun j => by rw [hs.frozen]; exact (hb5 rfl (by rw [← YL cc (cs.take i ++ (vs ++ cs.drop i))]; exact hp)).1 j, by show Xy w'' lk.blk = true; rw [hs.rng]; exact (hb5 rfl (by rw [← YL cc (cs.take i ++ (vs ++ cs.drop i))]; exact hp)).2⟩⟩
            · intro j x hx
              have hx := (ZM cc _).1 j x hx
              obtain ⟨x', g1, g2⟩ := hNrel.get? hx
              refine ⟨x', ?_, g2.mono hlb⟩
              show w''.cell? ⟨lk.blk, lk.off + off + j, none⟩ = some x'
              rw [hs.cell, hLlen]
              rw [CE _ _ _ _ (by omega)] at g1
              by_cases c1 : j < i
              · rw [if_pos c1] at g1
                rw [if_neg (by omega)]
                exact hcs' j x' g1
              · rw [if_neg c1] at g1
                have hlt : j - i < (vs' ++ cs'.drop i).length := (List.getElem?_eq_some_iff.1 g1).1
                rw [if_pos (by omega), show lk.off + off + j - (lk.off + off + i) = j - i from by omega]
                exact g1
            · intro _ j hj
              have hj : j < n + 1 + ext * 1 := hj
              obtain ⟨⟨u, hu⟩, hfz⟩ := hb4 rfl (off + j) (by rw [← C2]; omega)
              rw [← Nat.add_assoc] at hu hfz
              show (∃ u, w''.cell? ⟨lk.blk, lk.off + off + j, none⟩ = some u) ∧ w''.frozen? ⟨lk.blk, lk.off + off + j, none⟩ = false
              rw [hs.frozen, hs.cell]
              refine ⟨?_, hfz⟩
              by_cases c1 : lk.off + off + i ≤ lk.off + off + j ∧ lk.off + off + j < lk.off + off + i + (vs' ++ cs'.drop i).length
              · rw [if_pos c1]
                exact ⟨_, List.getElem?_eq_getElem (by omega)⟩
              · rw [if_neg c1]; exact ⟨u, hu⟩)
           refine ⟨_, rfl, _, ?_, st⟩
           have hv := VRel.opened (β := β.upd s1.next ⟨lk.blk, lk.off + off, ext, 1, n + 1⟩) (k := s1.next) (off := 0) (l := ⟨lk.blk, lk.off + off, ext, 1, n + 1⟩) (n := n + 1) (c := n + 1) (a := ⟨lk.blk, lk.off + off, none⟩)
            (Emb.upd_same _ _ _) (Nat.le_refl _) (by show 0 + (n + 1) * 1 = n + 1; omega) (.inr rfl) (by show n + 1 + ext ≤ 9223372036854775807; omega)
           have hx : n + 1 + ext = C := by omega
           simp only [hx] at hv
           exact hv
         · have hkst := Step.kill (P := P) hR hkl
           refine CallsIn.mono (F := Fence.wide) (grown (by omega) (cc.like (cs.take i ++ (vs ++ cs.drop i))) s1 (ZM cc _) hkst.rel hfn) ?_
           rintro e w'' ⟨v', he, β', hv, st⟩
           exact ⟨v', he, β', hv, hkst.trans st⟩
       · cases h
     · cases h
theorem MU (L : Lays2.n21 P ρ) (hbody : ∀ X w, (callFunc (ρ.f 21) X).run P w = .ok (.enter (ρ.f 21) X) w) : WA P (ρ.f 21) D0 :=
 ⟨fun _ _ _ _ h => T3 h, hbody, fun _ _ _ _ h _ _ _ hargs hR hf => T2 L h hargs hR hf⟩
end
end Go.Dx
