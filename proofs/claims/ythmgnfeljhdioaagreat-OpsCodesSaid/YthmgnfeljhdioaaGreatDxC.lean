/- A part. -/
import Derived.Test.YthmgnfeljhdioaaGreatDxF
import Derived.Test.YthmgnfeljhdioaaGreatDxIns
import Derived.Test.YthmgnfeljhdioaaGreatDxSearch
set_option linter.unusedVariables false
set_option linter.unusedSimpArgs false
set_option linter.unusedSectionVars false
namespace Go.Dx
open Go
structure Wz (s : DS) (sz : Nat) (l : List (List Value)) (b : Nat) (sp : Option Nat) (c : Nat) (ext : List Value) : Prop where
 sp : sp = none ∨ sp = some sz
 get : s.get b = some (.cells (.list (l.flatten ++ ext)) false)
 wr : s.wr b = true
 all : (l.flatten ++ ext).length = c * sz
 le : l.length ≤ c
 top : c ≤ 1099511627776
def SlC (s : DS) (sz : Nat) (v : Value) (l : List (List Value)) : Prop :=
 (v = .slice none 0 0 ∧ l = []) ∨ ∃ b sp c ext, v = .slice (some ⟨b, 0, sp⟩) l.length c ∧ Wz s sz l b sp c ext
theorem QM : ∀ (l : List Value) (i : Nat) (v : Value), zA l i v = l.set i v
 | [], _, _ => rfl
 | _ :: _, 0, _ => rfl
 | x :: l, i + 1, v => by simp [zA, QM l i v]
theorem Vz : ∀ (vs l : List Value) (off : Nat), off + vs.length ≤ l.length → (Cells.list l).fillFrom off vs = .list (l.take off ++ (vs ++ l.drop (off + vs.length)))
 | [], l, off, _ => by simp [Cells.fillFrom]
 | v :: vs, l, off, h => by
  simp only [List.length_cons] at h
  unfold Cells.fillFrom
  simp only [Cells.set, QM]
  rw [Vz vs (l.set off v) (off + 1) (by simp; omega)]
  congr 1
  have h1 : (l.set off v).take (off + 1) = l.take off ++ [v] := by
   rw [List.take_add_one, List.take_set_of_le (Nat.le_refl _)]
   simp [show off < l.length by omega]
  have h2 : (l.set off v).drop (off + 1 + vs.length) = l.drop (off + (vs.length + 1)) := by
   rw [List.drop_set_of_lt (by omega)]
   congr 1; omega
  rw [h1, h2]
  simp
section
variable {s s' : DS} {sz : Nat} {v : Value} {l : List (List Value)} {F : List Nat}
theorem Wz.of {b : Nat} {sp : Option Nat} {c : Nat} {ext : List Value} (h : Wz s sz l b sp c ext) (hg : s'.get b = s.get b) (hw : s.wr b = true → s'.wr b = true) : Wz s' sz l b sp c ext :=
 ⟨h.sp, hg.trans h.get, hw h.wr, h.all, h.le, h.top⟩
theorem Wz.ext {b : Nat} {sp : Option Nat} {c : Nat} {ext : List Value} (h : Wz s sz l b sp c ext) (ho : Za sz l) : ext.length = (c - l.length) * sz := by
 have h1 := h.all
 rw [List.length_append, ho.flat] at h1
 rw [Nat.sub_mul]; omega
theorem SlC.nil : SlC s sz (.slice none 0 0) [] := .inl ⟨rfl, rfl⟩
theorem SlX.room (h : SlX s sz v l) (ho : Za sz l) (hl : l.length ≤ 1099511627776) : SlC s sz v l := by
 rcases h with h | ⟨b, sp, rfl, h1, h2, h3⟩
 · exact .inl h
 · exact .inr ⟨b, sp, l.length, [], rfl, h1, by rw [List.append_nil]; exact h2, h3, by rw [List.append_nil]; exact ho.flat, Nat.le_refl _, hl⟩
theorem SlC.of (h : SlC s sz v l) (hd : ∀ k, k ∈ blk v → s'.get k = s.get k ∧ (s.wr k = true → s'.wr k = true)) : SlC s' sz v l := by
 rcases h with h | ⟨b, sp, c, ext, rfl, h⟩
 · exact .inl h
 · have := hd b (by simp [blk])
   exact .inr ⟨b, sp, c, ext, rfl, h.of this.1 this.2⟩
theorem SlC.keep (h : SlC s sz v l) (e : Ext F s s') (hd : ∀ k, k ∈ blk v → k ∉ F) : SlC s' sz v l := by
 rcases h with h | ⟨b, sp, c, ext, rfl, h⟩
 · exact .inl h
 · exact .inr ⟨b, sp, c, ext, rfl, h.sp, e.keep h.get (hd b (by simp [blk])), e.wrs h.wr, h.all, h.le, h.top⟩
theorem SlC.lt (h : SlC s sz v l) : ∀ k, k ∈ blk v → k < s.next := by
 rcases h with ⟨rfl, _⟩ | ⟨b, sp, c, ext, rfl, h⟩
 · exact fun k hk => by simp [blk] at hk
 · exact fun k hk => by simp [blk] at hk; subst hk; exact DS.get_lt' h.get
theorem SlC.shape (h : SlC s sz v l) : ∃ a c, v = .slice a l.length c := by
 rcases h with ⟨rfl, rfl⟩ | ⟨b, sp, c, ext, rfl, _⟩
 · exact ⟨_, _, rfl⟩
 · exact ⟨_, _, rfl⟩
theorem SlC.read (h : SlC s sz v l) (ho : Za sz l) {i j : Nat} {x : List Value} {y : Value} (hx : l[i]? = some x) (hy : x[j]? = some y) :
 ∃ b sp c ext, v = .slice (some ⟨b, 0, sp⟩) l.length c ∧ Wz s sz l b sp c ext ∧ getN (l.flatten ++ ext) (i * sz + j) = some y := by
 rcases h with ⟨_, rfl⟩ | ⟨b, sp, c, ext, rfl, h⟩
 · simp at hx
 · refine ⟨b, sp, c, ext, rfl, h, ?_⟩
   have := FK ho.len hx hy
   rw [Wa] at this ⊢
   rw [List.getElem?_append_left (List.getElem?_eq_some_iff.1 this).1]
   exact this
theorem Wz.part {b : Nat} {sp : Option Nat} {c : Nat} {ext : List Value} (h : Wz s sz l b sp c ext) (ho : Za sz l) {i j : Nat} (hij : i ≤ j) (hj : j ≤ l.length) : s.read b (0 + i * sz) ((j - i) * sz) = some ((l.take j).drop i).flatten := by
 have hf := ho.flat
 have hle : i * sz + (j - i) * sz ≤ l.flatten.length := by
  rw [hf, ← Nat.add_mul]
  exact Nat.mul_le_mul_right _ (by omega)
 unfold DS.read
 rw [h.get]
 simp only [Nat.zero_add]
 rw [Y9 _ _ _ (by rw [List.length_append]; omega), List.drop_append, List.take_append_of_le_length (by rw [List.length_drop]; omega), Ws i ho.len, QX (j - i) (fun x hx => ho.len x (List.mem_of_mem_drop hx)), List.drop_take]
theorem SlC.view (h : SlC s sz v l) (ho : Za sz l) : SlV s sz v l := by
 rcases h with h | ⟨b, sp, c, ext, rfl, h⟩
 · exact .inl h
 · refine .inr ⟨b, 0, sp, _, rfl, ?_⟩
   have := h.part ho (i := 0) (j := l.length) (Nat.zero_le _) (Nat.le_refl _)
   simpa using this
end
section
variable {s s' : DS} {sz : Nat} {v : Value} {l : List (List Value)} {F : List Nat}
def ints (l : List Int) : List (List Value) := l.map fun n => [.int .i64 n]
theorem CY (l : List Int) : Za 1 (ints l) := ⟨fun x hx => by obtain ⟨y, _, rfl⟩ := List.mem_map.1 hx; rfl, fun x hx => by obtain ⟨y, _, rfl⟩ := List.mem_map.1 hx; rfl⟩
theorem Fw (l : List Int) : (ints l).length = l.length := List.length_map ..
theorem Jk : ∀ (l : List Int), (ints l).flatten = l.map fun n => .int .i64 n
 | [] => rfl
 | x :: l => by
  have := Jk l
  unfold ints at this ⊢
  simp [this]
end
section
variable {s s' : DS} {sz : Nat} {v : Value} {l : List (List Value)} {F : List Nat}
theorem To {bytes : Nat} {vx vy : Value} {lx ly : List (List Value)} (hx : SlC s sz vx lx) (hy : SlV s sz vy ly) (ox : Za sz lx) (oy : Za sz ly) (hG : s.Good) (hn : lx.length + ly.length ≤ 1099511627776) (hb : (lx.length + ly.length) * bytes ≤ 1099511627776) :
 W (Jp bytes sz vx vy s) fun r => SlC r.2 sz r.1 (lx ++ ly) ∧ Ext (blk vx) s r.2 ∧ (∀ k, k ∈ blk r.1 → k ∈ blk vx ∨ s.next ≤ k) ∧ ∀ a n c, vx = .slice a n c → lx.length + ly.length ≤ c → r.1 = .slice a (lx.length + ly.length) c := by
 by_cases hly : ly = []
 · subst hly
   obtain ⟨hl, hs⟩ := Wi hy
   simp only [List.length_nil, List.flatten_nil] at hl hs
   have hf : (Nat.beq ([] : List Value).length (0 * sz) && zh []) = true := by simp [zh]
   rw [List.append_nil]
   rcases hx with ⟨rfl, rfl⟩ | ⟨b, sp, c, ext, rfl, h⟩
   · exact W.intro (a := (.slice none 0 0, s)) (by simp only [Jp, zl, hl, hs, hf, Bool.not_true, z3, if_false]; rfl) ⟨.nil, .refl, fun k hk => .inl hk, fun a n c e _ => by cases e; rfl⟩
   · have hle : Nat.ble (lx.length + 0) c = true := Nat.ble_eq.mpr h.le
     refine W.intro (a := (.slice (some ⟨b, 0, sp⟩) lx.length c, s)) ?_ ⟨.inr ⟨b, sp, c, ext, rfl, h⟩, .refl, fun k hk => .inl hk, fun a n c' e _ => by cases e; rfl⟩
     simp only [Jp, zl, hl, hs, hf, hle, Bool.not_true, z3, if_false, if_true]
     rfl
 · rcases hx with ⟨rfl, rfl⟩ | ⟨b, sp, c, ext, rfl, h⟩
   · refine W.mono (Qj (.inl ⟨rfl, rfl⟩) hy ox oy hG hn hb) ?_
     rintro ⟨v1, s1⟩ ⟨h1, h2, h3⟩
     exact ⟨h1.room (ox.append oy) (by rw [List.length_append]; exact hn), h2, h3, fun a n c e hc => by cases e; simp at hc; exact absurd hc hly⟩
   · have hpos : 0 < ly.length := List.length_pos_iff.2 hly
     by_cases hc : lx.length + ly.length ≤ c
     · obtain ⟨hl, hs⟩ := Wi hy
       have hf : (Nat.beq ly.flatten.length (ly.length * sz) && zh ly.flatten) = true := by rw [oy.flat, oy.ones]; simp
       have hle : Nat.ble (lx.length + ly.length) c = true := Nat.ble_eq.mpr hc
       have hz : Nat.beq ly.length 0 = false := Pp (by omega)
       have hxf := ox.flat
       have hyf := oy.flat
       have hall := h.all
       rw [List.length_append] at hall
       have hsz : (lx.length + ly.length) * sz ≤ c * sz := Nat.mul_le_mul_right _ hc
       rw [Nat.add_mul] at hsz
       have hw : s.write b (0 + lx.length * sz) ly.flatten = some (s.upd b (.cells (.list ((lx ++ ly).flatten ++ ext.drop ly.flatten.length)) false)) := by
        rw [DS.write_eq]
        unfold DS.wrC
        rw [h.get]
        have e1 : (Nat.ble (0 + lx.length * sz + ly.flatten.length) (Cells.list (lx.flatten ++ ext)).size && s.wr b) = true := by
         rw [h.wr, Bool.and_true]
         refine Nat.ble_eq.mpr ?_
         show _ ≤ (lx.flatten ++ ext).length
         rw [List.length_append]; omega
        simp only [e1, if_true]
        have e2 : (lx.flatten ++ ext).take (0 + lx.length * sz) ++ (ly.flatten ++ (lx.flatten ++ ext).drop (0 + lx.length * sz + ly.flatten.length)) = (lx ++ ly).flatten ++ ext.drop ly.flatten.length := by
         rw [Nat.zero_add, ← hxf, List.take_left, List.flatten_append, List.append_assoc, List.drop_append, List.drop_eq_nil_of_le (by omega), List.nil_append, show lx.flatten.length + ly.flatten.length - lx.flatten.length = ly.flatten.length by omega]
        rw [Vz _ _ _ (by rw [List.length_append]; omega), e2]
       refine W.intro (a := (.slice (some ⟨b, 0, sp⟩) (lx.length + ly.length) c, s.upd b (.cells (.list ((lx ++ ly).flatten ++ ext.drop ly.flatten.length)) false))) ?_ ⟨.inr ⟨b, sp, c, ext.drop ly.flatten.length, by rw [List.length_append], h.sp, ?_, ?_, ?_, by rw [List.length_append]; exact hc, h.top⟩, Ext.upd (.inl (by simp [blk])), fun k hk => .inl (by simpa [blk] using hk), fun a n c' e _ => by cases e; rfl⟩
       · simp only [Jp, zl, hl, hs, hf, hle, hz, hw, Bool.not_true, z3, if_false, if_true]
       · simp only [DS.upd_get_self, h.get, Option.map_some]
       · simp only [DS.upd_wr, h.wr]
       · rw [List.flatten_append, List.length_append, List.length_append, List.length_drop]; omega
     · by_cases hlc : lx.length = c
       · subst hlc
         have he : ext = [] := List.eq_nil_of_length_eq_zero (by rw [h.ext ox]; simp)
         subst he
         have hg := h.get
         rw [List.append_nil] at hg
         refine W.mono (Qj (.inr ⟨b, sp, rfl, h.sp, hg, h.wr⟩) hy ox oy hG hn hb) ?_
         rintro ⟨v1, s1⟩ ⟨h1, h2, h3⟩
         exact ⟨h1.room (ox.append oy) (by rw [List.length_append]; exact hn), h2, h3, fun a n c e hc' => by cases e; exact absurd hc' hc⟩
       · obtain ⟨hl, hs⟩ := Wi hy
         have hf : (Nat.beq ly.flatten.length (ly.length * sz) && zh ly.flatten) = true := by rw [oy.flat, oy.ones]; simp
         have hle : Nat.ble (lx.length + ly.length) c = false := by rw [Zk]; omega
         have h1 : Nat.ble (lx.length + ly.length) 1099511627776 = true := Nat.ble_eq.mpr hn
         have h2 : Nat.ble ((lx.length + ly.length) * bytes) 1099511627776 = true := Nat.ble_eq.mpr hb
         have hnew : ∀ o, (s.new o).get s.next = some o := fun o => DS.new_get_self hG
         have hwn : s.wr s.next = true := (hG _ (Nat.le_refl _)).2
         have hl2 : (lx ++ ly).length = lx.length + ly.length := List.length_append
         have hfl : (lx ++ ly).flatten = lx.flatten ++ ly.flatten := List.flatten_append
         have hrd := h.part ox (i := 0) (j := lx.length) (Nat.zero_le _) (Nat.le_refl _)
         simp only [Nat.zero_mul, Nat.add_zero, Nat.sub_zero, List.take_length, List.drop_zero] at hrd
         have hfin : ∀ (S : DS) (N : Nat), S.get N = some (.cells (.list (lx.flatten ++ ly.flatten)) false) → S.wr N = true → SlC S sz (.slice (some ⟨N, 0, some sz⟩) (lx.length + ly.length) (lx.length + ly.length)) (lx ++ ly) := fun S N hg hw =>
          .inr ⟨N, some sz, _, [], by rw [hl2], .inr rfl, by rw [List.append_nil, hfl]; exact hg, hw, by rw [List.append_nil, (ox.append oy).flat, hl2], by rw [hl2]; exact Nat.le_refl _, hn⟩
         rcases h.sp with rfl | rfl
         · refine W.intro (a := (.slice (some ⟨s.next, 0, some sz⟩) (lx.length + ly.length) (lx.length + ly.length), s.new (.cells (.list (lx.flatten ++ ly.flatten)) false))) ?_ ⟨hfin _ _ (hnew _) hwn, Ext.new, fun k hk => .inr (by simp [blk] at hk; omega), fun a n c' e hc' => by cases e; exact absurd hc' hc⟩
           simp only [Jp, zl, hl, hs, hf, hle, h1, h2, Bool.not_true, z3, if_false, if_true, Bool.and_self, hrd, ox.ones]
         · have hk : s.kill b = some (s.rid b) := DS.kill_rid (by rw [h.get]; rfl) h.wr
           have hnew2 : ∀ o, ((s.rid b).new o).get s.next = some o := fun o => by
            have := DS.new_get_self (s := s.rid b) (o := o) (by rw [DS.rid_good]; exact hG)
            rwa [DS.rid_next] at this
           have hr : (Cells.list (lx.flatten ++ ext)).take 0 (lx.length * sz) = some lx.flatten := by
            unfold DS.read at hrd
            rw [h.get] at hrd
            simpa using hrd
           refine W.intro (a := (.slice (some ⟨s.next, 0, some sz⟩) (lx.length + ly.length) (lx.length + ly.length), (s.rid b).new (.cells (.list (lx.flatten ++ ly.flatten)) false))) ?_ ⟨hfin _ _ (hnew2 _) (by rw [DS.new_wr, DS.rid_wr]; exact hwn), (Ext.rid (F := [b]) (.inl (by simp))).trans' Ext.new, fun k hk => .inr (by simp [blk] at hk; omega), fun a n c' e hc' => by cases e; exact absurd hc' hc⟩
           simp only [Jp, zl, hl, hs, hf, hle, h1, h2, Bool.not_true, z3, if_false, if_true, Bool.and_self, Nat.beq_refl, h.get, hr, hk, ox.ones, Cells.like, Cells.plain, DS.rid_next]
def RJ {α : Type} (l : List α) (i : Nat) (x : α) : List α := l.take i ++ x :: l.drop i
theorem T4 {α : Type} {l : List α} {i : Nat} {x : α} (h : i ≤ l.length) : (RJ l i x).length = l.length + 1 := by
 unfold RJ
 rw [List.length_append, List.length_take, List.length_cons, List.length_drop]; omega
theorem SlC.shape' (h : SlC s sz v l) : ∃ a c, v = .slice a l.length c ∧ l.length ≤ c := by
 rcases h with ⟨rfl, rfl⟩ | ⟨b, sp, c, ext, rfl, h⟩
 · exact ⟨none, 0, rfl, Nat.le_refl _⟩
 · exact ⟨_, _, rfl, h.le⟩
end
end Go.Dx
