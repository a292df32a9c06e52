/- A part. -/
import Derived.Test.YtpfkbiaikfbpeaaGreatDxF
import Derived.Test.YtpfkbiaikfbpeaaGreatDxIns
import Derived.Test.YtpfkbiaikfbpeaaGreatDxSearch
set_option linter.unusedVariables false
set_option linter.unusedSimpArgs false
set_option linter.unusedSectionVars false
namespace Go.Dx
open Go
theorem RO {E : Env} {d g : Nat} {fn : zp} {F : List Value → DS → Option (Value × DS)} {args : List Value} {s : DS} {Q : Value × DS → Prop} (hi : E.intr g = some F) (hn : F args s = none) (hf : E.fn g = some fn) (hl : Nat.ble args.length fn.ntmps = true) :
 W (dcall E (d + 1) (.func (.func g) #[] #[]) args s) Q = WC (dcall E d) E.lf false fn.body ⟨W4 args, s, []⟩ (Ends fn.results Q) := by
 simp only [dcall, hi, hf, hl, if_true, List.append_nil, List.nil_append, hn]
 unfold WC
 cases Zf (dcall E d) E.lf false fn.body ⟨W4 args, s, []⟩ with
 | none => simp only [Yu]
 | some p =>
  obtain ⟨e, x⟩ := p
  have key : W (match ZD x.s x.defers with | some s' => (match zo x.t s' fn.results with | some vs => some (zz vs, s') | none => none) | none => none) Q = W (ZD x.s x.defers) fun s' => W (zo x.t s' fn.results) fun vs => Q (zz vs, s') := by
   cases ZD x.s x.defers with
   | none => simp only [Yu]
   | some s' =>
    simp only [zi]
    cases zo x.t s' fn.results <;> simp only [zi, Yu]
  cases e with
  | exit i => simp only [zi, Yu, Ends]
  | normal => simp only [zi, Ends]; exact key
  | ret => simp only [zi, Ends]; exact key
structure Qe (s : DS) (sz : Nat) (l : List (List Value)) (b : Nat) (sp : Option Nat) (c : Nat) (ext : List Value) : Prop where
 sp : sp = none ∨ sp = some sz
 get : s.get b = some (.cells (.list (l.flatten ++ ext)) false)
 wr : s.wr b = true
 all : (l.flatten ++ ext).length = c * sz
 le : l.length ≤ c
 top : c ≤ 1099511627776
def SlC (s : DS) (sz : Nat) (v : Value) (l : List (List Value)) : Prop :=
 (v = .slice none 0 0 ∧ l = []) ∨ ∃ b sp c ext, v = .slice (some ⟨b, 0, sp⟩) l.length c ∧ Qe s sz l b sp c ext
theorem QN : ∀ (l : List Value) (i : Nat) (v : Value), Zd l i v = l.set i v
 | [], _, _ => rfl
 | _ :: _, 0, _ => rfl
 | x :: l, i + 1, v => by simp [Zd, QN l i v]
theorem Yg : ∀ (vs l : List Value) (off : Nat), off + vs.length ≤ l.length → (Cells.list l).fillFrom off vs = .list (l.take off ++ (vs ++ l.drop (off + vs.length)))
 | [], l, off, _ => by simp [Cells.fillFrom]
 | v :: vs, l, off, h => by
  simp only [List.length_cons] at h
  unfold Cells.fillFrom
  simp only [Cells.set, QN]
  rw [Yg vs (l.set off v) (off + 1) (by simp; omega)]
  congr 1
  have h1 : (l.set off v).take (off + 1) = l.take off ++ [v] := by
   rw [List.take_add_one, List.take_set_of_le (Nat.le_refl _)]
   simp [show off < l.length by omega]
  have h2 : (l.set off v).drop (off + 1 + vs.length) = l.drop (off + (vs.length + 1)) := by
   rw [List.drop_set_of_lt (by omega)]
   congr 1; omega
  rw [h1, h2]
  simp
section
variable {s s' : DS} {sz : Nat} {v : Value} {l : List (List Value)} {F : List Nat}
theorem Qe.of {b : Nat} {sp : Option Nat} {c : Nat} {ext : List Value} (h : Qe s sz l b sp c ext) (hg : s'.get b = s.get b) (hw : s.wr b = true → s'.wr b = true) : Qe s' sz l b sp c ext :=
 ⟨h.sp, hg.trans h.get, hw h.wr, h.all, h.le, h.top⟩
theorem Qe.ext {b : Nat} {sp : Option Nat} {c : Nat} {ext : List Value} (h : Qe s sz l b sp c ext) (ho : ZR sz l) : ext.length = (c - l.length) * sz := by
 have h1 := h.all
 rw [List.length_append, ho.flat] at h1
 rw [Nat.sub_mul]; omega
theorem SlC.nil : SlC s sz (.slice none 0 0) [] := .inl ⟨rfl, rfl⟩
theorem SlX.room (h : SlX s sz v l) (ho : ZR sz l) (hl : l.length ≤ 1099511627776) : SlC s sz v l := by
 rcases h with h | ⟨b, sp, rfl, h1, h2, h3⟩
 · exact .inl h
 · exact .inr ⟨b, sp, l.length, [], rfl, h1, by rw [List.append_nil]; exact h2, h3, by rw [List.append_nil]; exact ho.flat, Nat.le_refl _, hl⟩
theorem SlC.of (h : SlC s sz v l) (hd : ∀ k, k ∈ blk v → s'.get k = s.get k ∧ (s.wr k = true → s'.wr k = true)) : SlC s' sz v l := by
 rcases h with h | ⟨b, sp, c, ext, rfl, h⟩
 · exact .inl h
 · have := hd b (by simp [blk])
   exact .inr ⟨b, sp, c, ext, rfl, h.of this.1 this.2⟩
theorem SlC.keep (h : SlC s sz v l) (e : Ext F s s') (hd : ∀ k, k ∈ blk v → k ∉ F) : SlC s' sz v l := by
 rcases h with h | ⟨b, sp, c, ext, rfl, h⟩
 · exact .inl h
 · exact .inr ⟨b, sp, c, ext, rfl, h.sp, e.keep h.get (hd b (by simp [blk])), e.wrs h.wr, h.all, h.le, h.top⟩
theorem SlC.lt (h : SlC s sz v l) : ∀ k, k ∈ blk v → k < s.next := by
 rcases h with ⟨rfl, _⟩ | ⟨b, sp, c, ext, rfl, h⟩
 · exact fun k hk => by simp [blk] at hk
 · exact fun k hk => by simp [blk] at hk; subst hk; exact DS.get_lt' h.get
theorem SlC.shape (h : SlC s sz v l) : ∃ a c, v = .slice a l.length c := by
 rcases h with ⟨rfl, rfl⟩ | ⟨b, sp, c, ext, rfl, _⟩
 · exact ⟨_, _, rfl⟩
 · exact ⟨_, _, rfl⟩
theorem SlC.read (h : SlC s sz v l) (ho : ZR sz l) {i j : Nat} {x : List Value} {y : Value} (hx : l[i]? = some x) (hy : x[j]? = some y) :
 ∃ b sp c ext, v = .slice (some ⟨b, 0, sp⟩) l.length c ∧ Qe s sz l b sp c ext ∧ getN (l.flatten ++ ext) (i * sz + j) = some y := by
 rcases h with ⟨_, rfl⟩ | ⟨b, sp, c, ext, rfl, h⟩
 · simp at hx
 · refine ⟨b, sp, c, ext, rfl, h, ?_⟩
   have := KE ho.len hx hy
   rw [Ql] at this ⊢
   rw [List.getElem?_append_left (List.getElem?_eq_some_iff.1 this).1]
   exact this
theorem Qe.part {b : Nat} {sp : Option Nat} {c : Nat} {ext : List Value} (h : Qe s sz l b sp c ext) (ho : ZR sz l) {i j : Nat} (hij : i ≤ j) (hj : j ≤ l.length) : s.read b (0 + i * sz) ((j - i) * sz) = some ((l.take j).drop i).flatten := by
 have hf := ho.flat
 have hle : i * sz + (j - i) * sz ≤ l.flatten.length := by
  rw [hf, ← Nat.add_mul]
  exact Nat.mul_le_mul_right _ (by omega)
 unfold DS.read
 rw [h.get]
 simp only [Nat.zero_add]
 rw [ZL _ _ _ (by rw [List.length_append]; omega), List.drop_append, List.take_append_of_le_length (by rw [List.length_drop]; omega), Qy i ho.len, J1 (j - i) (fun x hx => ho.len x (List.mem_of_mem_drop hx)), List.drop_take]
theorem SlC.view (h : SlC s sz v l) (ho : ZR sz l) : SlV s sz v l := by
 rcases h with h | ⟨b, sp, c, ext, rfl, h⟩
 · exact .inl h
 · refine .inr ⟨b, 0, sp, _, rfl, ?_⟩
   have := h.part ho (i := 0) (j := l.length) (Nat.zero_le _) (Nat.le_refl _)
   simpa using this
end
section
variable {s s' : DS} {sz : Nat} {v : Value} {l : List (List Value)} {F : List Nat}
def ints (l : List Int) : List (List Value) := l.map fun n => [.int .i64 n]
theorem Xh (l : List Int) : ZR 1 (ints l) := ⟨fun x hx => by obtain ⟨y, _, rfl⟩ := List.mem_map.1 hx; rfl, fun x hx => by obtain ⟨y, _, rfl⟩ := List.mem_map.1 hx; rfl⟩
theorem Xg (l : List Int) : (ints l).length = l.length := List.length_map ..
theorem Jf : ∀ (l : List Int), (ints l).flatten = l.map fun n => .int .i64 n
 | [] => rfl
 | x :: l => by
  have := Jf l
  unfold ints at this ⊢
  simp [this]
theorem ints_at {l : List Int} {i : Nat} {x : Int} (h : l[i]? = some x) : (ints l)[i]? = some [.int .i64 x] := by simp [ints, h]
end
section
variable {s s' : DS} {sz : Nat} {v : Value} {l : List (List Value)} {F : List Nat}
theorem Sa (h : SlC s sz v l) (ho : ZR sz l) {lo hi : Option Value} {i j : Nat} (hlo : SM 0 lo = some i) (hhi : SM l.length hi = some j) (hij : i ≤ j) (hj : j ≤ l.length) :
 ∃ w, slV sz v lo hi none = some w ∧ SlV s sz w ((l.take j).drop i) ∧ (∃ a c, w = .slice a (j - i) c) ∧ ∀ k, k ∈ blk w → k ∈ blk v := by
 have hlen : ((l.take j).drop i).length = j - i := by simp; omega
 have hbd : ∀ c, l.length ≤ c → ZQ l.length c lo hi none = some (i, j, c) := by
  intro c hc
  have e2 : Nat.ble j c = true := Nat.ble_eq.mpr (Nat.le_trans hj hc)
  have e1 : Nat.ble i j = true := Nat.ble_eq.mpr hij
  unfold SM at hlo hhi
  unfold ZQ
  split at hhi
  · cases hhi
    split at hlo
    · cases hlo; rfl
    · cases hlo; simp only [Zj, e1, if_true]
    · cases hlo
  · cases hhi
    split at hlo
    · cases hlo; simp only [Zj, e2, if_true]
    · cases hlo; simp only [Zj, e1, e2, if_true]
    · cases hlo
  · cases hhi
 rcases h with ⟨rfl, rfl⟩ | ⟨b, sp, c, ext, rfl, h⟩
 · simp only [List.length_nil] at hj
   obtain rfl : j = 0 := by omega
   obtain rfl : i = 0 := by omega
   refine ⟨.slice none 0 0, ?_, .inl ⟨rfl, rfl⟩, ⟨none, 0, rfl⟩, fun k hk => hk⟩
   have := hbd 0 (Nat.le_refl _)
   simp only [List.length_nil] at this
   unfold slV
   simp only [this]
   rfl
 · have hr := h.part ho hij hj
   rw [← hlen] at hr
   have hb := hbd c h.le
   refine ⟨.slice (some ⟨b, 0 + i * sz, sp⟩) (j - i) (c - i), ?_, .inr ⟨b, 0 + i * sz, sp, c - i, by rw [hlen], hr⟩, ⟨_, _, rfl⟩, fun k hk => by simpa [blk] using hk⟩
   unfold slV
   simp only [hb, Option.isSome_none]
   rcases h.sp with rfl | rfl
   · rfl
   · simp only [Ye, z3, if_false, Nat.beq_refl, if_true]
theorem K8 {bytes : Nat} {vx vy : Value} {lx ly : List (List Value)} (hx : SlC s sz vx lx) (hy : SlV s sz vy ly) (ox : ZR sz lx) (oy : ZR sz ly) (hG : s.Good) (hn : lx.length + ly.length ≤ 1099511627776) (hb : (lx.length + ly.length) * bytes ≤ 1099511627776) :
 W (Kq bytes sz vx vy s) fun r => SlC r.2 sz r.1 (lx ++ ly) ∧ Ext (blk vx) s r.2 ∧ (∀ k, k ∈ blk r.1 → k ∈ blk vx ∨ s.next ≤ k) ∧ ∀ a n c, vx = .slice a n c → lx.length + ly.length ≤ c → r.1 = .slice a (lx.length + ly.length) c := by
 by_cases hly : ly = []
 · subst hly
   obtain ⟨hl, hs⟩ := WA hy
   simp only [List.length_nil, List.flatten_nil] at hl hs
   have hf : (Nat.beq ([] : List Value).length (0 * sz) && allOne []) = true := by simp [allOne]
   rw [List.append_nil]
   rcases hx with ⟨rfl, rfl⟩ | ⟨b, sp, c, ext, rfl, h⟩
   · exact W.intro (a := (.slice none 0 0, s)) (by simp only [Kq, zG, hl, hs, hf, Bool.not_true, z3, if_false]; rfl) ⟨.nil, .refl, fun k hk => .inl hk, fun a n c e _ => by cases e; rfl⟩
   · have hle : Nat.ble (lx.length + 0) c = true := Nat.ble_eq.mpr h.le
     refine W.intro (a := (.slice (some ⟨b, 0, sp⟩) lx.length c, s)) ?_ ⟨.inr ⟨b, sp, c, ext, rfl, h⟩, .refl, fun k hk => .inl hk, fun a n c' e _ => by cases e; rfl⟩
     simp only [Kq, zG, hl, hs, hf, hle, Bool.not_true, z3, if_false, if_true]
     rfl
 · rcases hx with ⟨rfl, rfl⟩ | ⟨b, sp, c, ext, rfl, h⟩
   · refine W.mono (Fg (.inl ⟨rfl, rfl⟩) hy ox oy hG hn hb) ?_
     rintro ⟨v1, s1⟩ ⟨h1, h2, h3⟩
     exact ⟨h1.room (ox.append oy) (by rw [List.length_append]; exact hn), h2, h3, fun a n c e hc => by cases e; simp at hc; exact absurd hc hly⟩
   · have hpos : 0 < ly.length := List.length_pos_iff.2 hly
     by_cases hc : lx.length + ly.length ≤ c
     · obtain ⟨hl, hs⟩ := WA hy
       have hf : (Nat.beq ly.flatten.length (ly.length * sz) && allOne ly.flatten) = true := by rw [oy.flat, oy.ones]; simp
       have hle : Nat.ble (lx.length + ly.length) c = true := Nat.ble_eq.mpr hc
       have hz : Nat.beq ly.length 0 = false := Fd (by omega)
       have hxf := ox.flat
       have hyf := oy.flat
       have hall := h.all
       rw [List.length_append] at hall
       have hsz : (lx.length + ly.length) * sz ≤ c * sz := Nat.mul_le_mul_right _ hc
       rw [Nat.add_mul] at hsz
       have hw : s.write b (0 + lx.length * sz) ly.flatten = some (s.upd b (.cells (.list ((lx ++ ly).flatten ++ ext.drop ly.flatten.length)) false)) := by
        rw [DS.write_eq]
        unfold DS.wrC
        rw [h.get]
        have e1 : (Nat.ble (0 + lx.length * sz + ly.flatten.length) (Cells.list (lx.flatten ++ ext)).size && s.wr b) = true := by
         rw [h.wr, Bool.and_true]
         refine Nat.ble_eq.mpr ?_
         show _ ≤ (lx.flatten ++ ext).length
         rw [List.length_append]; omega
        simp only [e1, if_true]
        have e2 : (lx.flatten ++ ext).take (0 + lx.length * sz) ++ (ly.flatten ++ (lx.flatten ++ ext).drop (0 + lx.length * sz + ly.flatten.length)) = (lx ++ ly).flatten ++ ext.drop ly.flatten.length := by
         rw [Nat.zero_add, ← hxf, List.take_left, List.flatten_append, List.append_assoc, List.drop_append, List.drop_eq_nil_of_le (by omega), List.nil_append, show lx.flatten.length + ly.flatten.length - lx.flatten.length = ly.flatten.length by omega]
        rw [Yg _ _ _ (by rw [List.length_append]; omega), e2]
       refine W.intro (a := (.slice (some ⟨b, 0, sp⟩) (lx.length + ly.length) c, s.upd b (.cells (.list ((lx ++ ly).flatten ++ ext.drop ly.flatten.length)) false))) ?_ ⟨.inr ⟨b, sp, c, ext.drop ly.flatten.length, by rw [List.length_append], h.sp, ?_, ?_, ?_, by rw [List.length_append]; exact hc, h.top⟩, Ext.upd (.inl (by simp [blk])), fun k hk => .inl (by simpa [blk] using hk), fun a n c' e _ => by cases e; rfl⟩
       · simp only [Kq, zG, hl, hs, hf, hle, hz, hw, Bool.not_true, z3, if_false, if_true]
       · simp only [DS.upd_get_self, h.get, Option.map_some]
       · simp only [DS.upd_wr, h.wr]
       · rw [List.flatten_append, List.length_append, List.length_append, List.length_drop]; omega
     · by_cases hlc : lx.length = c
       · subst hlc
         have he : ext = [] := List.eq_nil_of_length_eq_zero (by rw [h.ext ox]; simp)
         subst he
         have hg := h.get
         rw [List.append_nil] at hg
         refine W.mono (Fg (.inr ⟨b, sp, rfl, h.sp, hg, h.wr⟩) hy ox oy hG hn hb) ?_
         rintro ⟨v1, s1⟩ ⟨h1, h2, h3⟩
         exact ⟨h1.room (ox.append oy) (by rw [List.length_append]; exact hn), h2, h3, fun a n c e hc' => by cases e; exact absurd hc' hc⟩
       · obtain ⟨hl, hs⟩ := WA hy
         have hf : (Nat.beq ly.flatten.length (ly.length * sz) && allOne ly.flatten) = true := by rw [oy.flat, oy.ones]; simp
         have hle : Nat.ble (lx.length + ly.length) c = false := by rw [YB]; omega
         have h1 : Nat.ble (lx.length + ly.length) 1099511627776 = true := Nat.ble_eq.mpr hn
         have h2 : Nat.ble ((lx.length + ly.length) * bytes) 1099511627776 = true := Nat.ble_eq.mpr hb
         have hnew : ∀ o, (s.new o).get s.next = some o := fun o => DS.new_get_self hG
         have hwn : s.wr s.next = true := (hG _ (Nat.le_refl _)).2
         have hl2 : (lx ++ ly).length = lx.length + ly.length := List.length_append
         have hfl : (lx ++ ly).flatten = lx.flatten ++ ly.flatten := List.flatten_append
         have hrd := h.part ox (i := 0) (j := lx.length) (Nat.zero_le _) (Nat.le_refl _)
         simp only [Nat.zero_mul, Nat.add_zero, Nat.sub_zero, List.take_length, List.drop_zero] at hrd
         have hfin : ∀ (S : DS) (N : Nat), S.get N = some (.cells (.list (lx.flatten ++ ly.flatten)) false) → S.wr N = true → SlC S sz (.slice (some ⟨N, 0, some sz⟩) (lx.length + ly.length) (lx.length + ly.length)) (lx ++ ly) := fun S N hg hw =>
          .inr ⟨N, some sz, _, [], by rw [hl2], .inr rfl, by rw [List.append_nil, hfl]; exact hg, hw, by rw [List.append_nil, (ox.append oy).flat, hl2], by rw [hl2]; exact Nat.le_refl _, hn⟩
         rcases h.sp with rfl | rfl
         · refine W.intro (a := (.slice (some ⟨s.next, 0, some sz⟩) (lx.length + ly.length) (lx.length + ly.length), s.new (.cells (.list (lx.flatten ++ ly.flatten)) false))) ?_ ⟨hfin _ _ (hnew _) hwn, Ext.new, fun k hk => .inr (by simp [blk] at hk; omega), fun a n c' e hc' => by cases e; exact absurd hc' hc⟩
           simp only [Kq, zG, hl, hs, hf, hle, h1, h2, Bool.not_true, z3, if_false, if_true, Bool.and_self, hrd, ox.ones]
         · have hk : s.kill b = some (s.rid b) := DS.kill_rid (by rw [h.get]; rfl) h.wr
           have hnew2 : ∀ o, ((s.rid b).new o).get s.next = some o := fun o => by
            have := DS.new_get_self (s := s.rid b) (o := o) (by rw [DS.rid_good]; exact hG)
            rwa [DS.rid_next] at this
           have hr : (Cells.list (lx.flatten ++ ext)).take 0 (lx.length * sz) = some lx.flatten := by
            unfold DS.read at hrd
            rw [h.get] at hrd
            simpa using hrd
           refine W.intro (a := (.slice (some ⟨s.next, 0, some sz⟩) (lx.length + ly.length) (lx.length + ly.length), (s.rid b).new (.cells (.list (lx.flatten ++ ly.flatten)) false))) ?_ ⟨hfin _ _ (hnew2 _) (by rw [DS.new_wr, DS.rid_wr]; exact hwn), (Ext.rid (F := [b]) (.inl (by simp))).trans' Ext.new, fun k hk => .inr (by simp [blk] at hk; omega), fun a n c' e hc' => by cases e; exact absurd hc' hc⟩
           simp only [Kq, zG, hl, hs, hf, hle, h1, h2, Bool.not_true, z3, if_false, if_true, Bool.and_self, Nat.beq_refl, h.get, hr, hk, ox.ones, Cells.like, Cells.plain, DS.rid_next]
def QU {α : Type} (l : List α) (i : Nat) (x : α) : List α := l.take i ++ x :: l.drop i
theorem Gz {α : Type} {l : List α} {i : Nat} {x : α} (h : i ≤ l.length) : (QU l i x).length = l.length + 1 := by
 unfold QU
 rw [List.length_append, List.length_take, List.length_cons, List.length_drop]; omega
theorem Po {A E : List Value} {i : Nat} {x : Value} (h : i ≤ A.length) : A.take i ++ ([x] ++ A.drop i) ++ E.drop 1 = (A ++ E).take (0 + i) ++ (([x] ++ A.drop i) ++ (A ++ E).drop (0 + i + ([x] ++ A.drop i).length)) := by
 have h4 : 0 + i + ([x] ++ A.drop i).length = A.length + 1 := by simp; omega
 have h5 : (A ++ E).drop (A.length + 1) = E.drop 1 := by rw [List.drop_append, List.drop_eq_nil_of_le (by omega), List.nil_append, show A.length + 1 - A.length = 1 by omega]
 rw [h4, h5, Nat.zero_add, List.take_append_of_le_length h, List.append_assoc]
theorem Pp {l : List Int} (h : SlC s 1 v (ints l)) (hG : s.Good) {i : Nat} (hi : i < l.length) (hl : l.length ≤ 1000000) {x : Int} {kv : Nat} {sp : Option Nat} {cw : Nat} (hg : s.get kv = some (.cells (.list [.int .i64 x]) false)) (hkv : kv ∉ blk v) :
 W (Jm [v, .int .i64 (i : Int), .slice (some ⟨kv, 0, sp⟩) 1 cw] s) fun r => SlC r.2 1 r.1 (ints (QU l i x)) ∧ Ext (blk v) s r.2 ∧ ∀ k, k ∈ blk r.1 → k ∈ blk v ∨ s.next ≤ k := by
 have hil := Xg l
 rcases h with ⟨rfl, h0⟩ | ⟨b, sb, c, ext, rfl, h⟩
 · have : l = [] := by simpa [ints] using h0
   subst this
   simp at hi
 · rw [hil]
   have ho := Xh l
   have hf := Jf l
   have hfl : (ints l).flatten.length = l.length := by rw [hf]; simp
   have hle := h.le
   rw [hil] at hle
   have hall := h.all
   rw [List.length_append, hfl] at hall
   have hbk : Nat.beq b kv = false := Fd fun e => hkv (by simp [blk, e])
   have c1 : (Nat.blt i l.length && Nat.ble l.length 1000000 && Nat.beq 1 1 && !Nat.beq b kv && Nat.ble c 4611686018427387904) = true := by
    have e1 : Nat.blt i l.length = true := Yd hi
    have e2 : Nat.ble l.length 1000000 = true := Nat.ble_eq.mpr hl
    have e3 : Nat.ble c 4611686018427387904 = true := Nat.ble_eq.mpr (Nat.le_trans h.top (by decide))
    simp [e1, e2, e3, hbk]
   have t1 : (Cells.list ((ints l).flatten ++ ext)).take 0 l.length = some (ints l).flatten := by
    rw [ZL _ _ _ (by rw [List.length_append]; omega)]
    simp only [List.drop_zero]
    rw [List.take_append_of_le_length (by omega), List.take_of_length_le (by omega)]
   have t2 : (Cells.list [Value.int .i64 x]).take 0 1 = some [.int .i64 x] := rfl
   have hone : (allOne (ints l).flatten && allOne [Value.int .i64 x] && (Cells.list [Value.int .i64 x]).plain) = true := by rw [ho.ones]; rfl
   have hins : (ints (QU l i x)).flatten = (ints l).flatten.take i ++ ([.int .i64 x] ++ (ints l).flatten.drop i) := by
    rw [Jf, Jf]
    unfold QU
    simp [List.map_take, List.map_drop]
   have hlen2 : (ints (QU l i x)).length = l.length + 1 := by rw [Xg, Gz (by omega)]
   have hfin : ∀ (S : DS) (N : Nat), S.get N = some (.cells (.list ((ints l).flatten.take i ++ ([.int .i64 x] ++ (ints l).flatten.drop i))) false) → S.wr N = true → SlC S 1 (.slice (some ⟨N, 0, some 1⟩) (l.length + 1) (l.length + 1)) (ints (QU l i x)) := fun S N hg hw =>
    .inr ⟨N, some 1, _, [], by rw [hlen2], .inr rfl, by rw [List.append_nil, hins]; exact hg, hw, by rw [List.append_nil, (Xh _).flat, hlen2], by rw [hlen2]; exact Nat.le_refl _, by omega⟩
   by_cases hc : l.length < c
   · have e1 : Nat.blt l.length c = true := Yd hc
     have hcat := Po (E := ext) (x := Value.int .i64 x) (show i ≤ (ints l).flatten.length by omega)
     have hw : s.write b (0 + i) ([.int .i64 x] ++ (ints l).flatten.drop i) = some (s.upd b (.cells (.list ((ints l).flatten.take i ++ ([Value.int .i64 x] ++ (ints l).flatten.drop i) ++ ext.drop 1)) false)) := by
      rw [DS.write_eq]
      unfold DS.wrC
      rw [h.get]
      have h4 : ([Value.int .i64 x] ++ (ints l).flatten.drop i).length = l.length - i + 1 := by simp [hfl]
      have e3 : (Nat.ble (0 + i + ([Value.int .i64 x] ++ (ints l).flatten.drop i).length) (Cells.list ((ints l).flatten ++ ext)).size && s.wr b) = true := by
       rw [h.wr, Bool.and_true]
       refine Nat.ble_eq.mpr ?_
       show _ ≤ ((ints l).flatten ++ ext).length
       rw [h4, List.length_append]; omega
      simp only [e3, if_true]
      rw [Yg _ _ _ (by rw [h4, List.length_append]; omega), hcat]
     refine W.intro (a := (.slice (some ⟨b, 0, sb⟩) (l.length + 1) c, s.upd b (.cells (.list ((ints l).flatten.take i ++ ([Value.int .i64 x] ++ (ints l).flatten.drop i) ++ ext.drop 1)) false))) ?_ ⟨.inr ⟨b, sb, c, ext.drop 1, by rw [hlen2], h.sp, ?_, ?_, ?_, by rw [hlen2]; exact hc, h.top⟩, Ext.upd (.inl (by simp [blk])), fun k hk => .inl (by simpa [blk] using hk)⟩
     · unfold Jm
       show (if _ then _ else _) = _
       rw [if_pos c1]
       simp only [h.get, hg, t1, t2, hone, if_true, e1, hw]
     · simp only [DS.upd_get_self, h.get, Option.map_some, hins]
     · simp only [DS.upd_wr, h.wr]
     · rw [List.length_append, (Xh _).flat, hlen2, List.length_drop]; omega
   · have e1 : Nat.blt l.length c = false := by rw [YO]; omega
     have hnew : ∀ o, (s.new o).get s.next = some o := fun o => DS.new_get_self hG
     have hwn : s.wr s.next = true := (hG _ (Nat.le_refl _)).2
     rcases h.sp with rfl | rfl
     · refine W.intro (a := (.slice (some ⟨s.next, 0, some 1⟩) (l.length + 1) (l.length + 1), s.new (.cells (.list ((ints l).flatten.take i ++ ([.int .i64 x] ++ (ints l).flatten.drop i))) false))) ?_ ⟨hfin _ _ (hnew _) hwn, Ext.new, fun k hk => .inr (by simp [blk] at hk; omega)⟩
       unfold Jm
       show (if _ then _ else _) = _
       rw [if_pos c1]
       simp only [h.get, hg, t1, t2, hone, if_true, e1, z3, if_false]
     · have hk : s.kill b = some (s.rid b) := DS.kill_rid (by rw [h.get]; rfl) h.wr
       have hnew2 : ∀ o, ((s.rid b).new o).get s.next = some o := fun o => by
        have := DS.new_get_self (s := s.rid b) (o := o) (by rw [DS.rid_good]; exact hG)
        rwa [DS.rid_next] at this
       refine W.intro (a := (.slice (some ⟨s.next, 0, some 1⟩) (l.length + 1) (l.length + 1), (s.rid b).new (.cells (.list ((ints l).flatten.take i ++ ([.int .i64 x] ++ (ints l).flatten.drop i))) false))) ?_ ⟨hfin _ _ (hnew2 _) (by rw [DS.new_wr, DS.rid_wr]; exact hwn), (Ext.rid (F := [b]) (.inl (by simp))).trans' Ext.new, fun k hk => .inr (by simp [blk] at hk; omega)⟩
       unfold Jm
       show (if _ then _ else _) = _
       rw [if_pos c1]
       simp only [h.get, hg, t1, t2, hone, if_true, e1, z3, if_false, Nat.beq_refl, hk, DS.rid_next]
       simp only [Cells.like, Cells.plain, if_true]
theorem Pq {i n c : Nat} {a : Option Addr} {w : Value} (h : n ≤ i) : Jm [.slice a n c, .int .i64 (i : Int), w] s = none := by
 unfold Jm
 split
 · rename_i heq
   simp only [List.cons.injEq, Value.slice.injEq, Value.int.injEq, and_true, true_and] at heq
   obtain ⟨⟨_, rfl, _⟩, h2, _⟩ := heq
   have : Int.ofNat i = Int.ofNat _ := h2
   cases this
   rw [if_neg]
   have : Nat.blt i n = false := by rw [YO]; exact h
   simp [this]
 · rfl
theorem SlC.shape' (h : SlC s sz v l) : ∃ a c, v = .slice a l.length c ∧ l.length ≤ c := by
 rcases h with ⟨rfl, rfl⟩ | ⟨b, sp, c, ext, rfl, h⟩
 · exact ⟨none, 0, rfl, Nat.le_refl _⟩
 · exact ⟨_, _, rfl, h.le⟩
theorem SlC.getI {l : List Int} (h : SlC s 1 v (ints l)) {i : Nat} {x : Int} (hx : l[i]? = some x) :
 ∃ b sp c ext, v = .slice (some ⟨b, 0, sp⟩) l.length c ∧ Qe s 1 (ints l) b sp c ext ∧ getN ((ints l).flatten ++ ext) i = some (.int .i64 x) := by
 obtain ⟨b, sp, c, ext, h1, h2, h3⟩ := h.read (Xh l) (ints_at hx) (j := 0) rfl
 exact ⟨b, sp, c, ext, by rw [h1, Xg], h2, by simpa using h3⟩
end
end Go.Dx
