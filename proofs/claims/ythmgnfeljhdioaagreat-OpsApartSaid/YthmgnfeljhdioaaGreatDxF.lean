/- A part. -/
import Derived.Test.YthmgnfeljhdioaaGreatDxW
set_option linter.unusedVariables false
set_option linter.unusedSimpArgs false
set_option linter.unusedSectionVars false
namespace Go.Dx
open Go
section
variable {E : Env} {call : zg} {lf : Nat} {r : Bool} {t : PT Value} {s : DS} {ds : List Nat} {K : DExit → St → Prop} {d l k : Nat} {Q : Value × DS → Prop}
theorem Wk : zW t [] [] = t := rfl
theorem Xx {p : Nat} {ps : List Nat} {v : Value} {vs : List Value} : zW t (p :: ps) (v :: vs) = zW (t.put p (some v)) ps vs := rfl
end
section
variable {s s1 : DS} {nt : List Zc} {haz : List Nat} {F : List Nat} {k : Nat} {o : DObj}
theorem Qt : Z5 s (YV s nt haz) = s := rfl
theorem Kq (hG : s.Good) (hh : ∀ k, s.next ≤ k → hidden nt haz k = false ∧ shielded nt haz k = false) : (YV s nt haz).Good := fun k hk => by
 obtain ⟨h1, h2⟩ := hG k hk
 obtain ⟨h3, h4⟩ := hh k hk
 unfold YV
 simp [h1, h2, h3, h4]
theorem Vy (hh : ∀ k, hidden nt haz k = false) (e : Ext F (YV s nt haz) s1) : (Z5 s s1).get k = s1.get k := by
 unfold DS.get
 have : s1.vis k = s.vis k := by rw [e.vis]; simp [YV, hh]
 simp only [Z5, this]
 rfl
theorem Tu {a b : Nat} (h : a ≠ b) : Nat.beq a b = false := by
 cases e : Nat.beq a b with
 | false => rfl
 | true => exact absurd (Nat.eq_of_beq_eq_true e) h
theorem J2 {a b : Nat} : (Nat.ble a b = false) = (b < a) := by
 cases e : Nat.ble a b with
 | false => simp; exact Nat.lt_of_not_le fun h => by rw [Nat.ble_eq.mpr h] at e; cases e
 | true => have := Nat.ble_eq.mp e; simp; omega
theorem D0 {a b : Nat} : (Nat.blt a b = false) = (b ≤ a) := by
 unfold Nat.blt
 rw [J2]
 exact propext ⟨fun h => by omega, fun h => by omega⟩
theorem Fp {a b : Nat} : (Nat.beq a b = false) = ¬ a = b := propext ⟨fun h e => (by subst e; rw [Nat.beq_refl] at h; cases h), Tu⟩
theorem JG : hidden nt [] k = false := rfl
theorem Dy (h : hidden nt haz k = false) (e : Ext F (YV s nt haz) s1) : (Z5 s s1).get k = s1.get k := by
 unfold DS.get
 have : s1.vis k = s.vis k := by rw [e.vis]; simp [YV, h]
 simp only [Z5, this]
 rfl
theorem Ext.unmask' (e : Ext F (YV s nt haz) s1) (f : zj (YV s nt haz) s1) : Ext F s (Go.Dx.Z5 s s1) := by
 refine ⟨e.le, rfl, rfl, fun k hk hf => ?_⟩
 cases hh : hidden nt haz k with
 | false => rw [Dy hh e, e.get k hk hf, Y5 hh]
 | true =>
  have h1 := f.keep k hk (by simp [YV, hh])
  have h2 : Nat.blt k s1.next = true := Zh (Nat.lt_of_lt_of_le hk f.next)
  have h3 : Nat.blt k s.next = true := Zh hk
  unfold DS.get
  simp only [Go.Dx.Z5, h2, h3]
  rw [h1]
  rfl
theorem W.masked {call : zg} (hc : zO call) {f : Value} {args : List Value} {P R : Value × DS → Prop} {s : DS} (h : W (call f args s) P) (k : ∀ v s1, P (v, s1) → zj s s1 → R (v, s1)) : W (call f args s) R := by
 obtain ⟨⟨v, s1⟩, h1, h2⟩ := h
 exact W.intro h1 (k v s1 h2 (hc _ _ _ _ _ h1))
end
theorem Yl {s : DS} {o : DObj} : (s.new o).next = s.next + 1 := Eq.trans rfl rfl
theorem wrN {s : DS} {o : DObj} : (s.new o).wr = s.wr := Eq.trans rfl rfl
theorem Pl {s : DS} {o : DObj} : (s.new o).vis = s.vis := Eq.trans rfl rfl
theorem Rg {s : DS} {nt : List Zc} {haz : List Nat} : (YV s nt haz).next = s.next := Eq.trans rfl rfl
theorem Rf {s s1 : DS} : (Z5 s s1).next = s1.next := Eq.trans rfl rfl
theorem wrU {s s1 : DS} : (Z5 s s1).wr = s.wr := Eq.trans rfl rfl
theorem YF {s : DS} {j : Nat} {o : DObj} (h : s.Good) (e : j = s.next) : (s.new o).get j = some o := by subst e; exact DS.new_get_self h
theorem Xi {s : DS} {j : Nat} {o : DObj} (e : j < s.next) : (s.new o).get j = s.get j := DS.new_get_lt e
theorem V4 {s : DS} {o : DObj} (h : s.Good) : (s.new o).Good = True := eq_true (DS.new_good h)
theorem FN {s : DS} {j : Nat} (h : s.Good) (e : s.next ≤ j) : s.wr j = true := (h j e).2
theorem Ri {a b : Nat} (h : a < b) : (a = b) = False := eq_false (Nat.ne_of_lt h)
theorem Rj {a b : Nat} (h : b < a) : (a = b) = False := eq_false (Nat.ne_of_gt h)
theorem VY {n m k : Nat} (h : n < m) : (n < m + k) = True := eq_true (Nat.lt_add_right k h)
theorem VX {m k : Nat} (h : 0 < k) : (m < m + k) = True := eq_true (Nat.lt_add_of_pos_right h)
theorem V1 {m k : Nat} : (m ≤ m + k) = True := eq_true (Nat.le_add_right m k)
theorem Ys (l : List Value) : ∀ (n off : Nat), off + n ≤ l.length → (Cells.list l).take off n = some ((l.drop off).take n)
 | 0, off, _ => by simp [Cells.take]
 | n + 1, off, h => by
  have h0 : off < l.length := by omega
  have h1 : (Cells.list l).get off = some l[off] := by simp only [Cells.get, Wf]; exact List.getElem?_eq_getElem h0
  have h2 := Ys l n (off + 1) (by omega)
  unfold Cells.take
  rw [h1]
  simp only [h2]
  rw [List.drop_eq_getElem_cons h0]
  rfl
theorem Wt : ∀ (a b : List Value), zm (a ++ b) = (zm a && zm b)
 | [], b => by simp [zm]
 | x :: a, b => by simp [zm, Wt a b, Bool.and_assoc]
theorem QD {n : Nat} : ∀ {l : List (List Value)}, (∀ x, x ∈ l → x.length = n) → l.flatten.length = l.length * n
 | [], _ => by simp
 | x :: l, h => by
  have h1 := h x (List.mem_cons_self ..)
  have h2 := QD (l := l) fun y hy => h y (List.mem_cons_of_mem _ hy)
  simp only [List.flatten_cons, List.length_append, h1, h2, List.length_cons, Nat.succ_mul]
  omega
theorem Xk {n : Nat} : ∀ {l : List (List Value)} (i : Nat), (∀ x, x ∈ l → x.length = n) → l.flatten.drop (i * n) = (l.drop i).flatten
 | l, 0, _ => by simp
 | [], i + 1, _ => by simp
 | x :: l, i + 1, h => by
  have h1 := h x (List.mem_cons_self ..)
  have h2 := Xk (l := l) i fun y hy => h y (List.mem_cons_of_mem _ hy)
  simp only [List.flatten_cons, List.drop_succ_cons]
  rw [show (i + 1) * n = x.length + i * n by rw [h1, Nat.succ_mul]; omega, ← List.drop_drop, List.drop_left, h2]
theorem WY {n : Nat} : ∀ {l : List (List Value)} (i : Nat), (∀ x, x ∈ l → x.length = n) → l.flatten.take (i * n) = (l.take i).flatten
 | l, 0, _ => by simp
 | [], i + 1, _ => by simp
 | x :: l, i + 1, h => by
  have h1 := h x (List.mem_cons_self ..)
  have h2 := WY (l := l) i fun y hy => h y (List.mem_cons_of_mem _ hy)
  simp only [List.flatten_cons, List.take_succ_cons]
  rw [show (i + 1) * n = x.length + i * n by rw [h1, Nat.succ_mul]; omega, List.take_append, List.take_of_length_le (by omega), show x.length + i * n - x.length = i * n by omega, h2]
theorem Ge {n : Nat} {l : List (List Value)} {i j : Nat} {x : List Value} {y : Value} (h : ∀ x, x ∈ l → x.length = n) (hx : l[i]? = some x) (hy : x[j]? = some y) : getN l.flatten (i * n + j) = some y := by
 have hj : j < n := by
  have := h x (List.mem_of_getElem? hx)
  have := (List.getElem?_eq_some_iff.1 hy).1
  omega
 rw [Wf, ← List.getElem?_drop, Xk i h]
 have hi := (List.getElem?_eq_some_iff.1 hx).1
 rw [List.drop_eq_getElem_cons hi]
 have : l[i] = x := by have := List.getElem?_eq_getElem hi; rw [hx] at this; exact (Option.some.inj this).symm
 rw [this, List.flatten_cons, List.getElem?_append_left (by have := h x (List.mem_of_getElem? hx); omega)]
 exact hy
def blk : Value → List Nat
 | .slice (some a) _ _ => [a.block]
 | _ => []
structure z6 (sz : Nat) (l : List (List Value)) : Prop where
 len : ∀ x, x ∈ l → x.length = sz
 one : ∀ x, x ∈ l → zm x = true
section
variable {sz : Nat} {l l' : List (List Value)}
theorem z6.nil : z6 sz [] := ⟨fun _ h => (nomatch h), fun _ h => (nomatch h)⟩
theorem z6.flat (h : z6 sz l) : l.flatten.length = l.length * sz := QD h.len
theorem z6.append (h : z6 sz l) (h' : z6 sz l') : z6 sz (l ++ l') := ⟨fun x hx => (List.mem_append.1 hx).elim (h.len x) (h'.len x), fun x hx => (List.mem_append.1 hx).elim (h.one x) (h'.one x)⟩
theorem z6.sub (h : z6 sz l) (hs : ∀ x, x ∈ l' → x ∈ l) : z6 sz l' := ⟨fun x hx => h.len x (hs x hx), fun x hx => h.one x (hs x hx)⟩
theorem z6.ones : ∀ {l : List (List Value)}, z6 sz l → zm l.flatten = true
 | [], _ => rfl
 | x :: l, h => by
  rw [List.flatten_cons, Wt, h.one x (List.mem_cons_self ..), z6.ones (l := l) ⟨fun y hy => h.len y (List.mem_cons_of_mem _ hy), fun y hy => h.one y (List.mem_cons_of_mem _ hy)⟩]
  rfl
end
def SlV (s : DS) (sz : Nat) (v : Value) (l : List (List Value)) : Prop :=
 (v = .slice none 0 0 ∧ l = []) ∨ ∃ b off sp c, v = .slice (some ⟨b, off, sp⟩) l.length c ∧ s.read b off (l.length * sz) = some l.flatten
def SlX (s : DS) (sz : Nat) (v : Value) (l : List (List Value)) : Prop :=
 (v = .slice none 0 0 ∧ l = []) ∨ ∃ b sp, v = .slice (some ⟨b, 0, sp⟩) l.length l.length ∧ (sp = none ∨ sp = some sz) ∧ s.get b = some (.cells (.list l.flatten) false) ∧ s.wr b = true
section
variable {s s' : DS} {sz : Nat} {v : Value} {l : List (List Value)} {F : List Nat}
theorem SlX.keep (h : SlX s sz v l) (e : Ext F s s') (hd : ∀ k, k ∈ blk v → k ∉ F) : SlX s' sz v l := by
 rcases h with h | ⟨b, sp, rfl, h1, h2, h3⟩
 · exact .inl h
 · exact .inr ⟨b, sp, rfl, h1, e.keep h2 (hd b (by simp [blk])), e.wrs h3⟩
theorem SlX.of (h : SlX s sz v l) (hd : ∀ k, k ∈ blk v → s'.get k = s.get k ∧ (s.wr k = true → s'.wr k = true)) : SlX s' sz v l := by
 rcases h with h | ⟨b, sp, rfl, h1, h2, h3⟩
 · exact .inl h
 · have := hd b (by simp [blk])
   exact .inr ⟨b, sp, rfl, h1, this.1.trans h2, this.2 h3⟩
theorem SlV.of (h : SlV s sz v l) (hd : ∀ k, k ∈ blk v → s'.get k = s.get k) : SlV s' sz v l := by
 rcases h with h | ⟨b, off, sp, c, rfl, h1⟩
 · exact .inl h
 · have := hd b (by simp [blk])
   refine .inr ⟨b, off, sp, c, rfl, ?_⟩
   unfold DS.read at h1 ⊢
   rw [this]; exact h1
theorem SlX.lt (h : SlX s sz v l) : ∀ k, k ∈ blk v → k < s.next := by
 rcases h with ⟨rfl, _⟩ | ⟨b, sp, rfl, h1, h2, h3⟩
 · exact fun k hk => by simp [blk] at hk
 · exact fun k hk => by simp [blk] at hk; subst hk; exact DS.get_lt' h2
theorem SlX.shape (h : SlX s sz v l) : ∃ a, v = .slice a l.length l.length := by
 rcases h with ⟨rfl, rfl⟩ | ⟨b, sp, rfl, _⟩
 · exact ⟨_, rfl⟩
 · exact ⟨_, rfl⟩
theorem SlX.at (h : SlX s sz v l) (hl : l ≠ []) : ∃ b sp, v = .slice (some ⟨b, 0, sp⟩) l.length l.length ∧ (sp = none ∨ sp = some sz) ∧ s.get b = some (.cells (.list l.flatten) false) ∧ s.wr b = true := by
 rcases h with ⟨_, rfl⟩ | h
 · exact absurd rfl hl
 · exact h
theorem SlX.nil : SlX s sz (.slice none 0 0) [] := .inl ⟨rfl, rfl⟩
theorem SlX.one {b : Nat} {sp : Option Nat} (hsp : sp = none ∨ sp = some sz) (hg : s.get b = some (.cells (.list l.flatten) false)) (hw : s.wr b = true) : SlX s sz (.slice (some ⟨b, 0, sp⟩) l.length l.length) l := .inr ⟨b, sp, rfl, hsp, hg, hw⟩
theorem SlX.view (h : SlX s sz v l) (ho : z6 sz l) : SlV s sz v l := by
 rcases h with h | ⟨b, sp, rfl, _, h2, _⟩
 · exact .inl h
 · refine .inr ⟨b, 0, sp, _, rfl, ?_⟩
   have := ho.flat
   unfold DS.read
   rw [h2]
   simp only
   rw [Ys _ _ _ (by omega)]
   simp only [List.drop_zero]
   rw [List.take_of_length_le (by omega)]
def slV (z : Nat) (x : Value) (lo hi mx : Option Value) : Option Value := match x with
 | .slice a len cap => match Zw len cap lo hi mx with
  | some (l, h, m) => ZK a z l h m mx.isSome
  | none => none
 | _ => none
theorem Rs {call : zg} {ρ : Operand → Value} {R : Value × DS → Prop} {z : Nat} {x : Operand} {lo hi mx : Option Operand} : W (dop call ρ s (.slL z x lo hi mx)) R = W (slV z (ρ x) (lo.map ρ) (hi.map ρ) (mx.map ρ)) (atS s R) := by
 rw [PO]
 have e : zc ρ (.slL z x lo hi mx) = slV z (ρ x) (lo.map ρ) (hi.map ρ) (mx.map ρ) := by
  have h1 : mx.isSome = (mx.map ρ).isSome := by cases mx <;> rfl
  show (match ρ x with
   | .slice a len cap => match Zw len cap (lo.map ρ) (hi.map ρ) (mx.map ρ) with
    | some (l, h, m) => ZK a z l h m mx.isSome
    | none => none
   | _ => none) = _
  unfold slV
  rw [h1]
 rw [e]
def Qq (bytes sz : Nat) (x y : Value) (s : DS) : Option (Value × DS) := zf (fun o => match o with | .const v => v | _ => zl) s (.bapp bytes sz (.const x) (.const y))
theorem RF {call : zg} {ρ : Operand → Value} {R : Value × DS → Prop} {b z : Nat} {x y : Operand} : W (dop call ρ s (.bapp b z x y)) R = W (Qq b z (ρ x) (ρ y) s) R := by
 rw [Pf]
 rfl
theorem Xd {ly : List (List Value)} {vy : Value} (hy : SlV s sz vy ly) : Yj vy = some ly.length ∧ Zm s sz vy ly.length = some ly.flatten := by
 rcases hy with ⟨rfl, rfl⟩ | ⟨b, off, sp, c, rfl, h⟩
 · exact ⟨rfl, rfl⟩
 · exact ⟨rfl, h⟩
theorem Db {bytes : Nat} {vx vy : Value} {lx ly : List (List Value)} (hx : SlX s sz vx lx) (hy : SlV s sz vy ly) (ox : z6 sz lx) (oy : z6 sz ly) (hG : s.Good) (hn : lx.length + ly.length ≤ 1099511627776) (hb : (lx.length + ly.length) * bytes ≤ 1099511627776) :
 W (Qq bytes sz vx vy s) fun r => SlX r.2 sz r.1 (lx ++ ly) ∧ Ext (blk vx) s r.2 ∧ ∀ k, k ∈ blk r.1 → k ∈ blk vx ∨ s.next ≤ k := by
 obtain ⟨hl, hs⟩ := Xd hy
 have hf : (Nat.beq ly.flatten.length (ly.length * sz) && zm ly.flatten) = true := by rw [oy.flat, oy.ones]; simp
 have hnew : ∀ o, (s.new o).get s.next = some o := fun o => DS.new_get_self hG
 have hwn : s.wr s.next = true := (hG _ (Nat.le_refl _)).2
 have h1 : Nat.ble (lx.length + ly.length) 1099511627776 = true := Nat.ble_eq.mpr hn
 have h2 : Nat.ble ((lx.length + ly.length) * bytes) 1099511627776 = true := Nat.ble_eq.mpr hb
 by_cases hly : ly = []
 · subst hly
   have hle : Nat.ble (lx.length + 0) lx.length = true := Nat.ble_eq.mpr (Nat.le_refl _)
   simp only [List.length_nil, List.flatten_nil] at hl hs
   have hf : (Nat.beq ([] : List Value).length (0 * sz) && zm []) = true := by simp [zm]
   rcases hx with ⟨rfl, rfl⟩ | ⟨b, sp, rfl, h3, h4, h5⟩
   · exact W.intro (a := (.slice none 0 0, s)) (by simp only [Qq, zf, hl, hs, hf, Bool.not_true, z3, if_false]; rfl) ⟨.nil, .refl, fun k hk => .inl hk⟩
   · refine W.intro (a := (.slice (some ⟨b, 0, sp⟩) lx.length lx.length, s)) ?_ ⟨by rw [List.append_nil]; exact .inr ⟨b, sp, rfl, h3, h4, h5⟩, .refl, fun k hk => .inl hk⟩
     simp only [Qq, zf, hl, hs, hf, hle, Bool.not_true, z3, if_false, if_true]
     rfl
 · have hpos : 0 < ly.length := List.length_pos_iff.2 hly
   have hle : Nat.ble (lx.length + ly.length) lx.length = false := by
    cases hq : Nat.ble (lx.length + ly.length) lx.length with
    | false => rfl
    | true => have := Nat.ble_eq.mp hq; omega
   rcases hx with ⟨rfl, rfl⟩ | ⟨b, sp, rfl, h3, h4, h5⟩
   · have hle' : Nat.ble (0 + ly.length) 0 = false := by simpa using hle
     simp only [List.length_nil] at h1 h2
     refine W.intro (a := (.slice (some ⟨s.next, 0, some sz⟩) ly.length ly.length, s.new (.cells (.list ly.flatten) false))) ?_ ⟨.inr ⟨s.next, some sz, rfl, .inr rfl, hnew _, hwn⟩, Ext.new, fun k hk => .inr (by simp [blk] at hk; omega)⟩
     simp only [Qq, zf, hl, hs, hf, hle', h1, h2, Bool.not_true, z3, if_false, if_true, Bool.and_self, Nat.beq_refl]
   · have hr : (Cells.list lx.flatten).take 0 (lx.length * sz) = some lx.flatten := by
      have := ox.flat
      rw [Ys _ _ _ (by omega)]
      simp only [List.drop_zero]
      rw [List.take_of_length_le (by omega)]
     have hl2 : (lx ++ ly).length = lx.length + ly.length := List.length_append
     have hfl : (lx ++ ly).flatten = lx.flatten ++ ly.flatten := List.flatten_append
     rcases h3 with rfl | rfl
     · have hrd : s.read b 0 (lx.length * sz) = some lx.flatten := by unfold DS.read; rw [h4]; exact hr
       refine W.intro (a := (.slice (some ⟨s.next, 0, some sz⟩) (lx.length + ly.length) (lx.length + ly.length), s.new (.cells (.list (lx.flatten ++ ly.flatten)) false))) ?_ ⟨.inr ⟨s.next, some sz, by rw [hl2], .inr rfl, by rw [hfl]; exact hnew _, hwn⟩, Ext.new, fun k hk => .inr (by simp [blk] at hk; omega)⟩
       simp only [Qq, zf, hl, hs, hf, hle, h1, h2, Bool.not_true, z3, if_false, if_true, Bool.and_self, hrd, ox.ones]
     · have hk : s.kill b = some (s.rid b) := DS.kill_rid (by rw [h4]; rfl) h5
       have hlt : ¬ s.next = b := by have := DS.get_lt' h4; omega
       have hnew2 : ∀ o, ((s.rid b).new o).get s.next = some o := fun o => by
        have := DS.new_get_self (s := s.rid b) (o := o) (by rw [DS.rid_good]; exact hG)
        rwa [DS.rid_next] at this
       refine W.intro (a := (.slice (some ⟨s.next, 0, some sz⟩) (lx.length + ly.length) (lx.length + ly.length), (s.rid b).new (.cells (.list (lx.flatten ++ ly.flatten)) false))) ?_ ⟨.inr ⟨s.next, some sz, by rw [hl2], .inr rfl, by rw [hfl]; exact hnew2 _, by rw [DS.new_wr, DS.rid_wr]; exact hwn⟩, ?_, fun k hk => .inr (by simp [blk] at hk; omega)⟩
       · simp only [Qq, zf, hl, hs, hf, hle, h1, h2, Bool.not_true, z3, if_false, if_true, Bool.and_self, Nat.beq_refl, h4, hr, hk, ox.ones, Cells.like, Cells.plain, DS.rid_next]
       · exact (Ext.rid (F := [b]) (.inl (by simp))).trans' Ext.new
end
theorem sA : type_of% (And.intro @TQ (And.intro @KO (And.intro @Ds (And.intro @GG (And.intro @Dq (And.intro @TS (And.intro @Dr (And.intro @W4 (And.intro @KB (And.intro @JV (And.intro @W6 (And.intro @KE (And.intro @JX (And.intro @QL (And.intro @Gu (And.intro @KC (And.intro @JW (And.intro @W5 (And.intro @TP (And.intro @RG (And.intro @RI (And.intro @PR (And.intro @RK (And.intro @RJ (And.intro @V9 (And.intro @Ga (And.intro @Gb (And.intro @Gc (And.intro @JY (And.intro @QO (And.intro @Gv (And.intro @Gw (And.intro @Gx (And.intro @KD (And.intro @Tv (And.intro @Ty (And.intro @Tx (And.intro @Tz (And.intro @Tw (And.intro @zz (And.intro @PP (And.intro @TE (And.intro @RD (And.intro @RB (And.intro @PM (And.intro @Di (And.intro @Dd (And.intro @Dj (And.intro @Rv (And.intro @TK (And.intro @Rz (And.intro @Rx (And.intro @RA (And.intro @Dm (And.intro @PQ (And.intro @TG (And.intro @Dl (And.intro @PN (And.intro @Dp (And.intro @RC (And.intro @De (And.intro @TF (And.intro @TO (And.intro @TL (And.intro @GI (And.intro @QQ (And.intro @Ta (And.intro @Gi (And.intro @FX (And.intro @Km (And.intro @Kn (And.intro @ZC (And.intro @YE (And.intro @z0 (And.intro @Xg (And.intro @List.getElem?_cons_zero.{0} (And.intro @List.getElem?_cons_succ.{0} (And.intro @Option.getD_some.{0} (And.intro @List.map_cons.{0,0} (And.intro @List.map_nil.{0,0} (And.intro @CX (And.intro @Nat.zero_add (And.intro @SZ (And.intro @KJ (And.intro @JZ (And.intro @KF (And.intro @KG (And.intro @QP (And.intro @KI (And.intro @cells_func (And.intro @KK (And.intro @List.length_cons.{0} (And.intro @List.length_nil.{0} (And.intro @Bool.and_self (And.intro @Bool.and_true (And.intro @Bool.true_and (And.intro @Bool.and_eq_true (And.intro @Nat.beq_eq (And.intro @Nat.ble_eq (And.intro @Nat.blt_eq (And.intro @Nat.le_refl (And.intro @and_self (And.intro @and_true (And.intro @true_and (And.intro @if_true.{1} (And.intro @if_false.{1} (And.intro @ite_true.{1} (And.intro @ite_false.{1} (And.intro @Bool.not_true (And.intro @Bool.not_false (And.intro @z3 (And.intro @List.take_zero.{0} (And.intro @List.take_succ_cons.{0} (And.intro @List.drop_succ_cons.{0} (And.intro @List.drop_zero.{0} (And.intro @List.nil_append.{0} (And.intro @List.cons_append.{0} (And.intro @List.take_nil.{0} (And.intro @List.drop_nil.{0} (And.intro @List.append_nil.{0} (And.intro @DS.upd_get_self (And.intro @DS.upd_get_ne (And.intro @DS.upd_next (And.intro @DS.upd_wr (And.intro @DS.upd_vis (And.intro @Option.map_some.{0,0} (And.intro @Option.isSome_some.{0} (And.intro @DS.set_upd (And.intro @Yl (And.intro @wrN (And.intro @Pl (And.intro @Rg (And.intro @Rf (And.intro @wrU (And.intro @Rs (And.intro @RF (And.intro @GF (And.intro @Option.map_none.{0,0} (And.intro @RE (And.intro @Rw (And.intro @Qt (And.intro @JG (And.intro @List.length_append.{0} (And.intro @Wk (And.intro @Xx (And.intro @Nat.add_zero (And.intro @ZF (And.intro @Nat.mul_one (And.intro @Nat.zero_mul (And.intro @decide_true (And.intro @decide_false (And.intro @List.toList_toArray.{0} (And.intro @eq_self.{1} (And.intro @Option.isNone_none.{0} (And.intro @Option.isNone_some.{0} (And.intro @Y5 (And.intro @Bool.or_false (And.intro @Bool.false_and (And.intro @Ry (And.intro @Ru (And.intro @TJ (And.intro @TI (And.intro @Dn (And.intro @TM (And.intro @TN (And.intro @Dh (And.intro @KN (And.intro @Rt (And.intro @Dk (And.intro @Do (@V7))))))))))))))))))))))))))))))))))))))))))))))))))))))))))))))))))))))))))))))))))))))))))))))))))))))))))))))))))))))))))))))))))))))))))))))))))))))))))))))))))))))))))) := And.intro @TQ (And.intro @KO (And.intro @Ds (And.intro @GG (And.intro @Dq (And.intro @TS (And.intro @Dr (And.intro @W4 (And.intro @KB (And.intro @JV (And.intro @W6 (And.intro @KE (And.intro @JX (And.intro @QL (And.intro @Gu (And.intro @KC (And.intro @JW (And.intro @W5 (And.intro @TP (And.intro @RG (And.intro @RI (And.intro @PR (And.intro @RK (And.intro @RJ (And.intro @V9 (And.intro @Ga (And.intro @Gb (And.intro @Gc (And.intro @JY (And.intro @QO (And.intro @Gv (And.intro @Gw (And.intro @Gx (And.intro @KD (And.intro @Tv (And.intro @Ty (And.intro @Tx (And.intro @Tz (And.intro @Tw (And.intro @zz (And.intro @PP (And.intro @TE (And.intro @RD (And.intro @RB (And.intro @PM (And.intro @Di (And.intro @Dd (And.intro @Dj (And.intro @Rv (And.intro @TK (And.intro @Rz (And.intro @Rx (And.intro @RA (And.intro @Dm (And.intro @PQ (And.intro @TG (And.intro @Dl (And.intro @PN (And.intro @Dp (And.intro @RC (And.intro @De (And.intro @TF (And.intro @TO (And.intro @TL (And.intro @GI (And.intro @QQ (And.intro @Ta (And.intro @Gi (And.intro @FX (And.intro @Km (And.intro @Kn (And.intro @ZC (And.intro @YE (And.intro @z0 (And.intro @Xg (And.intro @List.getElem?_cons_zero.{0} (And.intro @List.getElem?_cons_succ.{0} (And.intro @Option.getD_some.{0} (And.intro @List.map_cons.{0,0} (And.intro @List.map_nil.{0,0} (And.intro @CX (And.intro @Nat.zero_add (And.intro @SZ (And.intro @KJ (And.intro @JZ (And.intro @KF (And.intro @KG (And.intro @QP (And.intro @KI (And.intro @cells_func (And.intro @KK (And.intro @List.length_cons.{0} (And.intro @List.length_nil.{0} (And.intro @Bool.and_self (And.intro @Bool.and_true (And.intro @Bool.true_and (And.intro @Bool.and_eq_true (And.intro @Nat.beq_eq (And.intro @Nat.ble_eq (And.intro @Nat.blt_eq (And.intro @Nat.le_refl (And.intro @and_self (And.intro @and_true (And.intro @true_and (And.intro @if_true.{1} (And.intro @if_false.{1} (And.intro @ite_true.{1} (And.intro @ite_false.{1} (And.intro @Bool.not_true (And.intro @Bool.not_false (And.intro @z3 (And.intro @List.take_zero.{0} (And.intro @List.take_succ_cons.{0} (And.intro @List.drop_succ_cons.{0} (And.intro @List.drop_zero.{0} (And.intro @List.nil_append.{0} (And.intro @List.cons_append.{0} (And.intro @List.take_nil.{0} (And.intro @List.drop_nil.{0} (And.intro @List.append_nil.{0} (And.intro @DS.upd_get_self (And.intro @DS.upd_get_ne (And.intro @DS.upd_next (And.intro @DS.upd_wr (And.intro @DS.upd_vis (And.intro @Option.map_some.{0,0} (And.intro @Option.isSome_some.{0} (And.intro @DS.set_upd (And.intro @Yl (And.intro @wrN (And.intro @Pl (And.intro @Rg (And.intro @Rf (And.intro @wrU (And.intro @Rs (And.intro @RF (And.intro @GF (And.intro @Option.map_none.{0,0} (And.intro @RE (And.intro @Rw (And.intro @Qt (And.intro @JG (And.intro @List.length_append.{0} (And.intro @Wk (And.intro @Xx (And.intro @Nat.add_zero (And.intro @ZF (And.intro @Nat.mul_one (And.intro @Nat.zero_mul (And.intro @decide_true (And.intro @decide_false (And.intro @List.toList_toArray.{0} (And.intro @eq_self.{1} (And.intro @Option.isNone_none.{0} (And.intro @Option.isNone_some.{0} (And.intro @Y5 (And.intro @Bool.or_false (And.intro @Bool.false_and (And.intro @Ry (And.intro @Ru (And.intro @TJ (And.intro @TI (And.intro @Dn (And.intro @TM (And.intro @TN (And.intro @Dh (And.intro @KN (And.intro @Rt (And.intro @Dk (And.intro @Do (@V7))))))))))))))))))))))))))))))))))))))))))))))))))))))))))))))))))))))))))))))))))))))))))))))))))))))))))))))))))))))))))))))))))))))))))))))))))))))))))))))))))))))))))
theorem sM : type_of% (And.intro @YF (And.intro @Xi (And.intro @V4 (And.intro @DS.upd_good (And.intro @FN (And.intro @Ri (And.intro @Rj (And.intro @VY (And.intro @VX (And.intro @V1 (And.intro @Nat.add_assoc (And.intro @Nat.lt_add_one (And.intro @Nat.zero_lt_succ (And.intro @Nat.lt_irrefl (And.intro @Nat.succ_pos (And.intro @Nat.add_lt_add_iff_left (And.intro @Nat.add_le_add_iff_left (@Nat.add_left_cancel_iff)))))))))))))))))) := And.intro @YF (And.intro @Xi (And.intro @V4 (And.intro @DS.upd_good (And.intro @FN (And.intro @Ri (And.intro @Rj (And.intro @VY (And.intro @VX (And.intro @V1 (And.intro @Nat.add_assoc (And.intro @Nat.lt_add_one (And.intro @Nat.zero_lt_succ (And.intro @Nat.lt_irrefl (And.intro @Nat.succ_pos (And.intro @Nat.add_lt_add_iff_left (And.intro @Nat.add_le_add_iff_left (@Nat.add_left_cancel_iff)))))))))))))))))
end Go.Dx
