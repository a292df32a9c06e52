/- A part. -/
import Derived.Test.YthmgnfeljhdioaaGreatDxW
set_option linter.unusedVariables false
set_option linter.unusedSimpArgs false
set_option linter.unusedSectionVars false
namespace Go.Dx
open Go
section
variable {E : Env} {call : zn} {lf : Nat} {r : Bool} {t : PT Value} {s : DS} {ds : List Nat} {K : DExit → St → Prop} {d l k : Nat} {Q : Value × DS → Prop}
theorem Qn : Zl t [] [] = t := rfl
theorem WM {p : Nat} {ps : List Nat} {v : Value} {vs : List Value} : Zl t (p :: ps) (v :: vs) = Zl (t.put p (some v)) ps vs := rfl
end
section
variable {s s1 : DS} {nt : List Zw} {haz : List Nat} {F : List Nat} {k : Nat} {o : DObj}
theorem Jt : Zi s (YK s nt haz) = s := rfl
theorem Yb (hG : s.Good) (hh : ∀ k, s.next ≤ k → hidden nt haz k = false ∧ shielded nt haz k = false) : (YK s nt haz).Good := fun k hk => by
 obtain ⟨h1, h2⟩ := hG k hk
 obtain ⟨h3, h4⟩ := hh k hk
 unfold YK
 simp [h1, h2, h3, h4]
theorem J2 (hw : s.wr k = true) (h1 : hidden nt haz k = false) (h2 : shielded nt haz k = false) : (YK s nt haz).wr k = true := by
 unfold YK
 simp [hw, h1, h2]
theorem W3 : (Zi s s1).wr = s.wr := rfl
theorem Js (hh : ∀ k, hidden nt haz k = false) (e : Ext F (YK s nt haz) s1) : (Zi s s1).get k = s1.get k := by
 unfold DS.get
 have : s1.vis k = s.vis k := by rw [e.vis]; simp [YK, hh]
 simp only [Zi, this]
 rfl
theorem Pp {a b : Nat} (h : a ≠ b) : Nat.beq a b = false := by
 cases e : Nat.beq a b with
 | false => rfl
 | true => exact absurd (Nat.eq_of_beq_eq_true e) h
theorem Zk {a b : Nat} : (Nat.ble a b = false) = (b < a) := by
 cases e : Nat.ble a b with
 | false => simp; exact Nat.lt_of_not_le fun h => by rw [Nat.ble_eq.mpr h] at e; cases e
 | true => have := Nat.ble_eq.mp e; simp; omega
theorem Zv {a b : Nat} : (Nat.blt a b = false) = (b ≤ a) := by
 unfold Nat.blt
 rw [Zk]
 exact propext ⟨fun h => by omega, fun h => by omega⟩
theorem Zs {a b : Nat} : (Nat.beq a b = false) = ¬ a = b := propext ⟨fun h e => (by subst e; rw [Nat.beq_refl] at h; cases h), Pp⟩
theorem KG : hidden nt [] k = false := rfl
theorem YG (h : hidden nt haz k = false) (e : Ext F (YK s nt haz) s1) : (Zi s s1).get k = s1.get k := by
 unfold DS.get
 have : s1.vis k = s.vis k := by rw [e.vis]; simp [YK, h]
 simp only [Zi, this]
 rfl
theorem Ext.unmask' (e : Ext F (YK s nt haz) s1) (f : zq (YK s nt haz) s1) : Ext F s (Go.Dx.Zi s s1) := by
 refine ⟨e.le, rfl, rfl, fun k hk hf => ?_⟩
 cases hh : hidden nt haz k with
 | false => rw [YG hh e, e.get k hk hf, Zj hh]
 | true =>
  have h1 := f.keep k hk (by simp [YK, hh])
  have h2 : Nat.blt k s1.next = true := ZB (Nat.lt_of_lt_of_le hk f.next)
  have h3 : Nat.blt k s.next = true := ZB hk
  unfold DS.get
  simp only [Go.Dx.Zi, h2, h3]
  rw [h1]
  rfl
theorem W.masked {call : zn} (hc : zG call) {f : Value} {args : List Value} {P R : Value × DS → Prop} {s : DS} (h : W (call f args s) P) (k : ∀ v s1, P (v, s1) → zq s s1 → R (v, s1)) : W (call f args s) R := by
 obtain ⟨⟨v, s1⟩, h1, h2⟩ := h
 exact W.intro h1 (k v s1 h2 (hc _ _ _ _ _ h1))
end
theorem z8 {s : DS} {o : DObj} : (s.new o).next = s.next + 1 := Eq.trans rfl rfl
theorem wrN {s : DS} {o : DObj} : (s.new o).wr = s.wr := Eq.trans rfl rfl
theorem Le {s : DS} {o : DObj} : (s.new o).vis = s.vis := Eq.trans rfl rfl
theorem Ma {s : DS} {nt : List Zw} {haz : List Nat} : (YK s nt haz).next = s.next := Eq.trans rfl rfl
theorem N9 {s s1 : DS} : (Zi s s1).next = s1.next := Eq.trans rfl rfl
theorem wrU {s s1 : DS} : (Zi s s1).wr = s.wr := Eq.trans rfl rfl
theorem ZD {s : DS} {j : Nat} {o : DObj} (h : s.Good) (e : j = s.next) : (s.new o).get j = some o := by subst e; exact DS.new_get_self h
theorem YM {s : DS} {j : Nat} {o : DObj} (e : j < s.next) : (s.new o).get j = s.get j := DS.new_get_lt e
theorem Fx {s : DS} {o : DObj} (h : s.Good) : (s.new o).Good = True := eq_true (DS.new_good h)
theorem CZ {s : DS} {j : Nat} (h : s.Good) (e : s.next ≤ j) : s.wr j = true := (h j e).2
theorem Md {a b : Nat} (h : a < b) : (a = b) = False := eq_false (Nat.ne_of_lt h)
theorem Me {a b : Nat} (h : b < a) : (a = b) = False := eq_false (Nat.ne_of_gt h)
theorem Fr {n m k : Nat} (h : n < m) : (n < m + k) = True := eq_true (Nat.lt_add_right k h)
theorem Fq {m k : Nat} (h : 0 < k) : (m < m + k) = True := eq_true (Nat.lt_add_of_pos_right h)
theorem Fu {m k : Nat} : (m ≤ m + k) = True := eq_true (Nat.le_add_right m k)
theorem Y9 (l : List Value) : ∀ (n off : Nat), off + n ≤ l.length → (Cells.list l).take off n = some ((l.drop off).take n)
 | 0, off, _ => by simp [Cells.take]
 | n + 1, off, h => by
  have h0 : off < l.length := by omega
  have h1 : (Cells.list l).get off = some l[off] := by simp only [Cells.get, Wa]; exact List.getElem?_eq_getElem h0
  have h2 := Y9 l n (off + 1) (by omega)
  unfold Cells.take
  rw [h1]
  simp only [h2]
  rw [List.drop_eq_getElem_cons h0]
  rfl
theorem Qv : ∀ (a b : List Value), zh (a ++ b) = (zh a && zh b)
 | [], b => by simp [zh]
 | x :: a, b => by simp [zh, Qv a b, Bool.and_assoc]
theorem JD {n : Nat} : ∀ {l : List (List Value)}, (∀ x, x ∈ l → x.length = n) → l.flatten.length = l.length * n
 | [], _ => by simp
 | x :: l, h => by
  have h1 := h x (List.mem_cons_self ..)
  have h2 := JD (l := l) fun y hy => h y (List.mem_cons_of_mem _ hy)
  simp only [List.flatten_cons, List.length_append, h1, h2, List.length_cons, Nat.succ_mul]
  omega
theorem Ws {n : Nat} : ∀ {l : List (List Value)} (i : Nat), (∀ x, x ∈ l → x.length = n) → l.flatten.drop (i * n) = (l.drop i).flatten
 | l, 0, _ => by simp
 | [], i + 1, _ => by simp
 | x :: l, i + 1, h => by
  have h1 := h x (List.mem_cons_self ..)
  have h2 := Ws (l := l) i fun y hy => h y (List.mem_cons_of_mem _ hy)
  simp only [List.flatten_cons, List.drop_succ_cons]
  rw [show (i + 1) * n = x.length + i * n by rw [h1, Nat.succ_mul]; omega, ← List.drop_drop, List.drop_left, h2]
theorem QX {n : Nat} : ∀ {l : List (List Value)} (i : Nat), (∀ x, x ∈ l → x.length = n) → l.flatten.take (i * n) = (l.take i).flatten
 | l, 0, _ => by simp
 | [], i + 1, _ => by simp
 | x :: l, i + 1, h => by
  have h1 := h x (List.mem_cons_self ..)
  have h2 := QX (l := l) i fun y hy => h y (List.mem_cons_of_mem _ hy)
  simp only [List.flatten_cons, List.take_succ_cons]
  rw [show (i + 1) * n = x.length + i * n by rw [h1, Nat.succ_mul]; omega, List.take_append, List.take_of_length_le (by omega), show x.length + i * n - x.length = i * n by omega, h2]
theorem FK {n : Nat} {l : List (List Value)} {i j : Nat} {x : List Value} {y : Value} (h : ∀ x, x ∈ l → x.length = n) (hx : l[i]? = some x) (hy : x[j]? = some y) : getN l.flatten (i * n + j) = some y := by
 have hj : j < n := by
  have := h x (List.mem_of_getElem? hx)
  have := (List.getElem?_eq_some_iff.1 hy).1
  omega
 rw [Wa, ← List.getElem?_drop, Ws i h]
 have hi := (List.getElem?_eq_some_iff.1 hx).1
 rw [List.drop_eq_getElem_cons hi]
 have : l[i] = x := by have := List.getElem?_eq_getElem hi; rw [hx] at this; exact (Option.some.inj this).symm
 rw [this, List.flatten_cons, List.getElem?_append_left (by have := h x (List.mem_of_getElem? hx); omega)]
 exact hy
def blk : Value → List Nat
 | .slice (some a) _ _ => [a.block]
 | _ => []
structure Za (sz : Nat) (l : List (List Value)) : Prop where
 len : ∀ x, x ∈ l → x.length = sz
 one : ∀ x, x ∈ l → zh x = true
section
variable {sz : Nat} {l l' : List (List Value)}
theorem Za.nil : Za sz [] := ⟨fun _ h => (nomatch h), fun _ h => (nomatch h)⟩
theorem Za.flat (h : Za sz l) : l.flatten.length = l.length * sz := JD h.len
theorem Za.append (h : Za sz l) (h' : Za sz l') : Za sz (l ++ l') := ⟨fun x hx => (List.mem_append.1 hx).elim (h.len x) (h'.len x), fun x hx => (List.mem_append.1 hx).elim (h.one x) (h'.one x)⟩
theorem Za.sub (h : Za sz l) (hs : ∀ x, x ∈ l' → x ∈ l) : Za sz l' := ⟨fun x hx => h.len x (hs x hx), fun x hx => h.one x (hs x hx)⟩
theorem Za.ones : ∀ {l : List (List Value)}, Za sz l → zh l.flatten = true
 | [], _ => rfl
 | x :: l, h => by
  rw [List.flatten_cons, Qv, h.one x (List.mem_cons_self ..), Za.ones (l := l) ⟨fun y hy => h.len y (List.mem_cons_of_mem _ hy), fun y hy => h.one y (List.mem_cons_of_mem _ hy)⟩]
  rfl
end
def SlV (s : DS) (sz : Nat) (v : Value) (l : List (List Value)) : Prop :=
 (v = .slice none 0 0 ∧ l = []) ∨ ∃ b off sp c, v = .slice (some ⟨b, off, sp⟩) l.length c ∧ s.read b off (l.length * sz) = some l.flatten
def SlX (s : DS) (sz : Nat) (v : Value) (l : List (List Value)) : Prop :=
 (v = .slice none 0 0 ∧ l = []) ∨ ∃ b sp, v = .slice (some ⟨b, 0, sp⟩) l.length l.length ∧ (sp = none ∨ sp = some sz) ∧ s.get b = some (.cells (.list l.flatten) false) ∧ s.wr b = true
section
variable {s s' : DS} {sz : Nat} {v : Value} {l : List (List Value)} {F : List Nat}
theorem SlX.keep (h : SlX s sz v l) (e : Ext F s s') (hd : ∀ k, k ∈ blk v → k ∉ F) : SlX s' sz v l := by
 rcases h with h | ⟨b, sp, rfl, h1, h2, h3⟩
 · exact .inl h
 · exact .inr ⟨b, sp, rfl, h1, e.keep h2 (hd b (by simp [blk])), e.wrs h3⟩
theorem SlX.of (h : SlX s sz v l) (hd : ∀ k, k ∈ blk v → s'.get k = s.get k ∧ (s.wr k = true → s'.wr k = true)) : SlX s' sz v l := by
 rcases h with h | ⟨b, sp, rfl, h1, h2, h3⟩
 · exact .inl h
 · have := hd b (by simp [blk])
   exact .inr ⟨b, sp, rfl, h1, this.1.trans h2, this.2 h3⟩
theorem SlV.of (h : SlV s sz v l) (hd : ∀ k, k ∈ blk v → s'.get k = s.get k) : SlV s' sz v l := by
 rcases h with h | ⟨b, off, sp, c, rfl, h1⟩
 · exact .inl h
 · have := hd b (by simp [blk])
   refine .inr ⟨b, off, sp, c, rfl, ?_⟩
   unfold DS.read at h1 ⊢
   rw [this]; exact h1
theorem SlX.lt (h : SlX s sz v l) : ∀ k, k ∈ blk v → k < s.next := by
 rcases h with ⟨rfl, _⟩ | ⟨b, sp, rfl, h1, h2, h3⟩
 · exact fun k hk => by simp [blk] at hk
 · exact fun k hk => by simp [blk] at hk; subst hk; exact DS.get_lt' h2
theorem SlX.shape (h : SlX s sz v l) : ∃ a, v = .slice a l.length l.length := by
 rcases h with ⟨rfl, rfl⟩ | ⟨b, sp, rfl, _⟩
 · exact ⟨_, rfl⟩
 · exact ⟨_, rfl⟩
theorem SlX.at (h : SlX s sz v l) (hl : l ≠ []) : ∃ b sp, v = .slice (some ⟨b, 0, sp⟩) l.length l.length ∧ (sp = none ∨ sp = some sz) ∧ s.get b = some (.cells (.list l.flatten) false) ∧ s.wr b = true := by
 rcases h with ⟨_, rfl⟩ | h
 · exact absurd rfl hl
 · exact h
theorem SlX.nil : SlX s sz (.slice none 0 0) [] := .inl ⟨rfl, rfl⟩
theorem SlX.one {b : Nat} {sp : Option Nat} (hsp : sp = none ∨ sp = some sz) (hg : s.get b = some (.cells (.list l.flatten) false)) (hw : s.wr b = true) : SlX s sz (.slice (some ⟨b, 0, sp⟩) l.length l.length) l := .inr ⟨b, sp, rfl, hsp, hg, hw⟩
theorem SlX.view (h : SlX s sz v l) (ho : Za sz l) : SlV s sz v l := by
 rcases h with h | ⟨b, sp, rfl, _, h2, _⟩
 · exact .inl h
 · refine .inr ⟨b, 0, sp, _, rfl, ?_⟩
   have := ho.flat
   unfold DS.read
   rw [h2]
   simp only
   rw [Y9 _ _ _ (by omega)]
   simp only [List.drop_zero]
   rw [List.take_of_length_le (by omega)]
def slV (z : Nat) (x : Value) (lo hi mx : Option Value) : Option Value := match x with
 | .slice a len cap => match ZS len cap lo hi mx with
  | some (l, h, m) => Yd a z l h m mx.isSome
  | none => none
 | _ => none
theorem Mk {call : zn} {ρ : Operand → Value} {R : Value × DS → Prop} {z : Nat} {x : Operand} {lo hi mx : Option Operand} : W (dop call ρ s (.slL z x lo hi mx)) R = W (slV z (ρ x) (lo.map ρ) (hi.map ρ) (mx.map ρ)) (atS s R) := by
 rw [LG]
 have e : zb ρ (.slL z x lo hi mx) = slV z (ρ x) (lo.map ρ) (hi.map ρ) (mx.map ρ) := by
  have h1 : mx.isSome = (mx.map ρ).isSome := by cases mx <;> rfl
  show (match ρ x with
   | .slice a len cap => match ZS len cap (lo.map ρ) (hi.map ρ) (mx.map ρ) with
    | some (l, h, m) => Yd a z l h m mx.isSome
    | none => none
   | _ => none) = _
  unfold slV
  rw [h1]
 rw [e]
def Jp (bytes sz : Nat) (x y : Value) (s : DS) : Option (Value × DS) := zl (fun o => match o with | .const v => v | _ => zv) s (.bapp bytes sz (.const x) (.const y))
theorem Mx {call : zn} {ρ : Operand → Value} {R : Value × DS → Prop} {b z : Nat} {x y : Operand} : W (dop call ρ s (.bapp b z x y)) R = W (Jp b z (ρ x) (ρ y) s) R := by
 rw [M7]
 rfl
theorem Wi {ly : List (List Value)} {vy : Value} (hy : SlV s sz vy ly) : YX vy = some ly.length ∧ ZI s sz vy ly.length = some ly.flatten := by
 rcases hy with ⟨rfl, rfl⟩ | ⟨b, off, sp, c, rfl, h⟩
 · exact ⟨rfl, rfl⟩
 · exact ⟨rfl, h⟩
theorem Qj {bytes : Nat} {vx vy : Value} {lx ly : List (List Value)} (hx : SlX s sz vx lx) (hy : SlV s sz vy ly) (ox : Za sz lx) (oy : Za sz ly) (hG : s.Good) (hn : lx.length + ly.length ≤ 1099511627776) (hb : (lx.length + ly.length) * bytes ≤ 1099511627776) :
 W (Jp bytes sz vx vy s) fun r => SlX r.2 sz r.1 (lx ++ ly) ∧ Ext (blk vx) s r.2 ∧ ∀ k, k ∈ blk r.1 → k ∈ blk vx ∨ s.next ≤ k := by
 obtain ⟨hl, hs⟩ := Wi hy
 have hf : (Nat.beq ly.flatten.length (ly.length * sz) && zh ly.flatten) = true := by rw [oy.flat, oy.ones]; simp
 have hnew : ∀ o, (s.new o).get s.next = some o := fun o => DS.new_get_self hG
 have hwn : s.wr s.next = true := (hG _ (Nat.le_refl _)).2
 have h1 : Nat.ble (lx.length + ly.length) 1099511627776 = true := Nat.ble_eq.mpr hn
 have h2 : Nat.ble ((lx.length + ly.length) * bytes) 1099511627776 = true := Nat.ble_eq.mpr hb
 by_cases hly : ly = []
 · subst hly
   have hle : Nat.ble (lx.length + 0) lx.length = true := Nat.ble_eq.mpr (Nat.le_refl _)
   simp only [List.length_nil, List.flatten_nil] at hl hs
   have hf : (Nat.beq ([] : List Value).length (0 * sz) && zh []) = true := by simp [zh]
   rcases hx with ⟨rfl, rfl⟩ | ⟨b, sp, rfl, h3, h4, h5⟩
   · exact W.intro (a := (.slice none 0 0, s)) (by simp only [Jp, zl, hl, hs, hf, Bool.not_true, z3, if_false]; rfl) ⟨.nil, .refl, fun k hk => .inl hk⟩
   · refine W.intro (a := (.slice (some ⟨b, 0, sp⟩) lx.length lx.length, s)) ?_ ⟨by rw [List.append_nil]; exact .inr ⟨b, sp, rfl, h3, h4, h5⟩, .refl, fun k hk => .inl hk⟩
     simp only [Jp, zl, hl, hs, hf, hle, Bool.not_true, z3, if_false, if_true]
     rfl
 · have hpos : 0 < ly.length := List.length_pos_iff.2 hly
   have hle : Nat.ble (lx.length + ly.length) lx.length = false := by
    cases hq : Nat.ble (lx.length + ly.length) lx.length with
    | false => rfl
    | true => have := Nat.ble_eq.mp hq; omega
   rcases hx with ⟨rfl, rfl⟩ | ⟨b, sp, rfl, h3, h4, h5⟩
   · have hle' : Nat.ble (0 + ly.length) 0 = false := by simpa using hle
     simp only [List.length_nil] at h1 h2
     refine W.intro (a := (.slice (some ⟨s.next, 0, some sz⟩) ly.length ly.length, s.new (.cells (.list ly.flatten) false))) ?_ ⟨.inr ⟨s.next, some sz, rfl, .inr rfl, hnew _, hwn⟩, Ext.new, fun k hk => .inr (by simp [blk] at hk; omega)⟩
     simp only [Jp, zl, hl, hs, hf, hle', h1, h2, Bool.not_true, z3, if_false, if_true, Bool.and_self, Nat.beq_refl]
   · have hr : (Cells.list lx.flatten).take 0 (lx.length * sz) = some lx.flatten := by
      have := ox.flat
      rw [Y9 _ _ _ (by omega)]
      simp only [List.drop_zero]
      rw [List.take_of_length_le (by omega)]
     have hl2 : (lx ++ ly).length = lx.length + ly.length := List.length_append
     have hfl : (lx ++ ly).flatten = lx.flatten ++ ly.flatten := List.flatten_append
     rcases h3 with rfl | rfl
     · have hrd : s.read b 0 (lx.length * sz) = some lx.flatten := by unfold DS.read; rw [h4]; exact hr
       refine W.intro (a := (.slice (some ⟨s.next, 0, some sz⟩) (lx.length + ly.length) (lx.length + ly.length), s.new (.cells (.list (lx.flatten ++ ly.flatten)) false))) ?_ ⟨.inr ⟨s.next, some sz, by rw [hl2], .inr rfl, by rw [hfl]; exact hnew _, hwn⟩, Ext.new, fun k hk => .inr (by simp [blk] at hk; omega)⟩
       simp only [Jp, zl, hl, hs, hf, hle, h1, h2, Bool.not_true, z3, if_false, if_true, Bool.and_self, hrd, ox.ones]
     · have hk : s.kill b = some (s.rid b) := DS.kill_rid (by rw [h4]; rfl) h5
       have hlt : ¬ s.next = b := by have := DS.get_lt' h4; omega
       have hnew2 : ∀ o, ((s.rid b).new o).get s.next = some o := fun o => by
        have := DS.new_get_self (s := s.rid b) (o := o) (by rw [DS.rid_good]; exact hG)
        rwa [DS.rid_next] at this
       refine W.intro (a := (.slice (some ⟨s.next, 0, some sz⟩) (lx.length + ly.length) (lx.length + ly.length), (s.rid b).new (.cells (.list (lx.flatten ++ ly.flatten)) false))) ?_ ⟨.inr ⟨s.next, some sz, by rw [hl2], .inr rfl, by rw [hfl]; exact hnew2 _, by rw [DS.new_wr, DS.rid_wr]; exact hwn⟩, ?_, fun k hk => .inr (by simp [blk] at hk; omega)⟩
       · simp only [Jp, zl, hl, hs, hf, hle, h1, h2, Bool.not_true, z3, if_false, if_true, Bool.and_self, Nat.beq_refl, h4, hr, hk, ox.ones, Cells.like, Cells.plain, DS.rid_next]
       · exact (Ext.rid (F := [b]) (.inl (by simp))).trans' Ext.new
end
theorem sA : type_of% (And.intro @PJ (And.intro @VW (And.intro @TC (And.intro @Do (And.intro @TA (And.intro @PK (And.intro @TB (And.intro @Q2 (And.intro @VI (And.intro @KX (And.intro @Q4 (And.intro @VL (And.intro @KZ (And.intro @JM (And.intro @F6 (And.intro @VJ (And.intro @KY (And.intro @Q3 (And.intro @PI (And.intro @My (And.intro @Mz (And.intro @LK (And.intro @MB (And.intro @MA (And.intro @FF (And.intro @FG (And.intro @FH (And.intro @FI (And.intro @K0 (And.intro @JP (And.intro @F7 (And.intro @F8 (And.intro @F9 (And.intro @VK (And.intro @Pq (And.intro @Pt (And.intro @Ps (And.intro @Pu (And.intro @Pr (And.intro @zM (And.intro @LH (And.intro @Py (And.intro @Mv (And.intro @Mt (And.intro @LE (And.intro @Ts (And.intro @Tp (And.intro @Tt (And.intro @Mn (And.intro @PD (And.intro @Mr (And.intro @Mp (And.intro @Ms (And.intro @Tw (And.intro @LI (And.intro @PA (And.intro @Tv (And.intro @LF (And.intro @Tz (And.intro @Mu (And.intro @Tq (And.intro @Pz (And.intro @PH (And.intro @PE (And.intro @Du (And.intro @JS (And.intro @R5 (And.intro @FQ (And.intro @Ta (And.intro @Vt (And.intro @Vu (And.intro @Yl (And.intro @Xp (And.intro @z0 (And.intro @Wm (And.intro @List.getElem?_cons_zero.{0} (And.intro @List.getElem?_cons_succ.{0} (And.intro @Option.getD_some.{0} (And.intro @List.map_cons.{0,0} (And.intro @List.map_nil.{0,0} (And.intro @RD (And.intro @Nat.zero_add (And.intro @N2 (And.intro @VQ (And.intro @K1 (And.intro @VM (And.intro @VN (And.intro @JQ (And.intro @VP (And.intro @cells_func (And.intro @VR (And.intro @List.length_cons.{0} (And.intro @List.length_nil.{0} (And.intro @Bool.and_self (And.intro @Bool.and_true (And.intro @Bool.true_and (And.intro @Bool.and_eq_true (And.intro @Nat.beq_eq (And.intro @Nat.ble_eq (And.intro @Nat.blt_eq (And.intro @Nat.le_refl (And.intro @and_self (And.intro @and_true (And.intro @true_and (And.intro @if_true.{1} (And.intro @if_false.{1} (And.intro @ite_true.{1} (And.intro @ite_false.{1} (And.intro @Bool.not_true (And.intro @Bool.not_false (And.intro @z3 (And.intro @List.take_zero.{0} (And.intro @List.take_succ_cons.{0} (And.intro @List.drop_succ_cons.{0} (And.intro @List.drop_zero.{0} (And.intro @List.nil_append.{0} (And.intro @List.cons_append.{0} (And.intro @List.take_nil.{0} (And.intro @List.drop_nil.{0} (And.intro @List.append_nil.{0} (And.intro @DS.upd_get_self (And.intro @DS.upd_get_ne (And.intro @DS.upd_next (And.intro @DS.upd_wr (And.intro @DS.upd_vis (And.intro @Option.map_some.{0,0} (And.intro @Option.isSome_some.{0} (And.intro @DS.set_upd (And.intro @z8 (And.intro @wrN (And.intro @Le (And.intro @Ma (And.intro @N9 (And.intro @wrU (And.intro @Mk (And.intro @Mx (And.intro @Dn (And.intro @Option.map_none.{0,0} (And.intro @Mw (And.intro @Mo (And.intro @Jt (And.intro @KG (And.intro @List.length_append.{0} (And.intro @Qn (And.intro @WM (And.intro @Nat.add_zero (And.intro @Z8 (And.intro @Nat.mul_one (And.intro @Nat.zero_mul (And.intro @decide_true (And.intro @decide_false (And.intro @List.toList_toArray.{0} (And.intro @eq_self.{1} (And.intro @Option.isNone_none.{0} (And.intro @Option.isNone_some.{0} (And.intro @Zj (And.intro @Bool.or_false (And.intro @Bool.false_and (And.intro @Mq (And.intro @Mm (And.intro @PC (And.intro @PB (And.intro @Tx (And.intro @PF (And.intro @PG (And.intro @Tr (And.intro @VV (And.intro @Ml (And.intro @Tu (And.intro @Ty (@FE))))))))))))))))))))))))))))))))))))))))))))))))))))))))))))))))))))))))))))))))))))))))))))))))))))))))))))))))))))))))))))))))))))))))))))))))))))))))))))))))))))))))))) := And.intro @PJ (And.intro @VW (And.intro @TC (And.intro @Do (And.intro @TA (And.intro @PK (And.intro @TB (And.intro @Q2 (And.intro @VI (And.intro @KX (And.intro @Q4 (And.intro @VL (And.intro @KZ (And.intro @JM (And.intro @F6 (And.intro @VJ (And.intro @KY (And.intro @Q3 (And.intro @PI (And.intro @My (And.intro @Mz (And.intro @LK (And.intro @MB (And.intro @MA (And.intro @FF (And.intro @FG (And.intro @FH (And.intro @FI (And.intro @K0 (And.intro @JP (And.intro @F7 (And.intro @F8 (And.intro @F9 (And.intro @VK (And.intro @Pq (And.intro @Pt (And.intro @Ps (And.intro @Pu (And.intro @Pr (And.intro @zM (And.intro @LH (And.intro @Py (And.intro @Mv (And.intro @Mt (And.intro @LE (And.intro @Ts (And.intro @Tp (And.intro @Tt (And.intro @Mn (And.intro @PD (And.intro @Mr (And.intro @Mp (And.intro @Ms (And.intro @Tw (And.intro @LI (And.intro @PA (And.intro @Tv (And.intro @LF (And.intro @Tz (And.intro @Mu (And.intro @Tq (And.intro @Pz (And.intro @PH (And.intro @PE (And.intro @Du (And.intro @JS (And.intro @R5 (And.intro @FQ (And.intro @Ta (And.intro @Vt (And.intro @Vu (And.intro @Yl (And.intro @Xp (And.intro @z0 (And.intro @Wm (And.intro @List.getElem?_cons_zero.{0} (And.intro @List.getElem?_cons_succ.{0} (And.intro @Option.getD_some.{0} (And.intro @List.map_cons.{0,0} (And.intro @List.map_nil.{0,0} (And.intro @RD (And.intro @Nat.zero_add (And.intro @N2 (And.intro @VQ (And.intro @K1 (And.intro @VM (And.intro @VN (And.intro @JQ (And.intro @VP (And.intro @cells_func (And.intro @VR (And.intro @List.length_cons.{0} (And.intro @List.length_nil.{0} (And.intro @Bool.and_self (And.intro @Bool.and_true (And.intro @Bool.true_and (And.intro @Bool.and_eq_true (And.intro @Nat.beq_eq (And.intro @Nat.ble_eq (And.intro @Nat.blt_eq (And.intro @Nat.le_refl (And.intro @and_self (And.intro @and_true (And.intro @true_and (And.intro @if_true.{1} (And.intro @if_false.{1} (And.intro @ite_true.{1} (And.intro @ite_false.{1} (And.intro @Bool.not_true (And.intro @Bool.not_false (And.intro @z3 (And.intro @List.take_zero.{0} (And.intro @List.take_succ_cons.{0} (And.intro @List.drop_succ_cons.{0} (And.intro @List.drop_zero.{0} (And.intro @List.nil_append.{0} (And.intro @List.cons_append.{0} (And.intro @List.take_nil.{0} (And.intro @List.drop_nil.{0} (And.intro @List.append_nil.{0} (And.intro @DS.upd_get_self (And.intro @DS.upd_get_ne (And.intro @DS.upd_next (And.intro @DS.upd_wr (And.intro @DS.upd_vis (And.intro @Option.map_some.{0,0} (And.intro @Option.isSome_some.{0} (And.intro @DS.set_upd (And.intro @z8 (And.intro @wrN (And.intro @Le (And.intro @Ma (And.intro @N9 (And.intro @wrU (And.intro @Mk (And.intro @Mx (And.intro @Dn (And.intro @Option.map_none.{0,0} (And.intro @Mw (And.intro @Mo (And.intro @Jt (And.intro @KG (And.intro @List.length_append.{0} (And.intro @Qn (And.intro @WM (And.intro @Nat.add_zero (And.intro @Z8 (And.intro @Nat.mul_one (And.intro @Nat.zero_mul (And.intro @decide_true (And.intro @decide_false (And.intro @List.toList_toArray.{0} (And.intro @eq_self.{1} (And.intro @Option.isNone_none.{0} (And.intro @Option.isNone_some.{0} (And.intro @Zj (And.intro @Bool.or_false (And.intro @Bool.false_and (And.intro @Mq (And.intro @Mm (And.intro @PC (And.intro @PB (And.intro @Tx (And.intro @PF (And.intro @PG (And.intro @Tr (And.intro @VV (And.intro @Ml (And.intro @Tu (And.intro @Ty (@FE))))))))))))))))))))))))))))))))))))))))))))))))))))))))))))))))))))))))))))))))))))))))))))))))))))))))))))))))))))))))))))))))))))))))))))))))))))))))))))))))))))))))))
theorem sM : type_of% (And.intro @ZD (And.intro @YM (And.intro @Fx (And.intro @DS.upd_good (And.intro @CZ (And.intro @Md (And.intro @Me (And.intro @Fr (And.intro @Fq (And.intro @Fu (And.intro @Nat.add_assoc (And.intro @Nat.lt_add_one (And.intro @Nat.zero_lt_succ (And.intro @Nat.lt_irrefl (And.intro @Nat.succ_pos (And.intro @Nat.add_lt_add_iff_left (And.intro @Nat.add_le_add_iff_left (@Nat.add_left_cancel_iff)))))))))))))))))) := And.intro @ZD (And.intro @YM (And.intro @Fx (And.intro @DS.upd_good (And.intro @CZ (And.intro @Md (And.intro @Me (And.intro @Fr (And.intro @Fq (And.intro @Fu (And.intro @Nat.add_assoc (And.intro @Nat.lt_add_one (And.intro @Nat.zero_lt_succ (And.intro @Nat.lt_irrefl (And.intro @Nat.succ_pos (And.intro @Nat.add_lt_add_iff_left (And.intro @Nat.add_le_add_iff_left (@Nat.add_left_cancel_iff)))))))))))))))))
end Go.Dx
