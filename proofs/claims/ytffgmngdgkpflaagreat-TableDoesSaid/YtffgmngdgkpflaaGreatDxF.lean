/- A part. -/
import Derived.Test.YtffgmngdgkpflaaGreatDxW
set_option linter.unusedVariables false
set_option linter.unusedSimpArgs false
set_option linter.unusedSectionVars false
namespace Go.Dx
open Go
section
variable {E : Env} {call : zy} {lf : Nat} {r : Bool} {t : PT Value} {s : DS} {ds : List Nat} {K : DExit → St → Prop} {d l k : Nat} {Q : Value × DS → Prop}
def SO (l : Nat) (t : PT Value) (ds : List Nat) (K : DExit → St → Prop) : Value × DS → Prop := fun r => match r.2.get l with
 | some (.loop st e t' ps a b) => (st = .ready ∨ st = .done) ∧ r.2.wr l = true ∧ K e ⟨t, r.2.upd l (.loop .exhausted e t' ps a b), ds⟩
 | _ => False
theorem CJ {v : Value} {s' : DS} {st : LoopSt} {e : DExit} {t' : PT Value} {ps : List Nat} {a b : DCode} (hg : s'.get l = some (.loop st e t' ps a b)) (hs : st = .ready ∨ st = .done) (hw : s'.wr l = true)
 (h : K e ⟨t, s'.upd l (.loop .exhausted e t' ps a b), ds⟩) : SO l t ds K (v, s') := by
 unfold SO
 simp only [hg]
 exact ⟨hs, hw, h⟩
def Ge (t : PT Value) (ps : List Nat) (a b : DCode) : DObj := .loop .ready .normal t ps a b
theorem LE {f : Operand} {ps : List Nat} {assign body : DCode} {g : FuncId} {a b : Array Value} (hf : ev t f = .func (.func g) a b)
 (h : W (call (.func (.func g) a b) [.func (.yield (s.next + 1)) #[] #[]] ((s.new .dfr).new (Ge t ps assign body))) (SO (s.next + 1) t (s.next :: ds) K)) :
 WC call lf false (.rangeFunc f ps assign body) ⟨t, s, ds⟩ K := by
 obtain ⟨⟨v, s3⟩, h1, h2⟩ := h
 unfold SO at h2
 simp only at h2
 unfold WC
 simp only [zV, hf, z3, if_false]
 have h1' : call (.func (.func g) a b) [.func (.yield (s.new .dfr).next) #[] #[]] ((s.new .dfr).new (.loop .ready .normal t ps assign body)) = some (v, s3) := h1
 rw [h1']
 simp only
 have e1 : (s.new DObj.dfr).next = s.next + 1 := rfl
 rw [e1]
 split at h2
 · rename_i st e t' ps' a' b' hg
   obtain ⟨hst, hw, hk⟩ := h2
   rw [hg]
   simp only
   rw [if_pos hst, DS.set_upd (by rw [hg]; rfl) hw]
   exact W.intro rfl hk
 · exact absurd h2 id
def CC (l : Nat) (Q : Value × DS → Prop) : DExit → St → Prop := fun e y => match y.s.get l with
 | some (.loop .busy _ t3 ps3 a3 b3) => y.s.wr l = true ∧ Q (.bool (decide (e = .normal)), y.s.upd l (.loop (if e = .normal then .ready else .done) e t3 ps3 a3 b3))
 | _ => False
def SM (E : Env) (d l : Nat) (body : DCode) (Q : Value × DS → Prop) : DExit → St → Prop := fun e x => match e, x.s.get l with
 | .normal, some (.loop .ready p2 t2 ps2 a2 b2) => x.s.wr l = true ∧ WC (dcall E d) E.lf true body ⟨x.t, x.s.upd l (.loop .busy p2 t2 ps2 a2 b2), x.defers⟩ (CC l Q)
 | _, _ => False
theorem Gz {e p : DExit} {y : St} {t3 : PT Value} {ps3 : List Nat} {a3 b3 : DCode} (hg : y.s.get l = some (.loop .busy p t3 ps3 a3 b3)) (hw : y.s.wr l = true)
 (h : Q (.bool (decide (e = .normal)), y.s.upd l (.loop (if e = .normal then .ready else .done) e t3 ps3 a3 b3))) : CC l Q e y := by
 unfold CC
 rw [hg]
 exact ⟨hw, h⟩
theorem CD {x : St} {p2 : DExit} {t2 : PT Value} {ps2 : List Nat} {a2 b2 body : DCode} (hg : x.s.get l = some (.loop .ready p2 t2 ps2 a2 b2)) (hw : x.s.wr l = true)
 (h : WC (dcall E d) E.lf true body ⟨x.t, x.s.upd l (.loop .busy p2 t2 ps2 a2 b2), x.defers⟩ (CC l Q)) : SM E d l body Q .normal x := by
 unfold SM
 rw [hg]
 exact ⟨hw, h⟩
theorem ST {ps : List Nat} {p : DExit} {assign body : DCode} {args : List Value} {a b : Array Value} (hg : s.get l = some (.loop .ready p t ps assign body)) (hl : ps.length = args.length)
 (h : WC (dcall E d) E.lf true assign ⟨ZJ t ps args, s, []⟩ (SM E d l body Q)) : W (dcall E (d + 1) (.func (.yield l) a b) args s) Q := by
 obtain ⟨⟨e, x⟩, h1, h2⟩ := h
 simp only at h2
 unfold SM at h2
 simp only [dcall, hg, hl]
 have hb : Nat.beq args.length args.length = true := Nat.beq_refl _
 simp only [hb, decide_true, Bool.and_self, if_true, h1]
 split at h2
 · rename_i p2 t2 ps2 a2 b2 hx
   obtain ⟨hw, ⟨e3, y⟩, h3, h4⟩ := h2
   simp only [hx, DS.set_upd (show (x.s.get l).isSome = true by rw [hx]; rfl) hw, h3]
   unfold CC at h4
   simp only at h4
   split at h4
   · rename_i p3 t3 ps3 a3 b3 hy
     obtain ⟨hw3, hq⟩ := h4
     simp only [hy, DS.set_upd (show (y.s.get l).isSome = true by rw [hy]; rfl) hw3]
     exact W.intro rfl hq
   · exact absurd h4 id
 · exact absurd h2 id
theorem FU {rs : List DRes} (hk : s.get k = some .dfr) (hw : s.wr k = true) : Ends rs Q .ret ⟨t, s, [k]⟩ = W (za t (s.rid k) rs) fun vs => Q (zd vs, s.rid k) := by
 simp only [Ends, ZN, hk, DS.kill_rid (show (s.get k).isSome = true by rw [hk]; rfl) hw, z7]
theorem Jz : ZJ t [] [] = t := rfl
theorem QQ {p : Nat} {ps : List Nat} {v : Value} {vs : List Value} : ZJ t (p :: ps) (v :: vs) = ZJ (t.put p (some v)) ps vs := rfl
end
section
variable {s s1 : DS} {nt : List ZW} {haz : List Nat} {F : List Nat} {k : Nat} {o : DObj}
theorem KS : unmask s (mask s nt haz) = s := rfl
theorem Zq (hG : s.Good) (hh : ∀ k, s.next ≤ k → hidden nt haz k = false ∧ shielded nt haz k = false) : (mask s nt haz).Good := fun k hk => by
 obtain ⟨h1, h2⟩ := hG k hk
 obtain ⟨h3, h4⟩ := hh k hk
 unfold mask
 simp [h1, h2, h3, h4]
theorem Qq (hw : s.wr k = true) (h1 : hidden nt haz k = false) (h2 : shielded nt haz k = false) : (mask s nt haz).wr k = true := by
 unfold mask
 simp [hw, h1, h2]
theorem Je : (unmask s s1).wr = s.wr := rfl
theorem QK (hh : ∀ k, hidden nt haz k = false) (e : Ext F (mask s nt haz) s1) : (unmask s s1).get k = s1.get k := by
 unfold DS.get
 have : s1.vis k = s.vis k := by rw [e.vis]; simp [mask, hh]
 simp only [unmask, this]
 rfl
theorem Ext.unmask (hh : ∀ k, hidden nt haz k = false) (e : Ext F (mask s nt haz) s1) : Ext F s (unmask s s1) :=
 ⟨e.le, rfl, rfl, fun k hk hf => by rw [QK hh e, e.get k hk hf, Zg (hh k)]⟩
theorem Dr {a b : Nat} (h : a ≠ b) : Nat.beq a b = false := by
 cases e : Nat.beq a b with
 | false => rfl
 | true => exact absurd (Nat.eq_of_beq_eq_true e) h
theorem zD {a b : Nat} : (Nat.ble a b = false) = (b < a) := by
 cases e : Nat.ble a b with
 | false => simp; exact Nat.lt_of_not_le fun h => by rw [Nat.ble_eq.mpr h] at e; cases e
 | true => have := Nat.ble_eq.mp e; simp; omega
theorem zM {a b : Nat} : (Nat.blt a b = false) = (b ≤ a) := by
 unfold Nat.blt
 rw [zD]
 exact propext ⟨fun h => by omega, fun h => by omega⟩
theorem zH {a b : Nat} : (Nat.beq a b = false) = ¬ a = b := propext ⟨fun h e => (by subst e; rw [Nat.beq_refl] at h; cases h), Dr⟩
theorem Gj : hidden nt [] k = false := rfl
theorem Yn (h : hidden nt haz k = false) (e : Ext F (mask s nt haz) s1) : (unmask s s1).get k = s1.get k := by
 unfold DS.get
 have : s1.vis k = s.vis k := by rw [e.vis]; simp [mask, h]
 simp only [unmask, this]
 rfl
theorem Ext.unmask' (e : Ext F (mask s nt haz) s1) (f : zu (mask s nt haz) s1) : Ext F s (Go.Dx.unmask s s1) := by
 refine ⟨e.le, rfl, rfl, fun k hk hf => ?_⟩
 cases hh : hidden nt haz k with
 | false => rw [Yn hh e, e.get k hk hf, Zg hh]
 | true =>
  have h1 := f.keep k hk (by simp [mask, hh])
  have h2 : Nat.blt k s1.next = true := Qe (Nat.lt_of_lt_of_le hk f.next)
  have h3 : Nat.blt k s.next = true := Qe hk
  unfold DS.get
  simp only [Go.Dx.unmask, h2, h3]
  rw [h1]
  rfl
theorem W.masked {call : zy} (hc : zG call) {f : Value} {args : List Value} {P R : Value × DS → Prop} {s : DS} (h : W (call f args s) P) (k : ∀ v s1, P (v, s1) → zu s s1 → R (v, s1)) : W (call f args s) R := by
 obtain ⟨⟨v, s1⟩, h1, h2⟩ := h
 exact W.intro h1 (k v s1 h2 (hc _ _ _ _ _ h1))
end
theorem zU {s : DS} {o : DObj} : (s.new o).next = s.next + 1 := Eq.trans rfl rfl
theorem wrN {s : DS} {o : DObj} : (s.new o).wr = s.wr := Eq.trans rfl rfl
theorem Hh {s : DS} {o : DObj} : (s.new o).vis = s.vis := Eq.trans rfl rfl
theorem Lf {s : DS} {nt : List ZW} {haz : List Nat} : (mask s nt haz).next = s.next := Eq.trans rfl rfl
theorem Le {s s1 : DS} : (unmask s s1).next = s1.next := Eq.trans rfl rfl
theorem wrU {s s1 : DS} : (unmask s s1).wr = s.wr := Eq.trans rfl rfl
theorem zR {s : DS} {j : Nat} {o : DObj} (h : s.Good) (e : j = s.next) : (s.new o).get j = some o := by subst e; exact DS.new_get_self h
theorem Xo {s : DS} {j : Nat} {o : DObj} (e : j < s.next) : (s.new o).get j = s.get j := DS.new_get_lt e
theorem Ce {s : DS} {o : DObj} (h : s.Good) : (s.new o).Good = True := eq_true (DS.new_good h)
theorem SA {s : DS} {j : Nat} (h : s.Good) (e : s.next ≤ j) : s.wr j = true := (h j e).2
theorem WF {a b : Nat} (h : a < b) : (a = b) = False := eq_false (Nat.ne_of_lt h)
theorem Li {a b : Nat} (h : b < a) : (a = b) = False := eq_false (Nat.ne_of_gt h)
theorem D7 {n m k : Nat} (h : n < m) : (n < m + k) = True := eq_true (Nat.lt_add_right k h)
theorem D6 {m k : Nat} (h : 0 < k) : (m < m + k) = True := eq_true (Nat.lt_add_of_pos_right h)
theorem D9 {m k : Nat} : (m ≤ m + k) = True := eq_true (Nat.le_add_right m k)
theorem zQ (l : List Value) : ∀ (n off : Nat), off + n ≤ l.length → (Cells.list l).take off n = some ((l.drop off).take n)
 | 0, off, _ => by simp [Cells.take]
 | n + 1, off, h => by
  have h0 : off < l.length := by omega
  have h1 : (Cells.list l).get off = some l[off] := by simp only [Cells.get, W7]; exact List.getElem?_eq_getElem h0
  have h2 := zQ l n (off + 1) (by omega)
  unfold Cells.take
  rw [h1]
  simp only [h2]
  rw [List.drop_eq_getElem_cons h0]
  rfl
theorem JG : ∀ (a b : List Value), allOne (a ++ b) = (allOne a && allOne b)
 | [], b => by simp [allOne]
 | x :: a, b => by simp [allOne, JG a b, Bool.and_assoc]
theorem WE {n : Nat} : ∀ {l : List (List Value)}, (∀ x, x ∈ l → x.length = n) → l.flatten.length = l.length * n
 | [], _ => by simp
 | x :: l, h => by
  have h1 := h x (List.mem_cons_self ..)
  have h2 := WE (l := l) fun y hy => h y (List.mem_cons_of_mem _ hy)
  simp only [List.flatten_cons, List.length_append, h1, h2, List.length_cons, Nat.succ_mul]
  omega
theorem XV {n : Nat} : ∀ {l : List (List Value)} (i : Nat), (∀ x, x ∈ l → x.length = n) → l.flatten.drop (i * n) = (l.drop i).flatten
 | l, 0, _ => by simp
 | [], i + 1, _ => by simp
 | x :: l, i + 1, h => by
  have h1 := h x (List.mem_cons_self ..)
  have h2 := XV (l := l) i fun y hy => h y (List.mem_cons_of_mem _ hy)
  simp only [List.flatten_cons, List.drop_succ_cons]
  rw [show (i + 1) * n = x.length + i * n by rw [h1, Nat.succ_mul]; omega, ← List.drop_drop, List.drop_left, h2]
theorem Qu {n : Nat} : ∀ {l : List (List Value)} (i : Nat), (∀ x, x ∈ l → x.length = n) → l.flatten.take (i * n) = (l.take i).flatten
 | l, 0, _ => by simp
 | [], i + 1, _ => by simp
 | x :: l, i + 1, h => by
  have h1 := h x (List.mem_cons_self ..)
  have h2 := Qu (l := l) i fun y hy => h y (List.mem_cons_of_mem _ hy)
  simp only [List.flatten_cons, List.take_succ_cons]
  rw [show (i + 1) * n = x.length + i * n by rw [h1, Nat.succ_mul]; omega, List.take_append, List.take_of_length_le (by omega), show x.length + i * n - x.length = i * n by omega, h2]
theorem Q2 {n : Nat} {l : List (List Value)} {i j : Nat} {x : List Value} {y : Value} (h : ∀ x, x ∈ l → x.length = n) (hx : l[i]? = some x) (hy : x[j]? = some y) : getN l.flatten (i * n + j) = some y := by
 have hj : j < n := by
  have := h x (List.mem_of_getElem? hx)
  have := (List.getElem?_eq_some_iff.1 hy).1
  omega
 rw [W7, ← List.getElem?_drop, XV i h]
 have hi := (List.getElem?_eq_some_iff.1 hx).1
 rw [List.drop_eq_getElem_cons hi]
 have : l[i] = x := by have := List.getElem?_eq_getElem hi; rw [hx] at this; exact (Option.some.inj this).symm
 rw [this, List.flatten_cons, List.getElem?_append_left (by have := h x (List.mem_of_getElem? hx); omega)]
 exact hy
def blk : Value → List Nat
 | .slice (some a) _ _ => [a.block]
 | _ => []
structure zW (sz : Nat) (l : List (List Value)) : Prop where
 len : ∀ x, x ∈ l → x.length = sz
 one : ∀ x, x ∈ l → allOne x = true
section
variable {sz : Nat} {l l' : List (List Value)}
theorem zW.nil : zW sz [] := ⟨fun _ h => (nomatch h), fun _ h => (nomatch h)⟩
theorem zW.flat (h : zW sz l) : l.flatten.length = l.length * sz := WE h.len
theorem zW.append (h : zW sz l) (h' : zW sz l') : zW sz (l ++ l') := ⟨fun x hx => (List.mem_append.1 hx).elim (h.len x) (h'.len x), fun x hx => (List.mem_append.1 hx).elim (h.one x) (h'.one x)⟩
theorem zW.sub (h : zW sz l) (hs : ∀ x, x ∈ l' → x ∈ l) : zW sz l' := ⟨fun x hx => h.len x (hs x hx), fun x hx => h.one x (hs x hx)⟩
theorem zW.ones : ∀ {l : List (List Value)}, zW sz l → allOne l.flatten = true
 | [], _ => rfl
 | x :: l, h => by
  rw [List.flatten_cons, JG, h.one x (List.mem_cons_self ..), zW.ones (l := l) ⟨fun y hy => h.len y (List.mem_cons_of_mem _ hy), fun y hy => h.one y (List.mem_cons_of_mem _ hy)⟩]
  rfl
end
def SlV (s : DS) (sz : Nat) (v : Value) (l : List (List Value)) : Prop :=
 (v = .slice none 0 0 ∧ l = []) ∨ ∃ b off sp c, v = .slice (some ⟨b, off, sp⟩) l.length c ∧ s.read b off (l.length * sz) = some l.flatten
def SlX (s : DS) (sz : Nat) (v : Value) (l : List (List Value)) : Prop :=
 (v = .slice none 0 0 ∧ l = []) ∨ ∃ b sp, v = .slice (some ⟨b, 0, sp⟩) l.length l.length ∧ (sp = none ∨ sp = some sz) ∧ s.get b = some (.cells (.list l.flatten) false) ∧ s.wr b = true
section
variable {s s' : DS} {sz : Nat} {v : Value} {l : List (List Value)} {F : List Nat}
theorem SlX.keep (h : SlX s sz v l) (e : Ext F s s') (hd : ∀ k, k ∈ blk v → k ∉ F) : SlX s' sz v l := by
 rcases h with h | ⟨b, sp, rfl, h1, h2, h3⟩
 · exact .inl h
 · exact .inr ⟨b, sp, rfl, h1, e.keep h2 (hd b (by simp [blk])), e.wrs h3⟩
theorem SlX.of (h : SlX s sz v l) (hd : ∀ k, k ∈ blk v → s'.get k = s.get k ∧ (s.wr k = true → s'.wr k = true)) : SlX s' sz v l := by
 rcases h with h | ⟨b, sp, rfl, h1, h2, h3⟩
 · exact .inl h
 · have := hd b (by simp [blk])
   exact .inr ⟨b, sp, rfl, h1, this.1.trans h2, this.2 h3⟩
theorem SlV.of (h : SlV s sz v l) (hd : ∀ k, k ∈ blk v → s'.get k = s.get k) : SlV s' sz v l := by
 rcases h with h | ⟨b, off, sp, c, rfl, h1⟩
 · exact .inl h
 · have := hd b (by simp [blk])
   refine .inr ⟨b, off, sp, c, rfl, ?_⟩
   unfold DS.read at h1 ⊢
   rw [this]; exact h1
theorem SlX.lt (h : SlX s sz v l) : ∀ k, k ∈ blk v → k < s.next := by
 rcases h with ⟨rfl, _⟩ | ⟨b, sp, rfl, h1, h2, h3⟩
 · exact fun k hk => by simp [blk] at hk
 · exact fun k hk => by simp [blk] at hk; subst hk; exact DS.get_lt' h2
theorem SlX.shape (h : SlX s sz v l) : ∃ a, v = .slice a l.length l.length := by
 rcases h with ⟨rfl, rfl⟩ | ⟨b, sp, rfl, _⟩
 · exact ⟨_, rfl⟩
 · exact ⟨_, rfl⟩
theorem SlX.at (h : SlX s sz v l) (hl : l ≠ []) : ∃ b sp, v = .slice (some ⟨b, 0, sp⟩) l.length l.length ∧ (sp = none ∨ sp = some sz) ∧ s.get b = some (.cells (.list l.flatten) false) ∧ s.wr b = true := by
 rcases h with ⟨_, rfl⟩ | h
 · exact absurd rfl hl
 · exact h
theorem SlX.nil : SlX s sz (.slice none 0 0) [] := .inl ⟨rfl, rfl⟩
theorem SlX.one {b : Nat} {sp : Option Nat} (hsp : sp = none ∨ sp = some sz) (hg : s.get b = some (.cells (.list l.flatten) false)) (hw : s.wr b = true) : SlX s sz (.slice (some ⟨b, 0, sp⟩) l.length l.length) l := .inr ⟨b, sp, rfl, hsp, hg, hw⟩
theorem SlX.view (h : SlX s sz v l) (ho : zW sz l) : SlV s sz v l := by
 rcases h with h | ⟨b, sp, rfl, _, h2, _⟩
 · exact .inl h
 · refine .inr ⟨b, 0, sp, _, rfl, ?_⟩
   have := ho.flat
   unfold DS.read
   rw [h2]
   simp only
   rw [zQ _ _ _ (by omega)]
   simp only [List.drop_zero]
   rw [List.take_of_length_le (by omega)]
def slV (z : Nat) (x : Value) (lo hi mx : Option Value) : Option Value := match x with
 | .slice a len cap => match Zy len cap lo hi mx with
  | some (l, h, m) => ZU a z l h m mx.isSome
  | none => none
 | _ => none
theorem Lm {call : zy} {ρ : Operand → Value} {R : Value × DS → Prop} {z : Nat} {x : Operand} {lo hi mx : Option Operand} : W (dop call ρ s (.slL z x lo hi mx)) R = W (slV z (ρ x) (lo.map ρ) (hi.map ρ) (mx.map ρ)) (atS s R) := by
 rw [HQ]
 have e : zb ρ (.slL z x lo hi mx) = slV z (ρ x) (lo.map ρ) (hi.map ρ) (mx.map ρ) := by
  have h1 : mx.isSome = (mx.map ρ).isSome := by cases mx <;> rfl
  show (match ρ x with
   | .slice a len cap => match Zy len cap (lo.map ρ) (hi.map ρ) (mx.map ρ) with
    | some (l, h, m) => ZU a z l h m mx.isSome
    | none => none
   | _ => none) = _
  unfold slV
  rw [h1]
 rw [e]
def JT (bytes sz : Nat) (x y : Value) (s : DS) : Option (Value × DS) := zn (fun o => match o with | .const v => v | _ => zK) s (.bapp bytes sz (.const x) (.const y))
theorem Lz {call : zy} {ρ : Operand → Value} {R : Value × DS → Prop} {b z : Nat} {x y : Operand} : W (dop call ρ s (.bapp b z x y)) R = W (JT b z (ρ x) (ρ y) s) R := by
 rw [Hc]
 rfl
theorem Xi {ly : List (List Value)} {vy : Value} (hy : SlV s sz vy ly) : WI vy = some ly.length ∧ Yb s sz vy ly.length = some ly.flatten := by
 rcases hy with ⟨rfl, rfl⟩ | ⟨b, off, sp, c, rfl, h⟩
 · exact ⟨rfl, rfl⟩
 · exact ⟨rfl, h⟩
theorem Jw {bytes : Nat} {vx vy : Value} {lx ly : List (List Value)} (hx : SlX s sz vx lx) (hy : SlV s sz vy ly) (ox : zW sz lx) (oy : zW sz ly) (hG : s.Good) (hn : lx.length + ly.length ≤ 1099511627776) (hb : (lx.length + ly.length) * bytes ≤ 1099511627776) :
 W (JT bytes sz vx vy s) fun r => SlX r.2 sz r.1 (lx ++ ly) ∧ Ext (blk vx) s r.2 ∧ ∀ k, k ∈ blk r.1 → k ∈ blk vx ∨ s.next ≤ k := by
 obtain ⟨hl, hs⟩ := Xi hy
 have hf : (Nat.beq ly.flatten.length (ly.length * sz) && allOne ly.flatten) = true := by rw [oy.flat, oy.ones]; simp
 have hnew : ∀ o, (s.new o).get s.next = some o := fun o => DS.new_get_self hG
 have hwn : s.wr s.next = true := (hG _ (Nat.le_refl _)).2
 have h1 : Nat.ble (lx.length + ly.length) 1099511627776 = true := Nat.ble_eq.mpr hn
 have h2 : Nat.ble ((lx.length + ly.length) * bytes) 1099511627776 = true := Nat.ble_eq.mpr hb
 by_cases hly : ly = []
 · subst hly
   have hle : Nat.ble (lx.length + 0) lx.length = true := Nat.ble_eq.mpr (Nat.le_refl _)
   simp only [List.length_nil, List.flatten_nil] at hl hs
   have hf : (Nat.beq ([] : List Value).length (0 * sz) && allOne []) = true := by simp [allOne]
   rcases hx with ⟨rfl, rfl⟩ | ⟨b, sp, rfl, h3, h4, h5⟩
   · exact W.intro (a := (.slice none 0 0, s)) (by simp only [JT, zn, hl, hs, hf, Bool.not_true, z3, if_false]; rfl) ⟨.nil, .refl, fun k hk => .inl hk⟩
   · refine W.intro (a := (.slice (some ⟨b, 0, sp⟩) lx.length lx.length, s)) ?_ ⟨by rw [List.append_nil]; exact .inr ⟨b, sp, rfl, h3, h4, h5⟩, .refl, fun k hk => .inl hk⟩
     simp only [JT, zn, hl, hs, hf, hle, Bool.not_true, z3, if_false, if_true]
     rfl
 · have hpos : 0 < ly.length := List.length_pos_iff.2 hly
   have hle : Nat.ble (lx.length + ly.length) lx.length = false := by
    cases hq : Nat.ble (lx.length + ly.length) lx.length with
    | false => rfl
    | true => have := Nat.ble_eq.mp hq; omega
   rcases hx with ⟨rfl, rfl⟩ | ⟨b, sp, rfl, h3, h4, h5⟩
   · have hle' : Nat.ble (0 + ly.length) 0 = false := by simpa using hle
     simp only [List.length_nil] at h1 h2
     refine W.intro (a := (.slice (some ⟨s.next, 0, some sz⟩) ly.length ly.length, s.new (.cells (.list ly.flatten) false))) ?_ ⟨.inr ⟨s.next, some sz, rfl, .inr rfl, hnew _, hwn⟩, Ext.new, fun k hk => .inr (by simp [blk] at hk; omega)⟩
     simp only [JT, zn, hl, hs, hf, hle', h1, h2, Bool.not_true, z3, if_false, if_true, Bool.and_self, Nat.beq_refl]
   · have hr : (Cells.list lx.flatten).take 0 (lx.length * sz) = some lx.flatten := by
      have := ox.flat
      rw [zQ _ _ _ (by omega)]
      simp only [List.drop_zero]
      rw [List.take_of_length_le (by omega)]
     have hl2 : (lx ++ ly).length = lx.length + ly.length := List.length_append
     have hfl : (lx ++ ly).flatten = lx.flatten ++ ly.flatten := List.flatten_append
     rcases h3 with rfl | rfl
     · have hrd : s.read b 0 (lx.length * sz) = some lx.flatten := by unfold DS.read; rw [h4]; exact hr
       refine W.intro (a := (.slice (some ⟨s.next, 0, some sz⟩) (lx.length + ly.length) (lx.length + ly.length), s.new (.cells (.list (lx.flatten ++ ly.flatten)) false))) ?_ ⟨.inr ⟨s.next, some sz, by rw [hl2], .inr rfl, by rw [hfl]; exact hnew _, hwn⟩, Ext.new, fun k hk => .inr (by simp [blk] at hk; omega)⟩
       simp only [JT, zn, hl, hs, hf, hle, h1, h2, Bool.not_true, z3, if_false, if_true, Bool.and_self, hrd, ox.ones]
     · have hk : s.kill b = some (s.rid b) := DS.kill_rid (by rw [h4]; rfl) h5
       have hlt : ¬ s.next = b := by have := DS.get_lt' h4; omega
       have hnew2 : ∀ o, ((s.rid b).new o).get s.next = some o := fun o => by
        have := DS.new_get_self (s := s.rid b) (o := o) (by rw [DS.rid_good]; exact hG)
        rwa [DS.rid_next] at this
       refine W.intro (a := (.slice (some ⟨s.next, 0, some sz⟩) (lx.length + ly.length) (lx.length + ly.length), (s.rid b).new (.cells (.list (lx.flatten ++ ly.flatten)) false))) ?_ ⟨.inr ⟨s.next, some sz, by rw [hl2], .inr rfl, by rw [hfl]; exact hnew2 _, by rw [DS.new_wr, DS.rid_wr]; exact hwn⟩, ?_, fun k hk => .inr (by simp [blk] at hk; omega)⟩
       · simp only [JT, zn, hl, hs, hf, hle, h1, h2, Bool.not_true, z3, if_false, if_true, Bool.and_self, Nat.beq_refl, h4, hr, hk, ox.ones, Cells.like, Cells.plain, DS.rid_next]
       · exact (Ext.rid (F := [b]) (.inl (by simp))).trans' Ext.new
end
theorem sA : type_of% (And.intro @Mc (And.intro @FS (And.intro @Rk (And.intro @C9 (And.intro @Rh (And.intro @Md (And.intro @Rj (And.intro @Qx (And.intro @FE (And.intro @GB (And.intro @Ko (And.intro @FH (And.intro @GD (And.intro @Vc (And.intro @CF (And.intro @FF (And.intro @GC (And.intro @Kn (And.intro @Mb (And.intro @LA (And.intro @LB (And.intro @HT (And.intro @LD (And.intro @LC (And.intro @Cl (And.intro @Cm (And.intro @Cn (And.intro @Co (And.intro @JM (And.intro @Q7 (And.intro @CG (And.intro @CH (And.intro @CI (And.intro @FG (And.intro @NP (And.intro @NS (And.intro @NR (And.intro @NT (And.intro @NQ (And.intro @z7 (And.intro @HR (And.intro @N0 (And.intro @Lx (And.intro @Lv (And.intro @HO (And.intro @SX (And.intro @SU (And.intro @SY (And.intro @Lp (And.intro @N5 (And.intro @Lt (And.intro @Lr (And.intro @Lu (And.intro @Rd (And.intro @HS (And.intro @N2 (And.intro @Rc (And.intro @HP (And.intro @Rg (And.intro @Lw (And.intro @SV (And.intro @N1 (And.intro @Ma (And.intro @N7 (And.intro @Ta (And.intro @Vi (And.intro @Ns (And.intro @Cu (And.intro @SH (And.intro @Fo (And.intro @Fp (And.intro @Wm (And.intro @Wl (And.intro @z0 (And.intro @JJ (And.intro @List.getElem?_cons_zero.{0} (And.intro @List.getElem?_cons_succ.{0} (And.intro @Option.getD_some.{0} (And.intro @List.map_cons.{0,0} (And.intro @List.map_nil.{0,0} (And.intro @P9 (And.intro @Nat.zero_add (And.intro @M9 (And.intro @FN (And.intro @GE (And.intro @FJ (And.intro @FK (And.intro @Vf (And.intro @FM (And.intro @cells_func (And.intro @FO (And.intro @List.length_cons.{0} (And.intro @List.length_nil.{0} (And.intro @Bool.and_self (And.intro @Bool.and_true (And.intro @Bool.true_and (And.intro @Bool.and_eq_true (And.intro @Nat.beq_eq (And.intro @Nat.ble_eq (And.intro @Nat.blt_eq (And.intro @Nat.le_refl (And.intro @and_self (And.intro @and_true (And.intro @true_and (And.intro @if_true.{1} (And.intro @if_false.{1} (And.intro @ite_true.{1} (And.intro @ite_false.{1} (And.intro @Bool.not_true (And.intro @Bool.not_false (And.intro @z3 (And.intro @List.take_zero.{0} (And.intro @List.take_succ_cons.{0} (And.intro @List.drop_succ_cons.{0} (And.intro @List.drop_zero.{0} (And.intro @List.nil_append.{0} (And.intro @List.cons_append.{0} (And.intro @List.take_nil.{0} (And.intro @List.drop_nil.{0} (And.intro @List.append_nil.{0} (And.intro @DS.upd_get_self (And.intro @DS.upd_get_ne (And.intro @DS.upd_next (And.intro @DS.upd_wr (And.intro @DS.upd_vis (And.intro @Option.map_some.{0,0} (And.intro @Option.isSome_some.{0} (And.intro @DS.set_upd (And.intro @zU (And.intro @wrN (And.intro @Hh (And.intro @Lf (And.intro @Le (And.intro @wrU (And.intro @Lm (And.intro @Lz (And.intro @C8 (And.intro @Option.map_none.{0,0} (And.intro @Ly (And.intro @Lq (And.intro @KS (And.intro @Gj (And.intro @List.length_append.{0} (And.intro @Jz (And.intro @QQ (And.intro @Nat.add_zero (And.intro @Zz (And.intro @Nat.mul_one (And.intro @Nat.zero_mul (And.intro @decide_true (And.intro @decide_false (And.intro @List.toList_toArray.{0} (And.intro @eq_self.{1} (And.intro @Option.isNone_none.{0} (And.intro @Option.isNone_some.{0} (And.intro @Zg (And.intro @Bool.or_false (And.intro @Bool.false_and (And.intro @Ls (And.intro @Lo (And.intro @N4 (And.intro @N3 (And.intro @Re (And.intro @N8 (And.intro @N9 (And.intro @SW (And.intro @FR (And.intro @Ln (And.intro @SZ (And.intro @Rf (@Ck))))))))))))))))))))))))))))))))))))))))))))))))))))))))))))))))))))))))))))))))))))))))))))))))))))))))))))))))))))))))))))))))))))))))))))))))))))))))))))))))))))))))))) := And.intro @Mc (And.intro @FS (And.intro @Rk (And.intro @C9 (And.intro @Rh (And.intro @Md (And.intro @Rj (And.intro @Qx (And.intro @FE (And.intro @GB (And.intro @Ko (And.intro @FH (And.intro @GD (And.intro @Vc (And.intro @CF (And.intro @FF (And.intro @GC (And.intro @Kn (And.intro @Mb (And.intro @LA (And.intro @LB (And.intro @HT (And.intro @LD (And.intro @LC (And.intro @Cl (And.intro @Cm (And.intro @Cn (And.intro @Co (And.intro @JM (And.intro @Q7 (And.intro @CG (And.intro @CH (And.intro @CI (And.intro @FG (And.intro @NP (And.intro @NS (And.intro @NR (And.intro @NT (And.intro @NQ (And.intro @z7 (And.intro @HR (And.intro @N0 (And.intro @Lx (And.intro @Lv (And.intro @HO (And.intro @SX (And.intro @SU (And.intro @SY (And.intro @Lp (And.intro @N5 (And.intro @Lt (And.intro @Lr (And.intro @Lu (And.intro @Rd (And.intro @HS (And.intro @N2 (And.intro @Rc (And.intro @HP (And.intro @Rg (And.intro @Lw (And.intro @SV (And.intro @N1 (And.intro @Ma (And.intro @N7 (And.intro @Ta (And.intro @Vi (And.intro @Ns (And.intro @Cu (And.intro @SH (And.intro @Fo (And.intro @Fp (And.intro @Wm (And.intro @Wl (And.intro @z0 (And.intro @JJ (And.intro @List.getElem?_cons_zero.{0} (And.intro @List.getElem?_cons_succ.{0} (And.intro @Option.getD_some.{0} (And.intro @List.map_cons.{0,0} (And.intro @List.map_nil.{0,0} (And.intro @P9 (And.intro @Nat.zero_add (And.intro @M9 (And.intro @FN (And.intro @GE (And.intro @FJ (And.intro @FK (And.intro @Vf (And.intro @FM (And.intro @cells_func (And.intro @FO (And.intro @List.length_cons.{0} (And.intro @List.length_nil.{0} (And.intro @Bool.and_self (And.intro @Bool.and_true (And.intro @Bool.true_and (And.intro @Bool.and_eq_true (And.intro @Nat.beq_eq (And.intro @Nat.ble_eq (And.intro @Nat.blt_eq (And.intro @Nat.le_refl (And.intro @and_self (And.intro @and_true (And.intro @true_and (And.intro @if_true.{1} (And.intro @if_false.{1} (And.intro @ite_true.{1} (And.intro @ite_false.{1} (And.intro @Bool.not_true (And.intro @Bool.not_false (And.intro @z3 (And.intro @List.take_zero.{0} (And.intro @List.take_succ_cons.{0} (And.intro @List.drop_succ_cons.{0} (And.intro @List.drop_zero.{0} (And.intro @List.nil_append.{0} (And.intro @List.cons_append.{0} (And.intro @List.take_nil.{0} (And.intro @List.drop_nil.{0} (And.intro @List.append_nil.{0} (And.intro @DS.upd_get_self (And.intro @DS.upd_get_ne (And.intro @DS.upd_next (And.intro @DS.upd_wr (And.intro @DS.upd_vis (And.intro @Option.map_some.{0,0} (And.intro @Option.isSome_some.{0} (And.intro @DS.set_upd (And.intro @zU (And.intro @wrN (And.intro @Hh (And.intro @Lf (And.intro @Le (And.intro @wrU (And.intro @Lm (And.intro @Lz (And.intro @C8 (And.intro @Option.map_none.{0,0} (And.intro @Ly (And.intro @Lq (And.intro @KS (And.intro @Gj (And.intro @List.length_append.{0} (And.intro @Jz (And.intro @QQ (And.intro @Nat.add_zero (And.intro @Zz (And.intro @Nat.mul_one (And.intro @Nat.zero_mul (And.intro @decide_true (And.intro @decide_false (And.intro @List.toList_toArray.{0} (And.intro @eq_self.{1} (And.intro @Option.isNone_none.{0} (And.intro @Option.isNone_some.{0} (And.intro @Zg (And.intro @Bool.or_false (And.intro @Bool.false_and (And.intro @Ls (And.intro @Lo (And.intro @N4 (And.intro @N3 (And.intro @Re (And.intro @N8 (And.intro @N9 (And.intro @SW (And.intro @FR (And.intro @Ln (And.intro @SZ (And.intro @Rf (@Ck))))))))))))))))))))))))))))))))))))))))))))))))))))))))))))))))))))))))))))))))))))))))))))))))))))))))))))))))))))))))))))))))))))))))))))))))))))))))))))))))))))))))))
theorem sM : type_of% (And.intro @zR (And.intro @Xo (And.intro @Ce (And.intro @DS.upd_good (And.intro @SA (And.intro @WF (And.intro @Li (And.intro @D7 (And.intro @D6 (And.intro @D9 (And.intro @Nat.add_assoc (And.intro @Nat.lt_add_one (And.intro @Nat.zero_lt_succ (And.intro @Nat.lt_irrefl (And.intro @Nat.succ_pos (And.intro @Nat.add_lt_add_iff_left (And.intro @Nat.add_le_add_iff_left (@Nat.add_left_cancel_iff)))))))))))))))))) := And.intro @zR (And.intro @Xo (And.intro @Ce (And.intro @DS.upd_good (And.intro @SA (And.intro @WF (And.intro @Li (And.intro @D7 (And.intro @D6 (And.intro @D9 (And.intro @Nat.add_assoc (And.intro @Nat.lt_add_one (And.intro @Nat.zero_lt_succ (And.intro @Nat.lt_irrefl (And.intro @Nat.succ_pos (And.intro @Nat.add_lt_add_iff_left (And.intro @Nat.add_le_add_iff_left (@Nat.add_left_cancel_iff)))))))))))))))))
end Go.Dx
