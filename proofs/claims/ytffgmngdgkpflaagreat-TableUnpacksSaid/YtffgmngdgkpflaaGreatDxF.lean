/- A part. -/
import Derived.Test.YtffgmngdgkpflaaGreatDxW
set_option linter.unusedVariables false
set_option linter.unusedSimpArgs false
set_option linter.unusedSectionVars false
namespace Go.Dx
open Go
section
variable {E : Env} {call : Zg} {lf : Nat} {r : Bool} {t : PT Value} {s : DS} {ds : List Nat} {K : DExit → St → Prop} {d l k : Nat} {Q : Value × DS → Prop}
def RG (l : Nat) (t : PT Value) (ds : List Nat) (K : DExit → St → Prop) : Value × DS → Prop := fun r => match r.2.get l with
 | some (.loop st e t' ps a b) => (st = .ready ∨ st = .done) ∧ r.2.wr l = true ∧ K e ⟨t, r.2.upd l (.loop .exhausted e t' ps a b), ds⟩
 | _ => False
theorem Tz {v : Value} {s' : DS} {st : LoopSt} {e : DExit} {t' : PT Value} {ps : List Nat} {a b : DCode} (hg : s'.get l = some (.loop st e t' ps a b)) (hs : st = .ready ∨ st = .done) (hw : s'.wr l = true)
 (h : K e ⟨t, s'.upd l (.loop .exhausted e t' ps a b), ds⟩) : RG l t ds K (v, s') := by
 unfold RG
 simp only [hg]
 exact ⟨hs, hw, h⟩
def Ff (t : PT Value) (ps : List Nat) (a b : DCode) : DObj := .loop .ready .normal t ps a b
theorem Hr {f : Operand} {ps : List Nat} {assign body : DCode} {g : FuncId} {a b : Array Value} (hf : ev t f = .func (.func g) a b)
 (h : W (call (.func (.func g) a b) [.func (.yield (s.next + 1)) #[] #[]] ((s.new .dfr).new (Ff t ps assign body))) (RG (s.next + 1) t (s.next :: ds) K)) :
 WC call lf false (.rangeFunc f ps assign body) ⟨t, s, ds⟩ K := by
 obtain ⟨⟨v, s3⟩, h1, h2⟩ := h
 unfold RG at h2
 simp only at h2
 unfold WC
 simp only [Zz, hf, z3, if_false]
 have h1' : call (.func (.func g) a b) [.func (.yield (s.new .dfr).next) #[] #[]] ((s.new .dfr).new (.loop .ready .normal t ps assign body)) = some (v, s3) := h1
 rw [h1']
 simp only
 have e1 : (s.new DObj.dfr).next = s.next + 1 := rfl
 rw [e1]
 split at h2
 · rename_i st e t' ps' a' b' hg
   obtain ⟨hst, hw, hk⟩ := h2
   rw [hg]
   simp only
   rw [if_pos hst, DS.set_upd (by rw [hg]; rfl) hw]
   exact W.intro rfl hk
 · exact absurd h2 id
def Tw (l : Nat) (Q : Value × DS → Prop) : DExit → St → Prop := fun e y => match y.s.get l with
 | some (.loop .busy _ t3 ps3 a3 b3) => y.s.wr l = true ∧ Q (.bool (decide (e = .normal)), y.s.upd l (.loop (if e = .normal then .ready else .done) e t3 ps3 a3 b3))
 | _ => False
def RE (E : Env) (d l : Nat) (body : DCode) (Q : Value × DS → Prop) : DExit → St → Prop := fun e x => match e, x.s.get l with
 | .normal, some (.loop .ready p2 t2 ps2 a2 b2) => x.s.wr l = true ∧ WC (dcall E d) E.lf true body ⟨x.t, x.s.upd l (.loop .busy p2 t2 ps2 a2 b2), x.defers⟩ (Tw l Q)
 | _, _ => False
theorem FH {e p : DExit} {y : St} {t3 : PT Value} {ps3 : List Nat} {a3 b3 : DCode} (hg : y.s.get l = some (.loop .busy p t3 ps3 a3 b3)) (hw : y.s.wr l = true)
 (h : Q (.bool (decide (e = .normal)), y.s.upd l (.loop (if e = .normal then .ready else .done) e t3 ps3 a3 b3))) : Tw l Q e y := by
 unfold Tw
 rw [hg]
 exact ⟨hw, h⟩
theorem Tx {x : St} {p2 : DExit} {t2 : PT Value} {ps2 : List Nat} {a2 b2 body : DCode} (hg : x.s.get l = some (.loop .ready p2 t2 ps2 a2 b2)) (hw : x.s.wr l = true)
 (h : WC (dcall E d) E.lf true body ⟨x.t, x.s.upd l (.loop .busy p2 t2 ps2 a2 b2), x.defers⟩ (Tw l Q)) : RE E d l body Q .normal x := by
 unfold RE
 rw [hg]
 exact ⟨hw, h⟩
theorem RU {ps : List Nat} {p : DExit} {assign body : DCode} {args : List Value} {a b : Array Value} (hg : s.get l = some (.loop .ready p t ps assign body)) (hl : ps.length = args.length)
 (h : WC (dcall E d) E.lf true assign ⟨Yz t ps args, s, []⟩ (RE E d l body Q)) : W (dcall E (d + 1) (.func (.yield l) a b) args s) Q := by
 obtain ⟨⟨e, x⟩, h1, h2⟩ := h
 simp only at h2
 unfold RE at h2
 simp only [dcall, hg, hl]
 have hb : Nat.beq args.length args.length = true := Nat.beq_refl _
 simp only [hb, decide_true, Bool.and_self, if_true, h1]
 split at h2
 · rename_i p2 t2 ps2 a2 b2 hx
   obtain ⟨hw, ⟨e3, y⟩, h3, h4⟩ := h2
   simp only [hx, DS.set_upd (show (x.s.get l).isSome = true by rw [hx]; rfl) hw, h3]
   unfold Tw at h4
   simp only at h4
   split at h4
   · rename_i p3 t3 ps3 a3 b3 hy
     obtain ⟨hw3, hq⟩ := h4
     simp only [hy, DS.set_upd (show (y.s.get l).isSome = true by rw [hy]; rfl) hw3]
     exact W.intro rfl hq
   · exact absurd h4 id
 · exact absurd h2 id
theorem DR {rs : List DRes} (hk : s.get k = some .dfr) (hw : s.wr k = true) : Ends rs Q .ret ⟨t, s, [k]⟩ = W (zn t (s.rid k) rs) fun vs => Q (zy vs, s.rid k) := by
 simp only [Ends, Yn, hk, DS.kill_rid (show (s.get k).isSome = true by rw [hk]; rfl) hw, zj]
theorem Kt : Yz t [] [] = t := rfl
theorem JI {p : Nat} {ps : List Nat} {v : Value} {vs : List Value} : Yz t (p :: ps) (v :: vs) = Yz (t.put p (some v)) ps vs := rfl
end
section
variable {s s1 : DS} {nt : List YS} {haz : List Nat} {F : List Nat} {k : Nat} {o : DObj}
theorem Cy : Ys s (mask s nt haz) = s := rfl
theorem YL (hG : s.Good) (hh : ∀ k, s.next ≤ k → hidden nt haz k = false ∧ shielded nt haz k = false) : (mask s nt haz).Good := fun k hk => by
 obtain ⟨h1, h2⟩ := hG k hk
 obtain ⟨h3, h4⟩ := hh k hk
 unfold mask
 simp [h1, h2, h3, h4]
theorem Jo (hw : s.wr k = true) (h1 : hidden nt haz k = false) (h2 : shielded nt haz k = false) : (mask s nt haz).wr k = true := by
 unfold mask
 simp [hw, h1, h2]
theorem J3 : (Ys s s1).wr = s.wr := rfl
theorem Cx (hh : ∀ k, hidden nt haz k = false) (e : Ext F (mask s nt haz) s1) : (Ys s s1).get k = s1.get k := by
 unfold DS.get
 have : s1.vis k = s.vis k := by rw [e.vis]; simp [mask, hh]
 simp only [Ys, this]
 rfl
theorem ML {a b : Nat} (h : a ≠ b) : Nat.beq a b = false := by
 cases e : Nat.beq a b with
 | false => rfl
 | true => exact absurd (Nat.eq_of_beq_eq_true e) h
theorem ZW {a b : Nat} : (Nat.ble a b = false) = (b < a) := by
 cases e : Nat.ble a b with
 | false => simp; exact Nat.lt_of_not_le fun h => by rw [Nat.ble_eq.mpr h] at e; cases e
 | true => have := Nat.ble_eq.mp e; simp; omega
theorem Yb {a b : Nat} : (Nat.blt a b = false) = (b ≤ a) := by
 unfold Nat.blt
 rw [ZW]
 exact propext ⟨fun h => by omega, fun h => by omega⟩
theorem ZZ {a b : Nat} : (Nat.beq a b = false) = ¬ a = b := propext ⟨fun h e => (by subst e; rw [Nat.beq_refl] at h; cases h), ML⟩
theorem XV (h : hidden nt haz k = false) (e : Ext F (mask s nt haz) s1) : (Ys s s1).get k = s1.get k := by
 unfold DS.get
 have : s1.vis k = s.vis k := by rw [e.vis]; simp [mask, h]
 simp only [Ys, this]
 rfl
theorem Ext.unmask' (e : Ext F (mask s nt haz) s1) (f : Zr (mask s nt haz) s1) : Ext F s (Go.Dx.Ys s s1) := by
 refine ⟨e.le, rfl, rfl, fun k hk hf => ?_⟩
 cases hh : hidden nt haz k with
 | false => rw [XV hh e, e.get k hk hf, Yf hh]
 | true =>
  have h1 := f.keep k hk (by simp [mask, hh])
  have h2 : Nat.blt k s1.next = true := Xd (Nat.lt_of_lt_of_le hk f.next)
  have h3 : Nat.blt k s.next = true := Xd hk
  unfold DS.get
  simp only [Go.Dx.Ys, h2, h3]
  rw [h1]
  rfl
theorem W.masked {call : Zg} (hc : ZR call) {f : Value} {args : List Value} {P R : Value × DS → Prop} {s : DS} (h : W (call f args s) P) (k : ∀ v s1, P (v, s1) → Zr s s1 → R (v, s1)) : W (call f args s) R := by
 obtain ⟨⟨v, s1⟩, h1, h2⟩ := h
 exact W.intro h1 (k v s1 h2 (hc _ _ _ _ _ h1))
end
theorem zQ {s : DS} {o : DObj} : (s.new o).next = s.next + 1 := Eq.trans rfl rfl
theorem wrN {s : DS} {o : DObj} : (s.new o).wr = s.wr := Eq.trans rfl rfl
theorem Dw {s : DS} {nt : List YS} {haz : List Nat} : (mask s nt haz).next = s.next := Eq.trans rfl rfl
theorem zk {s : DS} {j : Nat} {o : DObj} (h : s.Good) (e : j = s.next) : (s.new o).get j = some o := by subst e; exact DS.new_get_self h
theorem zw {s : DS} {j : Nat} {o : DObj} (e : j < s.next) : (s.new o).get j = s.get j := DS.new_get_lt e
theorem zC {s : DS} {o : DObj} (h : s.Good) : (s.new o).Good = True := eq_true (DS.new_good h)
theorem Zi {s : DS} {j : Nat} (h : s.Good) (e : s.next ≤ j) : s.wr j = true := (h j e).2
theorem zJ {a b : Nat} (h : a < b) : (a = b) = False := eq_false (Nat.ne_of_lt h)
theorem ZF {a b : Nat} (h : b < a) : (a = b) = False := eq_false (Nat.ne_of_gt h)
theorem N5 {n m k : Nat} (h : n < m) : (n < m + k) = True := eq_true (Nat.lt_add_right k h)
theorem Zu {m k : Nat} (h : 0 < k) : (m < m + k) = True := eq_true (Nat.lt_add_of_pos_right h)
theorem Qk (l : List Value) : ∀ (n off : Nat), off + n ≤ l.length → (Cells.list l).take off n = some ((l.drop off).take n)
 | 0, off, _ => by simp [Cells.take]
 | n + 1, off, h => by
  have h0 : off < l.length := by omega
  have h1 : (Cells.list l).get off = some l[off] := by simp only [Cells.get, Qn]; exact List.getElem?_eq_getElem h0
  have h2 := Qk l n (off + 1) (by omega)
  unfold Cells.take
  rw [h1]
  simp only [h2]
  rw [List.drop_eq_getElem_cons h0]
  rfl
theorem KB : ∀ (a b : List Value), zL (a ++ b) = (zL a && zL b)
 | [], b => by simp [zL]
 | x :: a, b => by simp [zL, KB a b, Bool.and_assoc]
theorem JV {n : Nat} : ∀ {l : List (List Value)}, (∀ x, x ∈ l → x.length = n) → l.flatten.length = l.length * n
 | [], _ => by simp
 | x :: l, h => by
  have h1 := h x (List.mem_cons_self ..)
  have h2 := JV (l := l) fun y hy => h y (List.mem_cons_of_mem _ hy)
  simp only [List.flatten_cons, List.length_append, h1, h2, List.length_cons, Nat.succ_mul]
  omega
theorem Qh {n : Nat} : ∀ {l : List (List Value)} (i : Nat), (∀ x, x ∈ l → x.length = n) → l.flatten.drop (i * n) = (l.drop i).flatten
 | l, 0, _ => by simp
 | [], i + 1, _ => by simp
 | x :: l, i + 1, h => by
  have h1 := h x (List.mem_cons_self ..)
  have h2 := Qh (l := l) i fun y hy => h y (List.mem_cons_of_mem _ hy)
  simp only [List.flatten_cons, List.drop_succ_cons]
  rw [show (i + 1) * n = x.length + i * n by rw [h1, Nat.succ_mul]; omega, ← List.drop_drop, List.drop_left, h2]
theorem Js {n : Nat} : ∀ {l : List (List Value)} (i : Nat), (∀ x, x ∈ l → x.length = n) → l.flatten.take (i * n) = (l.take i).flatten
 | l, 0, _ => by simp
 | [], i + 1, _ => by simp
 | x :: l, i + 1, h => by
  have h1 := h x (List.mem_cons_self ..)
  have h2 := Js (l := l) i fun y hy => h y (List.mem_cons_of_mem _ hy)
  simp only [List.flatten_cons, List.take_succ_cons]
  rw [show (i + 1) * n = x.length + i * n by rw [h1, Nat.succ_mul]; omega, List.take_append, List.take_of_length_le (by omega), show x.length + i * n - x.length = i * n by omega, h2]
theorem W5 {n : Nat} {l : List (List Value)} {i j : Nat} {x : List Value} {y : Value} (h : ∀ x, x ∈ l → x.length = n) (hx : l[i]? = some x) (hy : x[j]? = some y) : getN l.flatten (i * n + j) = some y := by
 have hj : j < n := by
  have := h x (List.mem_of_getElem? hx)
  have := (List.getElem?_eq_some_iff.1 hy).1
  omega
 rw [Qn, ← List.getElem?_drop, Qh i h]
 have hi := (List.getElem?_eq_some_iff.1 hx).1
 rw [List.drop_eq_getElem_cons hi]
 have : l[i] = x := by have := List.getElem?_eq_getElem hi; rw [hx] at this; exact (Option.some.inj this).symm
 rw [this, List.flatten_cons, List.getElem?_append_left (by have := h x (List.mem_of_getElem? hx); omega)]
 exact hy
def blk : Value → List Nat
 | .slice (some a) _ _ => [a.block]
 | _ => []
structure Z0 (sz : Nat) (l : List (List Value)) : Prop where
 len : ∀ x, x ∈ l → x.length = sz
 one : ∀ x, x ∈ l → zL x = true
section
variable {sz : Nat} {l l' : List (List Value)}
theorem Z0.nil : Z0 sz [] := ⟨fun _ h => (nomatch h), fun _ h => (nomatch h)⟩
theorem Z0.flat (h : Z0 sz l) : l.flatten.length = l.length * sz := JV h.len
theorem Z0.append (h : Z0 sz l) (h' : Z0 sz l') : Z0 sz (l ++ l') := ⟨fun x hx => (List.mem_append.1 hx).elim (h.len x) (h'.len x), fun x hx => (List.mem_append.1 hx).elim (h.one x) (h'.one x)⟩
theorem Z0.sub (h : Z0 sz l) (hs : ∀ x, x ∈ l' → x ∈ l) : Z0 sz l' := ⟨fun x hx => h.len x (hs x hx), fun x hx => h.one x (hs x hx)⟩
theorem Z0.ones : ∀ {l : List (List Value)}, Z0 sz l → zL l.flatten = true
 | [], _ => rfl
 | x :: l, h => by
  rw [List.flatten_cons, KB, h.one x (List.mem_cons_self ..), Z0.ones (l := l) ⟨fun y hy => h.len y (List.mem_cons_of_mem _ hy), fun y hy => h.one y (List.mem_cons_of_mem _ hy)⟩]
  rfl
end
def SlV (s : DS) (sz : Nat) (v : Value) (l : List (List Value)) : Prop :=
 (v = .slice none 0 0 ∧ l = []) ∨ ∃ b off sp c, v = .slice (some ⟨b, off, sp⟩) l.length c ∧ s.read b off (l.length * sz) = some l.flatten
def SlX (s : DS) (sz : Nat) (v : Value) (l : List (List Value)) : Prop :=
 (v = .slice none 0 0 ∧ l = []) ∨ ∃ b sp, v = .slice (some ⟨b, 0, sp⟩) l.length l.length ∧ (sp = none ∨ sp = some sz) ∧ s.get b = some (.cells (.list l.flatten) false) ∧ s.wr b = true
section
variable {s s' : DS} {sz : Nat} {v : Value} {l : List (List Value)} {F : List Nat}
theorem SlX.keep (h : SlX s sz v l) (e : Ext F s s') (hd : ∀ k, k ∈ blk v → k ∉ F) : SlX s' sz v l := by
 rcases h with h | ⟨b, sp, rfl, h1, h2, h3⟩
 · exact .inl h
 · exact .inr ⟨b, sp, rfl, h1, e.keep h2 (hd b (by simp [blk])), e.wrs h3⟩
theorem SlX.of (h : SlX s sz v l) (hd : ∀ k, k ∈ blk v → s'.get k = s.get k ∧ (s.wr k = true → s'.wr k = true)) : SlX s' sz v l := by
 rcases h with h | ⟨b, sp, rfl, h1, h2, h3⟩
 · exact .inl h
 · have := hd b (by simp [blk])
   exact .inr ⟨b, sp, rfl, h1, this.1.trans h2, this.2 h3⟩
theorem SlV.of (h : SlV s sz v l) (hd : ∀ k, k ∈ blk v → s'.get k = s.get k) : SlV s' sz v l := by
 rcases h with h | ⟨b, off, sp, c, rfl, h1⟩
 · exact .inl h
 · have := hd b (by simp [blk])
   refine .inr ⟨b, off, sp, c, rfl, ?_⟩
   unfold DS.read at h1 ⊢
   rw [this]; exact h1
theorem SlX.lt (h : SlX s sz v l) : ∀ k, k ∈ blk v → k < s.next := by
 rcases h with ⟨rfl, _⟩ | ⟨b, sp, rfl, h1, h2, h3⟩
 · exact fun k hk => by simp [blk] at hk
 · exact fun k hk => by simp [blk] at hk; subst hk; exact DS.get_lt' h2
theorem SlX.shape (h : SlX s sz v l) : ∃ a, v = .slice a l.length l.length := by
 rcases h with ⟨rfl, rfl⟩ | ⟨b, sp, rfl, _⟩
 · exact ⟨_, rfl⟩
 · exact ⟨_, rfl⟩
theorem SlX.at (h : SlX s sz v l) (hl : l ≠ []) : ∃ b sp, v = .slice (some ⟨b, 0, sp⟩) l.length l.length ∧ (sp = none ∨ sp = some sz) ∧ s.get b = some (.cells (.list l.flatten) false) ∧ s.wr b = true := by
 rcases h with ⟨_, rfl⟩ | h
 · exact absurd rfl hl
 · exact h
theorem SlX.nil : SlX s sz (.slice none 0 0) [] := .inl ⟨rfl, rfl⟩
theorem SlX.one {b : Nat} {sp : Option Nat} (hsp : sp = none ∨ sp = some sz) (hg : s.get b = some (.cells (.list l.flatten) false)) (hw : s.wr b = true) : SlX s sz (.slice (some ⟨b, 0, sp⟩) l.length l.length) l := .inr ⟨b, sp, rfl, hsp, hg, hw⟩
theorem SlX.view (h : SlX s sz v l) (ho : Z0 sz l) : SlV s sz v l := by
 rcases h with h | ⟨b, sp, rfl, _, h2, _⟩
 · exact .inl h
 · refine .inr ⟨b, 0, sp, _, rfl, ?_⟩
   have := ho.flat
   unfold DS.read
   rw [h2]
   simp only
   rw [Qk _ _ _ (by omega)]
   simp only [List.drop_zero]
   rw [List.take_of_length_le (by omega)]
def slV (z : Nat) (x : Value) (lo hi mx : Option Value) : Option Value := match x with
 | .slice a len cap => match XD len cap lo hi mx with
  | some (l, h, m) => We a z l h m mx.isSome
  | none => none
 | _ => none
theorem RW {call : Zg} {ρ : Operand → Value} {R : Value × DS → Prop} {z : Nat} {x : Operand} {lo hi mx : Option Operand} : W (dop call ρ s (.slL z x lo hi mx)) R = W (slV z (ρ x) (lo.map ρ) (hi.map ρ) (mx.map ρ)) (atS s R) := by
 rw [Ez]
 have e : zp ρ (.slL z x lo hi mx) = slV z (ρ x) (lo.map ρ) (hi.map ρ) (mx.map ρ) := by
  have h1 : mx.isSome = (mx.map ρ).isSome := by cases mx <;> rfl
  show (match ρ x with
   | .slice a len cap => match XD len cap (lo.map ρ) (hi.map ρ) (mx.map ρ) with
    | some (l, h, m) => We a z l h m mx.isSome
    | none => none
   | _ => none) = _
  unfold slV
  rw [h1]
 rw [e]
def VE (bytes sz : Nat) (x y : Value) (s : DS) : Option (Value × DS) := z6 (fun o => match o with | .const v => v | _ => Zt) s (.bapp bytes sz (.const x) (.const y))
theorem KC {call : Zg} {ρ : Operand → Value} {R : Value × DS → Prop} {b z : Nat} {x y : Operand} : W (dop call ρ s (.bapp b z x y)) R = W (VE b z (ρ x) (ρ y) s) R := by
 rw [HY]
 rfl
theorem Jk {ly : List (List Value)} {vy : Value} (hy : SlV s sz vy ly) : W8 vy = some ly.length ∧ Xm s sz vy ly.length = some ly.flatten := by
 rcases hy with ⟨rfl, rfl⟩ | ⟨b, off, sp, c, rfl, h⟩
 · exact ⟨rfl, rfl⟩
 · exact ⟨rfl, h⟩
theorem QR {bytes : Nat} {vx vy : Value} {lx ly : List (List Value)} (hx : SlX s sz vx lx) (hy : SlV s sz vy ly) (ox : Z0 sz lx) (oy : Z0 sz ly) (hG : s.Good) (hn : lx.length + ly.length ≤ 1099511627776) (hb : (lx.length + ly.length) * bytes ≤ 1099511627776) :
 W (VE bytes sz vx vy s) fun r => SlX r.2 sz r.1 (lx ++ ly) ∧ Ext (blk vx) s r.2 ∧ ∀ k, k ∈ blk r.1 → k ∈ blk vx ∨ s.next ≤ k := by
 obtain ⟨hl, hs⟩ := Jk hy
 have hf : (Nat.beq ly.flatten.length (ly.length * sz) && zL ly.flatten) = true := by rw [oy.flat, oy.ones]; simp
 have hnew : ∀ o, (s.new o).get s.next = some o := fun o => DS.new_get_self hG
 have hwn : s.wr s.next = true := (hG _ (Nat.le_refl _)).2
 have h1 : Nat.ble (lx.length + ly.length) 1099511627776 = true := Nat.ble_eq.mpr hn
 have h2 : Nat.ble ((lx.length + ly.length) * bytes) 1099511627776 = true := Nat.ble_eq.mpr hb
 by_cases hly : ly = []
 · subst hly
   have hle : Nat.ble (lx.length + 0) lx.length = true := Nat.ble_eq.mpr (Nat.le_refl _)
   simp only [List.length_nil, List.flatten_nil] at hl hs
   have hf : (Nat.beq ([] : List Value).length (0 * sz) && zL []) = true := by simp [zL]
   rcases hx with ⟨rfl, rfl⟩ | ⟨b, sp, rfl, h3, h4, h5⟩
   · exact W.intro (a := (.slice none 0 0, s)) (by simp only [VE, z6, hl, hs, hf, Bool.not_true, z3, if_false]; rfl) ⟨.nil, .refl, fun k hk => .inl hk⟩
   · refine W.intro (a := (.slice (some ⟨b, 0, sp⟩) lx.length lx.length, s)) ?_ ⟨by rw [List.append_nil]; exact .inr ⟨b, sp, rfl, h3, h4, h5⟩, .refl, fun k hk => .inl hk⟩
     simp only [VE, z6, hl, hs, hf, hle, Bool.not_true, z3, if_false, if_true]
     rfl
 · have hpos : 0 < ly.length := List.length_pos_iff.2 hly
   have hle : Nat.ble (lx.length + ly.length) lx.length = false := by
    cases hq : Nat.ble (lx.length + ly.length) lx.length with
    | false => rfl
    | true => have := Nat.ble_eq.mp hq; omega
   rcases hx with ⟨rfl, rfl⟩ | ⟨b, sp, rfl, h3, h4, h5⟩
   · have hle' : Nat.ble (0 + ly.length) 0 = false := by simpa using hle
     simp only [List.length_nil] at h1 h2
     refine W.intro (a := (.slice (some ⟨s.next, 0, some sz⟩) ly.length ly.length, s.new (.cells (.list ly.flatten) false))) ?_ ⟨.inr ⟨s.next, some sz, rfl, .inr rfl, hnew _, hwn⟩, Ext.new, fun k hk => .inr (by simp [blk] at hk; omega)⟩
     simp only [VE, z6, hl, hs, hf, hle', h1, h2, Bool.not_true, z3, if_false, if_true, Bool.and_self, Nat.beq_refl]
   · have hr : (Cells.list lx.flatten).take 0 (lx.length * sz) = some lx.flatten := by
      have := ox.flat
      rw [Qk _ _ _ (by omega)]
      simp only [List.drop_zero]
      rw [List.take_of_length_le (by omega)]
     have hl2 : (lx ++ ly).length = lx.length + ly.length := List.length_append
     have hfl : (lx ++ ly).flatten = lx.flatten ++ ly.flatten := List.flatten_append
     rcases h3 with rfl | rfl
     · have hrd : s.read b 0 (lx.length * sz) = some lx.flatten := by unfold DS.read; rw [h4]; exact hr
       refine W.intro (a := (.slice (some ⟨s.next, 0, some sz⟩) (lx.length + ly.length) (lx.length + ly.length), s.new (.cells (.list (lx.flatten ++ ly.flatten)) false))) ?_ ⟨.inr ⟨s.next, some sz, by rw [hl2], .inr rfl, by rw [hfl]; exact hnew _, hwn⟩, Ext.new, fun k hk => .inr (by simp [blk] at hk; omega)⟩
       simp only [VE, z6, hl, hs, hf, hle, h1, h2, Bool.not_true, z3, if_false, if_true, Bool.and_self, hrd, ox.ones]
     · have hk : s.kill b = some (s.rid b) := DS.kill_rid (by rw [h4]; rfl) h5
       have hlt : ¬ s.next = b := by have := DS.get_lt' h4; omega
       have hnew2 : ∀ o, ((s.rid b).new o).get s.next = some o := fun o => by
        have := DS.new_get_self (s := s.rid b) (o := o) (by rw [DS.rid_good]; exact hG)
        rwa [DS.rid_next] at this
       refine W.intro (a := (.slice (some ⟨s.next, 0, some sz⟩) (lx.length + ly.length) (lx.length + ly.length), (s.rid b).new (.cells (.list (lx.flatten ++ ly.flatten)) false))) ?_ ⟨.inr ⟨s.next, some sz, by rw [hl2], .inr rfl, by rw [hfl]; exact hnew2 _, by rw [DS.new_wr, DS.rid_wr]; exact hwn⟩, ?_, fun k hk => .inr (by simp [blk] at hk; omega)⟩
       · simp only [VE, z6, hl, hs, hf, hle, h1, h2, Bool.not_true, z3, if_false, if_true, Bool.and_self, Nat.beq_refl, h4, hr, hk, ox.ones, Cells.like, Cells.plain, DS.rid_next]
       · exact (Ext.rid (F := [b]) (.inl (by simp))).trans' Ext.new
end
end Go.Dx
