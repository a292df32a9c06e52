/- A part. -/
import Derived.Test.YthmgnfeljhdioaaGreatDxC
set_option linter.unusedVariables false
set_option linter.unusedSimpArgs false
set_option linter.unusedSectionVars false
namespace Go.Dx
open Go
def zI (l : List Int) : List (List Value) := l.map fun n => [.int .u8 n]
theorem ZQ (l : List Int) : Za 1 (zI l) := ⟨fun x hx => by obtain ⟨y, _, rfl⟩ := List.mem_map.1 hx; rfl, fun x hx => by obtain ⟨y, _, rfl⟩ := List.mem_map.1 hx; rfl⟩
theorem zr (l : List Int) : (zI l).length = l.length := List.length_map ..
theorem QC (a b : List Int) : zI (a ++ b) = zI a ++ zI b := List.map_append ..
structure Xu (s : DS) (o : Nat) (bv : Value) (bs : List Int) : Prop where
 go : s.get o = some (.cells (.list [bv, .int .i64 0]) false)
 wo : s.wr o = true
 sl : SlC s 1 bv (zI bs)
 up : ∀ k, k ∈ blk bv → o < k
 len : bs.length ≤ 1048576
structure W2 (s : DS) (o : Nat) (bv : Value) (bs : List Int) (r : Value × DS) : Prop where
 val : r.1 = .tuple #[]
 ex : ∃ bv', Xu r.2 o bv' bs ∧ Ext (o :: blk bv) s r.2 ∧ ∀ k, k ∈ blk bv' → k ∈ blk bv ∨ s.next ≤ k
def Same (o : Nat) (s s' : DS) : Prop := ∀ k, k < o → s'.get k = s.get k
theorem Same.refl {o : Nat} {s : DS} : Same o s s := fun _ _ => rfl
theorem Same.trans {o : Nat} {a b c : DS} (h : Same o a b) (h' : Same o b c) : Same o a c := fun k hk => (h' k hk).trans (h k hk)
theorem Y4 {o : Nat} {s s' : DS} {bv : Value} {bs : List Int} (h : Xu s o bv bs) (e : Ext (o :: blk bv) s s') : Same o s s' := fun k hk => e.get k (Nat.lt_trans hk (DS.get_lt' h.go)) (by
 simp only [List.mem_cons, not_or]
 exact ⟨by omega, fun hb => by have := h.up k hb; omega⟩)
def Zo (s : DS) (D : List (Nat × DObj)) : Prop := ∀ p, p ∈ D → s.get p.1 = some p.2
structure Zu {α : Type} (Rep : Nat → DS → Value → α → Prop) : Prop where
 stab : ∀ o s s' v x, Rep o s v x → Same o s s' → Rep o s' v x
 mono : ∀ o o' s v x, Rep o s v x → o ≤ o' → Rep o' s v x
def Zg {α : Type} (E : Env) (n : Nat) (f : Value) (D : List (Nat × DObj)) (Rep : Nat → DS → Value → α → Prop) (Ok : α → Prop) (enc : α → List Int) : Prop :=
 ∀ d s o bv bs v x, Zo s D → (∀ p, p ∈ D → p.1 < o) → Xu s o bv bs → s.Good → Rep o s v x → Ok x → bs.length + (enc x).length ≤ 1048576 → W (dcall E (d + n) f [.pointer (some ⟨o, 0, none⟩), v] s) (W2 s o bv (bs ++ enc x))
theorem Zo.same {s s' : DS} {o : Nat} {D : List (Nat × DObj)} (h : Zo s D) (hb : ∀ p, p ∈ D → p.1 < o) (hs : Same o s s') : Zo s' D := fun p hp => (hs _ (hb p hp)).trans (h p hp)
theorem Zo.keep {s s' : DS} {F : List Nat} {D : List (Nat × DObj)} (h : Zo s D) (e : Ext F s s') (hF : ∀ p, p ∈ D → p.1 ∉ F) : Zo s' D := fun p hp => e.keep (h p hp) (hF p hp)
theorem Zo.sub {s : DS} {D D' : List (Nat × DObj)} (h : Zo s D) (hs : ∀ p, p ∈ D' → p ∈ D) : Zo s D' := fun p hp => h p (hs p hp)
theorem Zg.mono {α : Type} {E : Env} {n m : Nat} {f : Value} {D : List (Nat × DObj)} {Rep : Nat → DS → Value → α → Prop} {Ok : α → Prop} {enc : α → List Int} (h : Zg E n f D Rep Ok enc) (hm : n ≤ m) : Zg E m f D Rep Ok enc := fun d s o bv bs v x h1 h2 h3 h4 h5 h6 h7 => by
 have := h (d + (m - n)) s o bv bs v x h1 h2 h3 h4 h5 h6 h7
 rwa [show d + (m - n) + n = d + m by omega] at this
theorem W2.next {s s1 : DS} {o : Nat} {bv bv1 : Value} {bs2 : List Int} (X : Ext (o :: blk bv) s s1) (hb : ∀ k, k ∈ blk bv1 → k ∈ blk bv ∨ s.next ≤ k) {r : Value × DS} (h : W2 s1 o bv1 bs2 r) : W2 s o bv bs2 r := by
 obtain ⟨hv, bv2, h1, h2, h3⟩ := h
 refine ⟨hv, bv2, h1, X.trans h2 fun k hk => ?_, fun k hk => ?_⟩
 · rcases List.mem_cons.1 hk with rfl | hk
   · exact .inl (List.mem_cons_self ..)
   · rcases hb k hk with h | h
     · exact .inl (List.mem_cons_of_mem _ h)
     · exact .inr h
 · rcases h3 k hk with h | h
   · exact hb k h
   · exact .inr (Nat.le_trans X.le h)
theorem QJ {c : Cells} : ∀ {n off : Nat} {L : List Value}, c.take off n = some L → L.length = n ∧ ∀ i, i < n → c.get (off + i) = L[i]?
 | 0, off, L, h => by cases h; exact ⟨rfl, fun i hi => absurd hi (Nat.not_lt_zero _)⟩
 | n + 1, off, L, h => by
  unfold Cells.take at h
  split at h
  · cases h
  · rename_i v hv
    split at h
    · cases h
    · rename_i l hl
      cases h
      obtain ⟨h1, h2⟩ := QJ hl
      refine ⟨by simp [h1], fun i hi => ?_⟩
      cases i with
      | zero => simpa using hv
      | succ i => have := h2 i (by omega); rw [show off + (i + 1) = off + 1 + i by omega, this]; simp
theorem JX {c : Cells} : ∀ {n off : Nat} {L : List Value}, L.length = n → (∀ i, i < n → c.get (off + i) = L[i]?) → c.take off n = some L
 | 0, off, L, h, _ => by rw [List.eq_nil_of_length_eq_zero h]; rfl
 | n + 1, off, [], h, _ => by simp at h
 | n + 1, off, v :: L, h, hg => by
  have h0 := hg 0 (Nat.succ_pos _)
  simp only [Nat.add_zero, List.getElem?_cons_zero] at h0
  have h1 : c.take (off + 1) n = some L := JX (by simpa using h) fun i hi => by
   have := hg (i + 1) (by omega)
   rw [show off + 1 + i = off + (i + 1) by omega, this]; simp
  unfold Cells.take
  rw [h0]
  simp only [h1]
def leI (x : Int) (i : Nat) : Int := zt .u8 ((zt .u64 x).fdiv (Int.ofNat (2 ^ (8 * i))))
def leB (x : Int) (n : Nat) : List Int := (List.range n).map (leI x)
theorem zB (x : Int) (n : Nat) : (leB x n).length = n := by simp [leB]
theorem QR (x : Int) (n : Nat) : leB x (n + 1) = leB x n ++ [leI x n] := by unfold leB; rw [List.range_succ, List.map_append]; rfl
def zz {α : Type} (E : Env) (n : Nat) (m : Nat) (s : DS) (v : Value) (Rep : Nat → DS → Value → α → Prop) (Ok : α → Prop) (enc : α → List Int) : Prop :=
 ∃ (f : FuncId) (a b : Array Value) (g : FuncId) (a' b' : Array Value) (D : List (Nat × DObj)), v = .agg ⟨[.func (.func f) a b, .func (.func g) a' b']⟩ ∧ Zo s D ∧ (∀ p, p ∈ D → m ≤ p.1 ∧ p.1 < s.next) ∧ Zg E n (.func (.func f) a b) D Rep Ok enc
theorem zz.keep {α : Type} {E : Env} {n m : Nat} {s s' : DS} {v : Value} {Rep : Nat → DS → Value → α → Prop} {Ok : α → Prop} {enc : α → List Int} (h : zz E n m s v Rep Ok enc) (e : Ext [] s s') : zz E n m s' v Rep Ok enc := by
 obtain ⟨f, a, b, g, a', b', D, h1, h2, h3, h4⟩ := h
 exact ⟨f, a, b, g, a', b', D, h1, h2.keep e (by simp), fun p hp => ⟨(h3 p hp).1, Nat.lt_of_lt_of_le (h3 p hp).2 e.le⟩, h4⟩
theorem zz.mono {α : Type} {E : Env} {n n' m : Nat} {s : DS} {v : Value} {Rep : Nat → DS → Value → α → Prop} {Ok : α → Prop} {enc : α → List Int} (h : zz E n m s v Rep Ok enc) (hm : n ≤ n') : zz E n' m s v Rep Ok enc := by
 obtain ⟨f, a, b, g, a', b', D, h1, h2, h3, h4⟩ := h
 exact ⟨f, a, b, g, a', b', D, h1, h2, h3, h4.mono hm⟩
end Go.Dx
