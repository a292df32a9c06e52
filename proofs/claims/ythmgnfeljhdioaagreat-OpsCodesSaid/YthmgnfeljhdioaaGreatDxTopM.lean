/- A part. -/
import Derived.Test.YthmgnfeljhdioaaGreatDxRow
import Derived.Test.YthmgnfeljhdioaaGreatDxW
set_option linter.unusedVariables false
set_option linter.unusedSimpArgs false
set_option linter.unusedSectionVars false
namespace Go.Dx
open Go Go.ChangeShapes Go.WideShapes Go.ChangeAt Go.RowKit
theorem LO {P : Program} {E : Env} (hE : Dt P E) {d g : Nat} {all : List Value} {args : Array Value} {s s' : DS} (h : dcall E d (.func (.func g) #[] #[]) all s = some (.bool true, s')) {β : Emb} (ha : LRel β all args.toList) {W : World} (hR : Rel P β s.get W)
 (hn : ∀ k, s.next ≤ k → β k = none) (hro : ∀ k o, s.get k = some o → owned o = false) :
 Calls P g args W fun e w' => e = .returned (.bool true) ∧ Kept W w' := by
 obtain ⟨hfr, hb, hok⟩ := Yh hE d
 have he := hok _ _ _ _ _ h β W (.func (.func g) #[] #[]) args (.func .nil .nil) ha hR (fun k h1 _ => hn k h1)
 simp only [Deferred.ofValue, Sem.run_bind, Sem.run_pure, Result.andThen_ok, invoke, hb _ _ _ _ _ _ h] at he
 simp only [Enters] at he
 have e1 : #[] ++ args ++ #[] = args := by simp
 rw [e1] at he
 refine (callsIn_wide.1 he).mono ?_
 rintro e w' ⟨v', rfl, β', hv, st⟩
 cases hv
 exact ⟨rfl, st.os, st.tape, st.output, fun i hi => st.frame i hi (fun k o l hk ho => absurd ho (by rw [hro k o hk]; exact Bool.false_ne_true)), st.size⟩
def JR (W : World) (ks : List Kd) (v : Value) (l : List (List Value)) : Prop :=
 (v = .slice none 0 0 ∧ l = []) ∨ ∃ b o c, v = .slice (some ⟨b, o, none⟩) l.length c ∧ l.length ≤ c ∧ c ≤ maxLen ∧ b < W.heap.size ∧ (∀ x, x ∈ l → z7 ks x) ∧ ∀ i x, l[i]? = some x → ∀ j y, x[j]? = some y → W.cell? ⟨b, o + i * ks.length + j, none⟩ = some y
section
variable {H : Type} {enc : TypeId × Value → H} {P : Program} {W : World}
theorem add_plain (b o n : Nat) : (⟨b, o, none⟩ : Addr).add n = ⟨b, o + n, none⟩ := by
 unfold Addr.add
 split
 · rename_i h; subst h; rfl
 · rfl
theorem DQ {f : Nat → Option Value} : ∀ {n : Nat} {cs : List Value}, (List.range n).mapM f = some cs → cs.length = n ∧ ∀ j y, cs[j]? = some y → f j = some y := by
 have key : ∀ (n base : Nat) (cs : List Value), ((List.range n).map (· + base)).mapM f = some cs → cs.length = n ∧ ∀ j y, cs[j]? = some y → f (base + j) = some y := by
  intro n
  induction n with
  | zero => intro base cs h; simp at h; subst h; exact ⟨rfl, fun j y h => by simp at h⟩
  | succ n ih =>
   intro base cs h
   rw [List.range_succ_eq_map, z4, List.map_map, List.mapM_cons, Nat.zero_add] at h
   simp only [bind, Option.bind_eq_some_iff, pure, z2] at h
   obtain ⟨y, hy, ys, hys, rfl⟩ := h
   have e2 : (List.range n).map ((· + base) ∘ Nat.succ) = (List.range n).map (· + (base + 1)) := List.map_congr_left fun i _ => by simp only [Function.comp]; omega
   rw [e2] at hys
   obtain ⟨h1, h2⟩ := ih (base + 1) ys hys
   refine ⟨by simp [h1], fun j z hz => ?_⟩
   cases j with
   | zero => simp at hz; subst hz; exact hy
   | succ j => have := h2 j z (by simpa using hz); rwa [show base + 1 + j = base + (j + 1) by omega] at this
 intro n cs h
 have := key n 0 cs (by simpa using h)
 simpa using this
theorem Lo {t e : TypeId} {ks : List Kd} {v : Value} {d : DataW H} {p : List MemPlace} {sp : Nat → Bool} {held : Bool} {base : Nat} {N : Nat} (hu : P.underlying t = some (.slice e)) (hs : WL P N e = some ks) (hm : P.cellsOf e = ks.length) (hk : 0 < ks.length)
 (hv : Value.okWide P W .any base t v) (h : DataW.Trod enc P W 0 sp held t v d p) : ∃ l, JR W ks v l := by
 obtain ⟨fuel, h⟩ := h
 rcases DataW.trod_slice hu h with ⟨h1, _⟩ | ⟨a, len, cap, elems, rest, n, _, h1, _, hb, hl, hc, hel, hE, _⟩
 · refine ⟨[], .inl ⟨?_, rfl⟩⟩
   cases v <;> simp [Value.cells] at h1
   · obtain ⟨rfl, rfl, rfl⟩ := h1; rfl
   · rename_i cs
     exfalso
     simp only [Value.okWide, hu, Cell.okWide, Cell.ok] at hv
 · have hv1 : v = .slice (some a) len cap := by
    cases v <;> simp [Value.cells] at h1
    · obtain ⟨rfl, rfl, rfl⟩ := h1; rfl
    · exfalso; simp only [Value.okWide, hu, Cell.okWide, Cell.ok] at hv
   subst hv1
   simp only [Value.okWide, hu, Cell.okWide, Cell.ok, World.has] at hv
   obtain ⟨_, _, _, hsp, row, cells, hrow, _⟩ := hv
   obtain ⟨ab, ao, asp⟩ := a
   simp only at hsp
   subst hsp
   have hbl : ab < W.heap.size := by
    unfold World.shape? at hrow
    split at hrow
    · rename_i h; exact (Array.getElem?_eq_some_iff.1 h).1
    · cases hrow
   have key : ∀ i, i < len → ∃ cs, cs.length = ks.length ∧ z7 ks cs ∧ ∀ j y, cs[j]? = some y → W.cell? ⟨ab, ao + i * ks.length + j, none⟩ = some y := by
    intro i hi
    have h2 := hE i hi
    have h3 : ∃ y, elems[i]? = some y := ⟨elems[i], List.getElem?_eq_getElem (by omega)⟩
    obtain ⟨y, hy⟩ := h3
    rw [hy, Option.bind_eq_some_iff] at h2
    obtain ⟨cs, h4, h5⟩ := h2
    unfold World.cells? at h4
    rw [if_pos (Nat.zero_le _)] at h4
    obtain ⟨h6, h7⟩ := DQ h4
    rw [hm] at h6 h7
    exact ⟨cs, h6, Wb N n e cs ks y hs h5, fun j z hz => by have := h7 j z hz; rwa [add_plain, add_plain] at this⟩
   have key2 : ∀ m, m ≤ len → ∃ l : List (List Value), l.length = m ∧ (∀ x, x ∈ l → z7 ks x) ∧ ∀ i x, l[i]? = some x → ∀ j y, x[j]? = some y → W.cell? ⟨ab, ao + i * ks.length + j, none⟩ = some y := by
    intro m
    induction m with
    | zero => exact fun _ => ⟨[], rfl, fun x hx => (nomatch hx), fun i x hx => (nomatch hx)⟩
    | succ m ih =>
     intro hm'
     obtain ⟨l, l1, l2, l3⟩ := ih (by omega)
     obtain ⟨cs, c1, c2, c3⟩ := key m (by omega)
     refine ⟨l ++ [cs], by simp [l1], fun x hx => ?_, fun i x hx => ?_⟩
     · rcases List.mem_append.1 hx with hx | hx
       · exact l2 x hx
       · simp at hx; subst hx; exact c2
     · rcases Nat.lt_or_ge i l.length with hlt | hge
       · rw [List.getElem?_append_left hlt] at hx; exact l3 i x hx
       · rw [List.getElem?_append_right hge] at hx
         have : i = m := by
          rcases Nat.eq_or_lt_of_le hge with h | h
          · omega
          · rw [List.getElem?_eq_none (by simp; omega)] at hx; cases hx
         subst this
         rw [l1, Nat.sub_self] at hx
         simp at hx; subst hx; exact c3
   obtain ⟨l, l1, l2, l3⟩ := key2 len (Nat.le_refl _)
   exact ⟨l, .inr ⟨ab, ao, cap, by rw [l1], by omega, hc, hbl, l2, l3⟩⟩
end
theorem QV : ∀ (l : List Value) (i : Nat), getN l i = l[i]?
 | [], _ => rfl
 | _ :: _, 0 => rfl
 | _ :: l, i + 1 => by simpa [getN] using QV l i
theorem flat_get {m : Nat} : ∀ {l : List (List Value)}, (∀ x, x ∈ l → x.length = m) → ∀ {q r : Nat} {x : List Value} {y : Value}, l[q]? = some x → x[r]? = some y → l.flatten[q * m + r]? = some y
 | [], _, q, _, _, _, h, _ => by simp at h
 | z :: l, hm, 0, r, x, y, h, hy => by
  simp at h
  subst h
  have : r < z.length := (List.getElem?_eq_some_iff.1 hy).1
  simp only [List.flatten_cons, Nat.zero_mul, Nat.zero_add]
  rw [List.getElem?_append_left this]
  exact hy
 | z :: l, hm, q + 1, r, x, y, h, hy => by
  have hz : z.length = m := hm z (List.mem_cons_self ..)
  have := flat_get (l := l) (fun x hx => hm x (List.mem_cons_of_mem _ hx)) (q := q) (r := r) (by simpa using h) hy
  simp only [List.flatten_cons]
  rw [List.getElem?_append_right (by rw [hz, Nat.succ_mul]; omega), hz]
  rwa [show (q + 1) * m + r - m = q * m + r by rw [Nat.succ_mul]; omega]
theorem Gk {m : Nat} : ∀ {l : List (List Value)}, (∀ x, x ∈ l → x.length = m) → ∀ {i : Nat} {y : Value}, l.flatten[i]? = some y → ∃ q r x, l[q]? = some x ∧ x[r]? = some y ∧ i = q * m + r
 | [], _, i, y, h => by simp at h
 | z :: l, hm, i, y, h => by
  have hz : z.length = m := hm z (List.mem_cons_self ..)
  simp only [List.flatten_cons] at h
  rcases Nat.lt_or_ge i z.length with hlt | hge
  · rw [List.getElem?_append_left hlt] at h
    exact ⟨0, i, z, rfl, h, by omega⟩
  · rw [List.getElem?_append_right hge] at h
    obtain ⟨q, r, x, h1, h2, h3⟩ := Gk (l := l) (fun x hx => hm x (List.mem_cons_of_mem _ hx)) h
    exact ⟨q + 1, r, x, by simpa using h1, h2, by rw [Nat.succ_mul]; omega⟩
def VY (s : DS) (v : Value) (l : List (List Value)) : Prop := (v = .slice none 0 0 ∧ l = []) ∨ ∃ b c, v = .slice (some ⟨b, 0, none⟩) l.length c ∧ s.get b = some (.cells (.list l.flatten) true)
def Gc : Kd → Bool
 | .opq => false
 | _ => true
theorem DM {β : Emb} {k : Kd} {v : Value} (hp : Gc k = true) (h : k.ok v) : VRel β v v := by
 cases k with
 | int q => obtain ⟨n, rfl, _⟩ := h; exact .int _ _
 | bool => obtain ⟨n, rfl⟩ := h; exact .bool _
 | str => obtain ⟨n, rfl, _⟩ := h; exact .string _
 | opq => cases hp
theorem KN {β : Emb} : ∀ {ks : List Kd} {cs : List Value}, z7 ks cs → ks.all Gc = true → ∀ {j : Nat} {y : Value}, cs[j]? = some y → VRel β y y
 | [], cs, h, _, j, y, hy => by rw [z7.nil h] at hy; simp at hy
 | k :: ks, cs, h, hp, j, y, hy => by
  obtain ⟨c, r, rfl, h1, h2⟩ := z7.cons h
  simp only [List.all_cons, Bool.and_eq_true] at hp
  cases j with
  | zero => simp at hy; subst hy; exact DM hp.1 h1
  | succ j => exact KN h2 hp.2 (j := j) (by simpa using hy)
theorem JZ : s0.Good := fun _ _ => ⟨rfl, rfl⟩
theorem SV {P : Program} {W : World} {ks : List Kd} {v : Value} {l : List (List Value)} (h : JR W ks v l) (hp : ks.all Gc = true) :
 ∃ (s : DS) (β : Emb) (v' : Value), VRel β v' v ∧ Rel P β s.get W ∧ (∀ k, s.next ≤ k → β k = none) ∧ (∀ k o, s.get k = some o → owned o = false) ∧ s.Good ∧ VY s v' l := by
 rcases h with ⟨rfl, rfl⟩ | ⟨b, o, c, rfl, hc, hm, hb, hf, hcell⟩
 · exact ⟨s0, fun _ => none, .slice none 0 0, .nilSlice, ⟨fun k o hk => by have := DS.get_lt hk; simp [s0, DS.start] at this, fun k k' o o' l l' hk => by have := DS.get_lt hk; simp [s0, DS.start] at this⟩, fun _ _ => rfl, fun k o hk => by have := DS.get_lt hk; simp [s0, DS.start] at this, JZ, .inl ⟨rfl, rfl⟩⟩
 · have hlen : ∀ x, x ∈ l → x.length = ks.length := fun x hx => z7.length (hf x hx)
   let ob : DObj := .cells (.list l.flatten) true
   have hget : ∀ k ob', (s0.new ob).get k = some ob' → k = 0 ∧ ob' = ob := by
    intro k ob' hk
    have hlt := DS.get_lt hk
    have : k = 0 := by simp [s0, DS.start, DS.new] at hlt; exact hlt
    subst this
    have : (s0.new ob).get 0 = some ob := DS.new_get_self JZ
    rw [this] at hk
    cases hk
    exact ⟨rfl, rfl⟩
   refine ⟨s0.new ob, fun k => if k = 0 then some ⟨b, o, 0, 1, l.flatten.length⟩ else none, .slice (some ⟨0, 0, none⟩) l.length c, .closed (l := ⟨b, o, 0, 1, l.flatten.length⟩) (by simp) hc (.inr rfl), ⟨?_, ?_⟩, ?_, ?_, DS.new_good JZ, .inr ⟨0, c, rfl, DS.new_get_self JZ⟩⟩
   · intro k ob' hk
     obtain ⟨rfl, rfl⟩ := hget k ob' hk
     refine ⟨_, rfl, hb, rfl, fun i v hv => ?_, fun h => (nomatch h), fun h => (nomatch h)⟩
     have hv' : l.flatten[i]? = some v := by rw [← QV]; exact hv
     obtain ⟨q, r, x, h1, h2, h3⟩ := Gk hlen hv'
     refine ⟨v, ?_, KN (hf x (List.mem_of_getElem? h1)) hp h2⟩
     have := hcell q x h1 r v h2
     rw [h3, ← Nat.add_assoc]
     exact this
   · intro k k' o1 o2 l1 l2 h1 h2 _ _ hne
     exact absurd ((hget k o1 h1).1.trans (hget k' o2 h2).1.symm) hne
   · intro k hk
     have : 1 ≤ k := hk
     simp [show k ≠ 0 by omega]
   · intro k ob' hk
     obtain ⟨_, rfl⟩ := hget k ob' hk
     rfl
theorem VY.read {s : DS} {v : Value} {l : List (List Value)} {m : Nat} (h : VY s v l) (hm : ∀ x, x ∈ l → x.length = m) {q r : Nat} {x : List Value} {y : Value} (hq : l[q]? = some x) (hr : x[r]? = some y) :
 ∃ b c, v = .slice (some ⟨b, 0, none⟩) l.length c ∧ ldV (.pointer (some ⟨b, q * m + r, none⟩)) s = some y := by
 rcases h with ⟨_, rfl⟩ | ⟨b, c, rfl, hg⟩
 · simp at hq
 · refine ⟨b, c, rfl, ?_⟩
   simp only [ldV, hg, Cells.get, QV]
   exact flat_get hm hq hr
end Go.Dx
