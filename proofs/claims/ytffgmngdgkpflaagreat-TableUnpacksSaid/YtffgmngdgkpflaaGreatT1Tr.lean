/- A part. -/
import Derived.Test.YtffgmngdgkpflaaGreatT1Un
import Derived.Test.YtffgmngdgkpflaaGreatT1Ia
set_option linter.unusedVariables false
set_option linter.unusedSimpArgs false
set_option maxRecDepth 100000
namespace Go.Dx.TbA
open Go Go.Dx Go.Dx.Tab Go.Proofs.YtffgmngdgkpflaaGreat
theorem Wi.row {x : ZL} (h : Wi x) : TO (YG x) := by
 unfold Wi at h
 by_cases c : x.2.1 = true
 · rw [if_pos c] at h
   obtain ⟨hg, h1, h2⟩ := h
   have hm : Xi (Kq x.2.2) := by unfold Kq; rw [if_pos hg]; exact hg.2
   have hr : (YG x).rep = Kq x.2.2 := by unfold YG; exact if_pos c
   refine ⟨?_, fun _ => by rw [hr]; exact ⟨hm, h1, h2⟩, fun e => ?_⟩
   · have := hm.2.1
     rw [h1, h2] at this
     exact this
   · have e : x.2.1 = false := e
     rw [c] at e
     cases e
 · rw [if_neg c] at h
   refine ⟨h.2, fun e => absurd e c, fun _ => ?_⟩
   unfold YG
   exact if_neg c
theorem ZQ.one {xs : List ZL} (h : ZQ xs) {x : ZL} (hx : x ∈ xs) : Wi x := by
 obtain ⟨i, hi⟩ := List.mem_iff_getElem?.1 hx
 exact (h i x hi).1
theorem ZQ.rise {xs : List ZL} (h : ZQ xs) : xs.Pairwise fun a b => a.1.1 < b.1.1 := by
 rw [List.pairwise_iff_getElem]
 intro i j hi hj hij
 exact h.lt j i _ _ hij (List.getElem?_eq_getElem hj) (List.getElem?_eq_getElem hi)
theorem ZQ.pre {l r : List ZL} (h : ZQ (l ++ r)) : ZQ l := by
 intro i x hx
 have hi := (List.getElem?_eq_some_iff.1 hx).1
 obtain ⟨h1, h2⟩ := h i x (by rw [List.getElem?_append_left hi]; exact hx)
 exact ⟨h1, fun y h3 h4 => h2 y h3 (by rw [List.getElem?_append_left (by omega)]; exact h4)⟩
theorem Cz (xs : List ZL) : (Ye xs).map (fun x => x.1.key) = xs.map fun x => x.1.1 := by
 unfold Ye
 have h : ∀ (l : List ZL) (n : Nat), ((l.map YG).zipIdx n).map (fun x => x.1.key) = l.map fun x => x.1.1 := fun l => by
  induction l with
  | nil => intro n; rfl
  | cons a l ih =>
   intro n
   simp only [z4, List.zipIdx_cons, ih]
   rfl
 exact h xs 0
theorem M1 {xs : List ZL} {x : TR × Nat} (h : x ∈ Ye xs) : ∃ y, y ∈ xs ∧ x.1 = YG y := by
 unfold Ye at h
 obtain ⟨a, b⟩ := x
 have h1 := List.mem_zipIdx h
 simp only [Nat.zero_le, Nat.zero_add, true_and, List.length_map, Nat.sub_zero] at h1
 obtain ⟨h2, h3⟩ := h1
 refine ⟨xs[b], List.getElem_mem h2, ?_⟩
 simp only at h3 ⊢
 rw [h3, List.getElem_map]
theorem ZQ.trs {xs : List ZL} (h : ZQ xs) : XJ (Ye xs) xs.length := by
 refine ⟨?_, fun x hx => ?_, fun x hx => ?_, ?_⟩
 · rw [Cz]
   unfold List.Nodup
   rw [List.pairwise_map]
   exact h.rise.imp fun {a b} h => by omega
 · obtain ⟨y, hy, e⟩ := M1 hx
   rw [e]
   exact (h.one hy).row
 · obtain ⟨a, b⟩ := x
   have h1 := List.mem_zipIdx (show (a, b) ∈ (xs.map YG).zipIdx from hx)
   simp only [Nat.zero_le, Nat.zero_add, true_and, List.length_map, Nat.sub_zero] at h1
   exact h1.1
 · unfold Ye
   have : ((xs.map YG).zipIdx).map (fun x => x.2) = List.range' 0 (xs.map YG).length := by
    simp
   rw [this]
   exact List.nodup_range'
theorem Pf {xs : List ZL} (h : ZQ xs) : ZM (Ye xs) = xs.map fun x => x.1.1 := by
 unfold ZM
 rw [Cz]
 refine List.Perm.eq_of_pairwise (le := fun a b : Int => a ≤ b) (fun a b _ _ h1 h2 => Int.le_antisymm h1 h2) (Qe _) ?_ (Wn _)
 rw [List.pairwise_map]
 exact h.rise.imp fun {a b} h => by omega
theorem PB {x : ZL} (h : Wi x) (hB : IsB x.2.2) : JT (YG x) = x := by
 obtain ⟨⟨c, n⟩, q, body⟩ := x
 unfold Wi at h
 simp only at h hB
 unfold JT YG
 simp only
 cases q with
 | false =>
  simp only [z3, if_false] at h ⊢
  rw [h.1]
 | true =>
  simp only [if_true] at h ⊢
  have hc := h.1.1.code hB
  have : encR (Kq body) = body := by
   unfold Kq
   rw [if_pos h.1]
   exact hc.symm
  rw [this]
theorem Pw {xs : List ZL} (h : ZQ xs) (hB : ∀ x, x ∈ xs → IsB x.2.2) : Qc (Go.Dx.Tab.rowOf (Ye xs)) = KJ xs := by
 unfold Qc
 congr 1
 have h1 : (XL (Go.Dx.Tab.rowOf (Ye xs))).map (fun i : Nat => QX (Go.Dx.Tab.rowOf (Ye xs)) (i : Int)) = (ZM (Ye xs)).map (QX (Go.Dx.Tab.rowOf (Ye xs))) := by
  rw [W3 h.trs, List.map_map]
  rfl
 unfold QY
 rw [h1, Pf h, List.map_map]
 conv => rhs; rw [← List.map_id xs]
 refine List.map_congr_left fun x hx => ?_
 show QX _ x.1.1 = x
 have hm : ∃ b, (YG x, b) ∈ Ye xs := by
  obtain ⟨i, hi⟩ := List.mem_iff_getElem?.1 hx
  refine ⟨i, ?_⟩
  unfold Ye
  rw [List.mem_zipIdx_iff_getElem?, List.getElem?_map, hi]
  rfl
 obtain ⟨b, hb⟩ := hm
 have := GK h.trs.keys hb
 have hk : (YG x).key = x.1.1 := rfl
 rw [hk] at this
 unfold QX
 rw [this]
 exact PB (h.one hx) (hB x hx)
theorem GT {α : Type} (rd : RS → α × RS) : ∀ (n : Nat) (l : List α) (st : RS), ∃ r, (Yc rd n l st).1 = l ++ r
 | 0, l, st => ⟨[], (List.append_nil l).symm⟩
 | n + 1, l, st => by
  unfold Yc
  split
  · exact ⟨[], (List.append_nil l).symm⟩
  · obtain ⟨r, hr⟩ := GT rd n (l ++ [(rd st).1]) (rd st).2
    exact ⟨(rd st).1 :: r, by rw [hr, List.append_assoc]; rfl⟩
end Go.Dx.TbA
