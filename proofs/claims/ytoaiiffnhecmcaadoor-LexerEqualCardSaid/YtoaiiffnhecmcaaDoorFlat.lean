/-
  Plain facts on lists of tokens as rows of cells: what a row of the call's own reads as, what a store of one cell makes of the list. No condition.
-/
import Derived.Test.YtoaiiffnhecmcaaDoorAg
namespace Go.Proofs.YtoaiiffnhecmcaaDoor
open Go.RowKit Go.Proofs.YtoaiiffnhecmcaaDoorW.PrintWords Go.Proofs.YtoaiiffnhecmcaaDoorW.PrintLast Go.Proofs.YtoaiiffnhecmcaaDoorW.PrintMore
open PLexerEqual

def cells26 (x : S26) : List Value := [.int .i64 x.f0, .string x.f1, .int .i64 x.f2, .int .i64 x.f3.f0, .int .i64 x.f3.f1]
def flat (l : List S26) : List Value := l.flatMap cells26
theorem flat_cons (x : S26) (l : List S26) : flat (x :: l) = cells26 x ++ flat l := rfl
theorem flat_length : ∀ l : List S26, (flat l).length = l.length * 5
  | [] => rfl
  | x :: l => by
    have h := flat_length l
    have h5 : (cells26 x).length = 5 := rfl
    rw [flat_cons, List.length_append, List.length_cons]
    omega
theorem flat_get : ∀ (l : List S26) (j i : Nat) (x : S26), l[j]? = some x → i < 5 → (flat l)[j * 5 + i]? = (cells26 x)[i]?
  | [], j, i, x, h, _ => by simp at h
  | y :: l, 0, i, x, h, hi => by
    simp at h
    subst h
    rw [flat_cons, List.getElem?_append_left (by simp [cells26]; omega)]
    simp
  | y :: l, j + 1, i, x, h, hi => by
    rw [flat_cons, List.getElem?_append_right (by simp [cells26]; omega)]
    have e : (j + 1) * 5 + i - (cells26 y).length = j * 5 + i := by simp [cells26]; omega
    rw [e]
    exact flat_get l j i x (by simpa using h) hi
theorem flat_one (l : List S26) : ∀ u ∈ flat l, u.oneCell' = true := by
  intro u hu
  obtain ⟨x, _, hx⟩ := List.mem_flatMap.1 hu
  simp only [cells26, List.mem_cons, List.not_mem_nil, or_false] at hx
  rcases hx with rfl | rfl | rfl | rfl | rfl <;> rfl

/-- What is read as tokens holds just these cells. -/
theorem C_flat {w : World} {ad : Addr} {n : Nat} {l : List S26} (h : Kd.C k26 w (some ad) n l) : ∀ (j : Nat) (u : Value), (flat l)[j]? = some u → w.cell? (ad.add j) = some u := by
  intro j u hu
  have hlen := h.1
  have hj : j < l.length * 5 := by
    rw [← flat_length]
    exact (List.getElem?_eq_some_iff.1 hu).1
  obtain ⟨ad', e, hc⟩ := h.2.2 (by omega)
  cases e
  have hq : j / 5 < l.length := by omega
  obtain ⟨c, hcl, hK, hcell⟩ := hc (j / 5) (l[j / 5]) (List.getElem?_eq_getElem hq)
  have hcs : c = cells26 l[j / 5] := k26_open hK
  have h5 : k26.sz = 5 := rfl
  have e5 : j / 5 * 5 + j % 5 = j := by omega
  have := flat_get l (j / 5) (j % 5) l[j / 5] (List.getElem?_eq_getElem hq) (by omega)
  rw [e5, hu] at this
  have h2 := hcell (j % 5) u (by rw [hcs]; exact this.symm)
  rw [h5, e5] at h2
  exact h2

/-- A row of the call's own reads as its tokens. -/
theorem C_own {w : World} {base g n cap : Nat} {l : List S26} (h : w.ownsRow base 26 5 (.slice (some ⟨g, 0, none⟩) n cap) n (flat l)) (hn : n ≤ 9223372036854775807) : l.length = n ∧ Kd.C k26 w (some ⟨g, 0, none⟩) n l := by
  have hl : l.length = n := by have := h.1; rw [flat_length] at this; omega
  refine ⟨hl, hl, hn, fun _ => ⟨_, rfl, fun j p hp => ⟨cells26 p, rfl, k26_mk w p, fun i u hu => ?_⟩⟩⟩
  have h5 : k26.sz = 5 := rfl
  have hi : i < 5 := (List.getElem?_eq_some_iff.1 hu).1
  rw [h5]
  exact h.cells (g := g) rfl (j * 5 + i) u (by rw [flat_get l j i p hp hi]; exact hu)

theorem C_take {w : World} {A : Option Addr} {n m : Nat} {l : List S26} (h : Kd.C k26 w A n l) (hm : m ≤ n) : Kd.C k26 w A m (l.take m) := by
  have hl := h.1
  have hx := h.2.1
  refine ⟨by rw [List.length_take]; omega, by omega, fun hp => ?_⟩
  obtain ⟨ad, e, hc⟩ := h.2.2 (by omega)
  refine ⟨ad, e, fun j p hp => hc j p ?_⟩
  rw [List.getElem?_take] at hp
  split at hp
  · exact hp
  · cases hp

/-- One cell of one token is stored. -/
theorem flat_set : ∀ (l : List S26) (j f : Nat) (x x' : S26) (u : Value), l[j]? = some x → f < 5 → cells26 x' = (cells26 x).set f u → flat (l.set j x') = (flat l).set (j * 5 + f) u
  | [], j, f, x, x', u, h, _, _ => by simp at h
  | y :: l, 0, f, x, x', u, h, hf, hc => by
    simp at h
    subst h
    rw [List.set_cons_zero, flat_cons, flat_cons, hc, List.set_append_left _ _ (by simp [cells26]; omega)]
    simp
  | y :: l, j + 1, f, x, x', u, h, hf, hc => by
    rw [List.set_cons_succ, flat_cons, flat_cons, List.set_append_right _ _ (by simp [cells26]; omega)]
    have e : (j + 1) * 5 + f - (cells26 y).length = j * 5 + f := by simp [cells26]; omega
    rw [e, flat_set l j f x x' u (by simpa using h) hf hc]
end Go.Proofs.YtoaiiffnhecmcaaDoor
