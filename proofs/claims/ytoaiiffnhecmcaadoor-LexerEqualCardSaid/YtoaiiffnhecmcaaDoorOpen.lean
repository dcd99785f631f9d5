/-
  An argument of type []Token that reads as data reads as a list of tokens, cell by cell; no text of it is longer than the argument's weights say. No condition but that it reads.
-/
import Derived.Test.YtoaiiffnhecmcaaDoorFlat
import Derived.Deep.Slices
import Derived.SizedLaws
import Derived.ProofKit
namespace Go.Proofs.YtoaiiffnhecmcaaDoor
open Go.ChangeShapes Go.WideShapes Go.Deep
open Go.RowKit Go.Proofs.YtoaiiffnhecmcaaDoorW.PrintWords
open PLexerEqual

section
variable {H : Type} {enc : TypeId × Value → H} {P : Program} {W : World} {base : Nat} {spare : Nat → Bool} {held : Bool}

theorem list4 {α : Type} {xs : List α} (h : xs.length = 4) : ∃ a b c d, xs = [a, b, c, d] := by
  match xs, h with
  | [a, b, c, d], _ => exact ⟨a, b, c, d, rfl⟩
theorem list2 {α : Type} {xs : List α} (h : xs.length = 2) : ∃ a b, xs = [a, b] := by
  match xs, h with
  | [a, b], _ => exact ⟨a, b, rfl⟩
theorem list5 {α : Type} {xs : List α} (h : xs.length = 5) : ∃ a b c d e, xs = [a, b, c, d, e] := by
  match xs, h with
  | [a, b, c, d, e], _ => exact ⟨a, b, c, d, e, rfl⟩

/-- Five cells that read as a Token (of a type of four fields: a number, a text, a number, a pair of numbers). -/
theorem tok_of_trod {t26 t24 t3 t9 : TypeId} {F0 F1 F2 F3 G0 G1 : Field} (h26 : P.underlying t26 = some (.struct #[F0, F1, F2, F3])) (h24 : P.underlying t24 = some (.struct #[G0, G1])) (h3 : P.underlying t3 = some (.int .i64)) (h9 : P.underlying t9 = some .string)
    (c26 : P.cellsOf t26 = 5) (c24 : P.cellsOf t24 = 2) (c3 : P.cellsOf t3 = 1) (c9 : P.cellsOf t9 = 1)
    (a0 : F0.type = t3 ∧ F0.offset = 0) (a1 : F1.type = t9 ∧ F1.offset = 1) (a2 : F2.type = t3 ∧ F2.offset = 2) (a3 : F3.type = t24 ∧ F3.offset = 3) (b0 : G0.type = t3 ∧ G0.offset = 0) (b1 : G1.type = t3 ∧ G1.offset = 1)
    {fuel : Nat} {cs : List Value} {D : DataW H} {q : List MemPlace} (h : DataW.trod enc P W base spare held fuel t26 cs = some (D, q)) : ∃ x : S26, cs = cells26 x ∧ x.f1.size ∈ D.weights P t26 := by
  obtain ⟨xs, n, _, hx, hlen, hxl, hf⟩ := DataW.trod_struct h26 h
  rw [c26] at hlen
  obtain ⟨v0, v1, v2, v3, v4, rfl⟩ := list5 hlen
  obtain ⟨y0, y1, y2, y3, rfl⟩ := list4 hxl
  have f0 := hf 0 F0 rfl
  have f1 := hf 1 F1 rfl
  have f2 := hf 2 F2 rfl
  have f3 := hf 3 F3 rfl
  rw [a0.1, a0.2, c3] at f0
  rw [a1.1, a1.2, c9] at f1
  rw [a2.1, a2.2, c3] at f2
  rw [a3.1, a3.2, c24] at f3
  simp only [List.drop_zero, List.drop_succ_cons, List.take_succ_cons, List.take_zero, List.getElem?_cons_zero, List.getElem?_cons_succ] at f0 f1 f2 f3
  obtain ⟨k0, e0, _, _⟩ := DataW.trod_int h3 f0
  obtain ⟨s1, e1, z1, _⟩ := DataW.trod_string h9 f1
  obtain ⟨k2, e2, _, _⟩ := DataW.trod_int h3 f2
  obtain ⟨ys, m, _, _, _, hyl, hg⟩ := DataW.trod_struct h24 f3
  obtain ⟨u0, u1, rfl⟩ := list2 hyl
  have g0 := hg 0 G0 rfl
  have g1 := hg 1 G1 rfl
  rw [b0.1, b0.2, c3] at g0
  rw [b1.1, b1.2, c3] at g1
  simp only [List.drop_zero, List.drop_succ_cons, List.take_succ_cons, List.take_zero, List.getElem?_cons_zero, List.getElem?_cons_succ] at g0 g1
  obtain ⟨k3, e3, _, _⟩ := DataW.trod_int h3 g0
  obtain ⟨k4, e4, _, _⟩ := DataW.trod_int h3 g1
  simp only [List.cons.injEq, and_true] at e0 e1 e2 e3 e4
  subst e0 e1 e2 e3 e4
  refine ⟨⟨k0, s1, k2, ⟨k3, k4⟩⟩, rfl, ?_⟩
  simp only [Prod.mk.injEq] at hx
  rw [hx.1]
  have hs : s1.size ∈ DataW.weights P t9 y1.1 := by rw [z1]; simp only [DataW.weights, List.mem_singleton]; rfl
  simp only [DataW.weights, h26, List.map_cons, List.map_nil, DataW.weightsEach, a1.1, List.mem_append]
  exact .inr (.inl hs)

/-- An argument that is a slice of tokens. -/
theorem open_tok {t22 t26 t24 t3 t9 : TypeId} {F0 F1 F2 F3 G0 G1 : Field} (h22 : P.underlying t22 = some (.slice t26)) (h26 : P.underlying t26 = some (.struct #[F0, F1, F2, F3])) (h24 : P.underlying t24 = some (.struct #[G0, G1])) (h3 : P.underlying t3 = some (.int .i64)) (h9 : P.underlying t9 = some .string)
    (c26 : P.cellsOf t26 = 5) (c24 : P.cellsOf t24 = 2) (c3 : P.cellsOf t3 = 1) (c9 : P.cellsOf t9 = 1)
    (a0 : F0.type = t3 ∧ F0.offset = 0) (a1 : F1.type = t9 ∧ F1.offset = 1) (a2 : F2.type = t3 ∧ F2.offset = 2) (a3 : F3.type = t24 ∧ F3.offset = 3) (b0 : G0.type = t3 ∧ G0.offset = 0) (b1 : G1.type = t3 ∧ G1.offset = 1)
    {fuel : Nat} {a : Option Addr} {len cap : Nat} {D : DataW H} {q : List MemPlace} (h : DataW.trod enc P W base spare held fuel t22 [.slice a len cap] = some (D, q)) :
    (a = none → len = 0 ∧ cap = 0) ∧ len ≤ cap ∧ cap ≤ 9223372036854775807 ∧ ∃ l : List S26, Kd.C k26 W a len l ∧ ∀ x ∈ l, x.f1.size ∈ D.weights P t22 := by
  rcases open_slice h22 h with ⟨hcs, _⟩ | ⟨ad, len', cap', m, n, E, Pl, hcs, _, hl, hm, hmm, hx, hel⟩
  · simp only [List.cons.injEq, Value.slice.injEq, and_true] at hcs
    obtain ⟨rfl, rfl, rfl⟩ := hcs
    exact ⟨fun _ => ⟨rfl, rfl⟩, Nat.le_refl _, by omega, [], Kd.C_nil k26 W, fun x hx => by simp at hx⟩
  · simp only [List.cons.injEq, Value.slice.injEq, and_true] at hcs
    obtain ⟨rfl, rfl, rfl⟩ := hcs
    have hlm : len ≤ m := by rw [hmm]; split <;> omega
    unfold maxLen at hm
    refine ⟨fun e => by simp at e, hl, by omega, ?_⟩
    have inst : Inhabited S26 := ⟨z26⟩
    obtain ⟨f, hf⟩ := choose_lt (α := S26) (n := len) (p := fun i x => (∀ j u, (cells26 x)[j]? = some u → W.cell? (ad.add (i * 5 + j)) = some u) ∧ x.f1.size ∈ (E i).weights P t26) (fun i hi => by
      obtain ⟨cs', hc, ht⟩ := hel i (by omega)
      obtain ⟨x, rfl, hw⟩ := tok_of_trod h26 h24 h3 h9 c26 c24 c3 c9 a0 a1 a2 a3 b0 b1 ht
      refine ⟨x, fun j u hu => ?_, hw⟩
      rw [c26] at hc
      obtain ⟨_, _, hcell⟩ := World.cells?_some hc
      have hj : j < 5 := (List.getElem?_eq_some_iff.1 hu).1
      rw [← Go.Deep.add_add, hcell j hj]
      exact hu)
    refine ⟨(List.range len).map f, ⟨by simp, by omega, fun _ => ⟨ad, rfl, fun j p hp => ?_⟩⟩, fun x hx' => ?_⟩
    · have hj : j < len := by
        have := (List.getElem?_eq_some_iff.1 hp).1
        simpa using this
      have hpe : p = f j := by simpa [hj] using hp.symm
      subst hpe
      exact ⟨cells26 (f j), rfl, k26_mk W (f j), fun i u hu => (hf j hj).1 i u hu⟩
    · obtain ⟨i, hi, rfl⟩ := List.mem_map.1 hx'
      have hi' : i < len := by simpa using hi
      simp only [Prod.mk.injEq] at hx
      rw [hx.1]
      have hwa : ∀ (l : List Nat) (i : Nat), i ∈ l → ∀ y, y ∈ (E i).weights P t26 → y ∈ DataW.weightsAll P t26 (l.map E) := by
        intro l
        induction l with
        | nil => intro i hi; simp at hi
        | cons b r ih =>
          intro i hi y hy
          simp only [List.map_cons, DataW.weightsAll, List.mem_append]
          rcases List.mem_cons.1 hi with rfl | hi
          · exact .inl hy
          · exact .inr (ih i hi y hy)
      have := hwa (List.range len) i hi _ (hf i hi').2
      simp only [DataW.weights, h22, List.mem_cons, List.mem_append]
      exact .inr (.inl this)
end


end Go.Proofs.YtoaiiffnhecmcaaDoor
