/-
  To, agree and alike as contracts: To hands back the tokens converted, agree of converted lists is the agreement in kind, text and value, alike of a list with itself is true. Conditions: at most 100 tokens; the slices' cells read as tokens.
-/
import Derived.Test.YtoaiiffnhecmcaaDoorAlike
namespace Go.Proofs.YtoaiiffnhecmcaaDoor
open Go.RowKit Go.Proofs.YtoaiiffnhecmcaaDoorW.PrintWords Go.Proofs.YtoaiiffnhecmcaaDoorW.PrintLast Go.Proofs.YtoaiiffnhecmcaaDoorW.PrintMore
open PLexerEqual

def toS (x : S26) : S34 := ⟨x.f0, x.f1, x.f2, x.f3.f0, x.f3.f1⟩
theorem wrap_succ (i : Nat) (h : i ≤ 100) : wrap64 ((i : Int) + 1) = ((i + 1 : Nat) : Int) := by
  unfold wrap64
  omega
theorem rd_map (xs : List S26) (i : Nat) (h : i < xs.length) : rd_T34 (xs.map toS) (i : Int) = toS (rd_T26 xs (i : Int)) := by
  simp [rd_T34, rd_T26, List.getD_eq_getElem?_getD, h]
theorem take_map (xs : List S26) (i : Nat) (h : i < xs.length) : (xs.take i).map toS ++ [toS (rd_T26 xs (i : Int))] = (xs.take (i + 1)).map toS := by
  have e : rd_T26 xs (i : Int) = xs[i] := by simp [rd_T26, List.getD_eq_getElem?_getD, h]
  rw [List.take_succ_eq_append_getElem h, List.map_append, e]
  rfl

theorem To_l (xs : List S26) (hn : xs.length ≤ 100) (d : Nat) : ∀ (k i : Nat), i + d = xs.length → d < k → palmettelaw09_To.l0 k xs ((xs.take i).map toS) (i : Int) = some (xs.map toS) := by
  induction d with
  | zero =>
    intro k i hi hk
    obtain ⟨k, rfl⟩ : ∃ m, k = m + 1 := ⟨k - 1, by omega⟩
    simp only [palmettelaw09_To.l0]
    rw [if_neg (by omega), List.take_of_length_le (by omega)]
  | succ d ih =>
    intro k i hi hk
    obtain ⟨k, rfl⟩ : ∃ m, k = m + 1 := ⟨k - 1, by omega⟩
    have hlt : i < xs.length := by omega
    simp only [palmettelaw09_To.l0]
    rw [if_pos (by omega), if_pos (by omega), if_pos (by rw [List.length_map, List.length_take]; omega), wrap_succ i (by omega)]
    have h : (xs.take i).map toS ++ [(⟨(rd_T26 xs (i : Int)).f0, (rd_T26 xs (i : Int)).f1, (rd_T26 xs (i : Int)).f2, (rd_T26 xs (i : Int)).f3.f0, (rd_T26 xs (i : Int)).f3.f1⟩ : S34)] = (xs.take (i + 1)).map toS := take_map xs i hlt
    rw [h]
    exact ih k (i + 1) (by omega) (by omega)
theorem To_f (xs : List S26) (hn : xs.length ≤ 100) : palmettelaw09_To.f 200 xs = some (xs.map toS) :=
  To_l xs hn xs.length 200 0 (by omega) (by omega)

theorem agree_l (xs ys : List S26) (hn : xs.length ≤ 100) (hl : xs.length = ys.length) (d : Nat) : ∀ (k i : Nat), i + d = xs.length → d < k → palmettelaw09_agree.l0 k (xs.map toS) (ys.map toS) (i : Int) = some (eqL (xs.drop i) (ys.drop i)) := by
  induction d with
  | zero =>
    intro k i hi hk
    obtain ⟨k, rfl⟩ : ∃ m, k = m + 1 := ⟨k - 1, by omega⟩
    simp only [palmettelaw09_agree.l0]
    rw [if_neg (by rw [List.length_map]; omega), List.drop_of_length_le (by omega), List.drop_of_length_le (by omega)]
    rfl
  | succ d ih =>
    intro k i hi hk
    obtain ⟨k, rfl⟩ : ∃ m, k = m + 1 := ⟨k - 1, by omega⟩
    have hx : i < xs.length := by omega
    have hy : i < ys.length := by omega
    simp only [palmettelaw09_agree.l0]
    rw [if_pos (by rw [List.length_map]; omega), if_pos (by omega), if_pos (by rw [List.length_map]; omega), wrap_succ i (by omega), rd_map xs i hx, rd_map ys i hy, drop_cons xs i hx, drop_cons ys i hy, ih k (i + 1) (by omega) (by omega)]
    generalize rd_T26 xs (i : Int) = x
    generalize rd_T26 ys (i : Int) = y
    unfold toS
    simp only [eqL, eqTok]
    by_cases h0 : x.f0 = y.f0
    · rw [if_pos h0]
      by_cases h1 : x.f1.toList = y.f1.toList
      · rw [if_pos h1]
        by_cases h2 : x.f2 = y.f2
        · rw [if_pos h2]; simp [h0, h1, h2]
        · rw [if_neg h2]; simp [h2]
      · rw [if_neg h1]; simp [h1]
    · rw [if_neg h0]; simp [h0]
theorem agree_f (xs ys : List S26) (hn : xs.length ≤ 100) : palmettelaw09_agree.f 200 (xs.map toS) (ys.map toS) = some (eqL xs ys) := by
  unfold palmettelaw09_agree.f
  rw [List.length_map, List.length_map]
  by_cases h : xs.length = ys.length
  · rw [if_pos (by omega)]
    exact agree_l xs ys hn h xs.length 200 0 (by omega) (by omega)
  · rw [if_neg (by omega), eqL_len h]

theorem alike_l (zs : List S34) (hn : zs.length ≤ 100) (d : Nat) : ∀ (k i : Nat), i + d = zs.length → d < k → palmettelaw09_alike.l0 k zs zs (i : Int) = some true := by
  induction d with
  | zero =>
    intro k i hi hk
    obtain ⟨k, rfl⟩ : ∃ m, k = m + 1 := ⟨k - 1, by omega⟩
    simp only [palmettelaw09_alike.l0]
    rw [if_neg (by omega)]
  | succ d ih =>
    intro k i hi hk
    obtain ⟨k, rfl⟩ : ∃ m, k = m + 1 := ⟨k - 1, by omega⟩
    simp only [palmettelaw09_alike.l0]
    rw [if_pos (by omega), if_pos (by omega), if_pos (by omega), wrap_succ i (by omega), ih k (i + 1) (by omega) (by omega)]
    simp
theorem alike_f (zs : List S34) (hn : zs.length ≤ 100) : palmettelaw09_alike.f 200 zs zs = some true := by
  unfold palmettelaw09_alike.f
  rw [if_pos rfl]
  exact alike_l zs hn zs.length 200 0 (by omega) (by omega)

/-- Agreement of a list with itself. -/
theorem eqL_refl : ∀ xs : List S26, eqL xs xs = true
  | [] => rfl
  | x :: xs => by simp [eqL, eqTok, eqL_refl xs]

/-! ### the contracts -/
theorem to_any (A0 : Option Addr) (c0 : Nat) (l0 : List S26) (w : World) (hr0 : Kd.C k26 w A0 l0.length l0) (hc0 : l0.length ≤ c0) (hn : l0.length ≤ 100) :
    Calls Tryd.prog 4 #[.slice A0 l0.length c0] w fun e w' => ∃ A c, e = .returned (.slice A l0.length c) ∧ l0.length ≤ c ∧ Kd.C k34 w' A l0.length (l0.map toS) ∧ Below w.heap.size w w' :=
  (palmettelaw09_To.calls 200 A0 c0 l0 _ w hr0 hc0 (To_f l0 hn)).mono fun e w' h => by
    obtain ⟨v, rfl, hR, hb⟩ := h
    obtain ⟨A, c, rfl, hc, hC⟩ := Kd.R_reads hR
    rw [List.length_map] at hc hC ⊢
    exact ⟨A, c, rfl, hc, hC, hb⟩

theorem agree_any (A0 A1 : Option Addr) (c0 c1 : Nat) (xs ys : List S26) (w : World) (hr0 : Kd.C k34 w A0 xs.length (xs.map toS)) (hc0 : xs.length ≤ c0) (hr1 : Kd.C k34 w A1 ys.length (ys.map toS)) (hc1 : ys.length ≤ c1) (hn : xs.length ≤ 100) :
    Calls Tryd.prog 6 #[.slice A0 xs.length c0, .slice A1 ys.length c1] w fun e w' => e = .returned (.bool (eqL xs ys)) ∧ Below w.heap.size w w' := by
  have h0 : (xs.map toS).length = xs.length := List.length_map _
  have h1 : (ys.map toS).length = ys.length := List.length_map _
  have := palmettelaw09_agree.calls 200 A0 c0 (xs.map toS) A1 c1 (ys.map toS) _ w (by rw [h0]; exact hr0) (by rw [h0]; exact hc0) (by rw [h1]; exact hr1) (by rw [h1]; exact hc1) (agree_f xs ys hn)
  rw [h0, h1] at this
  exact this.mono fun e w' h => ⟨h.1, h.2.below⟩

theorem alike_any (A0 A1 : Option Addr) (c0 c1 : Nat) (xs : List S26) (w : World) (hr0 : Kd.C k34 w A0 xs.length (xs.map toS)) (hc0 : xs.length ≤ c0) (hr1 : Kd.C k34 w A1 xs.length (xs.map toS)) (hc1 : xs.length ≤ c1) (hn : xs.length ≤ 100) :
    Calls Tryd.prog 8 #[.slice A0 xs.length c0, .slice A1 xs.length c1] w fun e w' => e = .returned (.bool true) ∧ Below w.heap.size w w' := by
  have h0 : (xs.map toS).length = xs.length := List.length_map _
  have := palmettelaw09_alike.calls 200 A0 c0 (xs.map toS) A1 c1 (xs.map toS) _ w (by rw [h0]; exact hr0) (by rw [h0]; exact hc0) (by rw [h0]; exact hr1) (by rw [h0]; exact hc1) (alike_f _ (by rw [h0]; exact hn))
  rw [h0] at this
  exact this.mono fun e w' h => ⟨h.1, h.2.below⟩
end Go.Proofs.YtoaiiffnhecmcaaDoor
