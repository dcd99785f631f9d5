/-
  lexer.Equal at any two slices of tokens: it returns whether they are of one length and agree in kind, text and value at every index. Condition: the slices' cells read as tokens.
-/
import Derived.Test.YtoaiiffnhecmcaaDoorPLexerEqualx2
namespace Go.Proofs.YtoaiiffnhecmcaaDoor
open Go.RowKit Go.Proofs.YtoaiiffnhecmcaaDoorW.PrintWords Go.Proofs.YtoaiiffnhecmcaaDoorW.PrintLast Go.Proofs.YtoaiiffnhecmcaaDoorW.PrintMore
open PLexerEqual

theorem ret_bool {a b : Bool} (h : a = b) : Ending.returned (.bool a) = .returned (.bool b) := by rw [h]
def tokV (x : S26) : Value := .agg #[.int .i64 x.f0, .string x.f1, .int .i64 x.f2, .int .i64 x.f3.f0, .int .i64 x.f3.f1]
def eqTok (x y : S26) : Bool := x.f0 == y.f0 && (x.f1.toList == y.f1.toList && x.f2 == y.f2)

set_option maxHeartbeats 400000 in
set_option maxRecDepth 100000 in
theorem closure_any (x0 y0 x2 y2 x3 y3 x4 y4 : Int) (x1 y1 : ByteArray) (w : World) :
    Calls Tryd.prog 10 #[.agg #[.int .i64 x0, .string x1, .int .i64 x2, .int .i64 x3, .int .i64 x4], .agg #[.int .i64 y0, .string y1, .int .i64 y2, .int .i64 y3, .int .i64 y4]] w fun e w' => e = .returned (.bool (x0 == y0 && (x1.toList == y1.toList && x2 == y2))) ∧ Below w.heap.size w w' := by
  cases h0 : (x0 == y0) <;> cases h1 : (x1.toList == y1.toList) <;> cases h2 : (x2 == y2)
  all_goals
    simp only [Bool.true_and, Bool.false_and]
    go_enter Tryd.func10, Tryd.ntmps10
    go_wp2
    go_ret
    exact ⟨rfl, ((Below.refl _ _).alloc (Nat.le_refl _) _).alloc (by simp) _⟩

/-- Whether two lists of tokens are of one length and agree in kind, text and value at every index. -/
def eqL : List S26 → List S26 → Bool
  | [], [] => true
  | x :: xs, y :: ys => eqTok x y && eqL xs ys
  | _, _ => false
theorem eqL_len : ∀ {xs ys : List S26}, xs.length ≠ ys.length → eqL xs ys = false
  | [], [], h => absurd rfl h
  | [], _ :: _, _ => rfl
  | _ :: _, [], _ => rfl
  | x :: xs, y :: ys, h => by
    have : xs.length ≠ ys.length := fun e => h (by simp [e])
    simp [eqL, eqL_len this]
theorem drop_cons (xs : List S26) (k : Nat) (h : k < xs.length) : xs.drop k = rd_T26 xs k :: xs.drop (k + 1) := by
  rw [List.drop_eq_getElem_cons h]
  simp [rd_T26, List.getD_eq_getElem?_getD, h]

theorem cell_al {w : World} {a : Addr} {v : Value} (h : w.cell? a = some v) (o : Obj) : (w.alloc o).cell? a = some v := by
  rw [World.cell?_alloc_old _ _ _ (Nat.ne_of_lt (World.block_lt_of_cell? w a h))]; exact h

set_option maxHeartbeats 1000000 in
set_option maxRecDepth 100000 in
theorem equalFunc_any (A0 A1 : Option Addr) (c0 c1 : Nat) (l0 l1 : List S26) (w : World) (hr0 : Kd.C k26 w A0 l0.length l0) (hr1 : Kd.C k26 w A1 l1.length l1) (hm : l0.length ≤ 9223372036854775806) :
    Calls Tryd.prog 9 #[.slice A0 l0.length c0, .slice A1 l1.length c1, .func (.func 10) #[] #[]] w fun e w' => e = .returned (.bool (eqL l0 l1)) ∧ Below w.heap.size w w' := by
  have HR0 := Aside0.mk hr0
  have HR1 := Aside0.mk hr1
  clear hr0 hr1
  by_cases hn : l0.length = l1.length
  · obtain ⟨R, hR⟩ : ∃ R, eqL l0 l1 = R := ⟨_, rfl⟩
    rw [hR]
    have HRes := Aside0.mk hR
    clear hR
    obtain ⟨n, hln⟩ : ∃ n, n = l0.length := ⟨_, rfl⟩
    have HL := Aside0.mk (And.intro hln (hln.trans hn))
    rw [← hn, ← hln]
    rw [← hln] at hm
    clear hln hn
    go_enter Tryd.func9, Tryd.ntmps9
    go_wp2_with fail
    go_loopw [17] (fun i wr => ∃ k : Nat, k ≤ n ∧ i = .int .i64 k ∧ Aside0 (eqL (l0.drop k) (l1.drop k) = R) ∧ Aside0 (Below w.heap.size w wr)) (fun i _ => n - (intOf i).toNat)
    case atStart => exact ⟨0, Nat.zero_le _, rfl, HRes, ⟨Below.refl _ _⟩⟩
    case round =>
      clear HRes
      obtain ⟨k, hk, rfl, HE, HB⟩ := hrel
      by_cases hlt : k < n
      · have hl0 : k < l0.length := by have := HL.out; omega
        have hl1 : k < l1.length := by have := HL.out; omega
        have hE := HE.out
        rw [drop_cons l0 k hl0, drop_cons l1 k hl1, eqL] at hE
        obtain ⟨a0, e0, p0, p1, p2, p3, p4⟩ := at_T26 HR0.out (k : Int) (by omega) (by omega)
        obtain ⟨a1, e1, q0, q1, q2, q3, q4⟩ := at_T26 HR1.out (k : Int) (by omega) (by omega)
        subst A0 A1
        simp only [Int.toNat_natCast] at p0 p1 p2 p3 p4 q0 q1 q2 q3 q4
        replace p0 := (HB.out.cell (World.block_lt_of_cell? w _ p0)).trans p0
        replace p1 := (HB.out.cell (World.block_lt_of_cell? w _ p1)).trans p1
        replace p2 := (HB.out.cell (World.block_lt_of_cell? w _ p2)).trans p2
        replace p3 := (HB.out.cell (World.block_lt_of_cell? w _ p3)).trans p3
        replace p4 := (HB.out.cell (World.block_lt_of_cell? w _ p4)).trans p4
        replace q0 := (HB.out.cell (World.block_lt_of_cell? w _ q0)).trans q0
        replace q1 := (HB.out.cell (World.block_lt_of_cell? w _ q1)).trans q1
        replace q2 := (HB.out.cell (World.block_lt_of_cell? w _ q2)).trans q2
        replace q3 := (HB.out.cell (World.block_lt_of_cell? w _ q3)).trans q3
        replace q4 := (HB.out.cell (World.block_lt_of_cell? w _ q4)).trans q4
        generalize rd_T26 l0 k = x at *
        generalize rd_T26 l1 k = y at *
        have r0 := fun o => cell_al q0 o
        have r1 := fun o => cell_al q1 o
        have r2 := fun o => cell_al q2 o
        have r3 := fun o => cell_al q3 o
        have r4 := fun o => cell_al q4 o
        clear q0 q1 q2 q3 q4
        have hE := Aside0.mk hE
        clear hl0 hl1
        have HC : Aside0 (∀ W, Calls Tryd.prog 10 #[.agg #[.int .i64 x.f0, .string x.f1, .int .i64 x.f2, .int .i64 x.f3.f0, .int .i64 x.f3.f1], .agg #[.int .i64 y.f0, .string y.f1, .int .i64 y.f2, .int .i64 y.f3.f0, .int .i64 y.f3.f1]] W fun e w' => e = .returned (.bool (eqTok x y)) ∧ Below W.heap.size W w') :=
          ⟨fun W => closure_any x.f0 y.f0 x.f2 y.f2 x.f3.f0 y.f3.f0 x.f3.f1 y.f3.f1 x.f1 y.f1 W⟩
        cases hq : eqTok x y
        · have HF : Aside0 (R = false) := ⟨by have := hE.out; rw [hq] at this; simpa using this.symm⟩
          rw [hq] at HC
          clear hq hE
          go_wp2_with fail
          refine (HC.out _).mono ?_
          rintro e w3 ⟨rfl, hb⟩
          have HB3 := Aside0.mk ((((Below.refl _ _).alloc (Nat.le_refl _) _).alloc (by simp) _).trans (hb.mono (by simp; omega)))
          clear hb HC r0 r1 r2 r3 r4 p0 p1 p2 p3 p4
          go_wp2_with fail
          go_ret
          exact ⟨ret_bool HF.out.symm, HB.out.trans (HB3.out.mono HB.out.size)⟩
        · have HT : Aside0 (eqL (l0.drop (k + 1)) (l1.drop (k + 1)) = R) := ⟨by have := hE.out; rw [hq] at this; simpa using this⟩
          rw [hq] at HC
          clear hq hE
          go_wp2_with fail
          refine (HC.out _).mono ?_
          rintro e w3 ⟨rfl, hb⟩
          have HB3 := Aside0.mk ((((Below.refl _ _).alloc (Nat.le_refl _) _).alloc (by simp) _).trans (hb.mono (by simp; omega)))
          clear hb HC r0 r1 r2 r3 r4 p0 p1 p2 p3 p4
          go_wp2_with fail
          go_roundw
          case rel => exact ⟨k + 1, by omega, by go_num, HT, ⟨HB.out.trans (HB3.out.mono HB.out.size)⟩⟩
          case measure => simp [intOf]; omega
      · obtain rfl : k = n := by omega
        have HF : Aside0 (R = true) := ⟨by have := HE.out; rw [List.drop_of_length_le (by have := HL.out; omega), List.drop_of_length_le (by have := HL.out; omega)] at this; exact this.symm⟩
        clear HE
        go_wp2_with fail
        go_ret
        exact ⟨ret_bool HF.out.symm, HB.out⟩
  · have hb0 : ((l0.length : Int) == (l1.length : Int)) = false := beq_eq_false_iff_ne.mpr (by omega)
    have hb1 : ((l0.length : Int) != (l1.length : Int)) = true := bne_iff_ne.mpr (by omega)
    have hb2 : (l0.length == l1.length) = false := by simpa using hn
    rw [eqL_len hn]
    clear hn
    go_enter Tryd.func9, Tryd.ntmps9
    go_wp2_with fail
    go_ret
    exact ⟨rfl, Below.refl _ _⟩

set_option maxHeartbeats 400000 in
/-- lexer.Equal. -/
theorem equal_any (A0 A1 : Option Addr) (c0 c1 : Nat) (l0 l1 : List S26) (w : World) (hr0 : Kd.C k26 w A0 l0.length l0) (hr1 : Kd.C k26 w A1 l1.length l1) (hm : l0.length ≤ 9223372036854775806) :
    Calls Tryd.prog 5 #[.slice A0 l0.length c0, .slice A1 l1.length c1] w fun e w' => e = .returned (.bool (eqL l0 l1)) ∧ Below w.heap.size w w' := by
  have HC := Aside0.mk (equalFunc_any A0 A1 c0 c1 l0 l1 w hr0 hr1 hm)
  clear hr0 hr1
  go_enter Tryd.func5, Tryd.ntmps5
  go_wp2_with fail
  refine HC.out.mono ?_
  rintro e w' ⟨rfl, hb⟩
  have HB := Aside0.mk hb
  clear hb HC
  go_wp2_with fail
  go_ret
  exact ⟨rfl, HB.out⟩
end Go.Proofs.YtoaiiffnhecmcaaDoor
