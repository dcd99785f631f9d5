/-
  lexer.run at the six words of the constant text: some, vertex, is (keywords), x' (an identifier), 7 (a number). Condition: the map handed in holds just the 26 keywords.
-/
import Derived.Test.YtoaiiffnhecmcaaDoorNum
namespace Go.Proofs.YtoaiiffnhecmcaaDoor
open Go.RowKit Go.WideMaps Go.Maps

abbrev KwAt (W : World) (B : Nat) : Prop := W.ownsMap Tryd.prog 9 (plainElem (H := Unit) Tryd.prog 4) B 26 (kwMap 26)

theorem zero4 (w : World) : (zeroValue 4).run Tryd.prog w = .ok (.bool false) w := by kernel_rfl
theorem plainElem_bool_inv {P : Program} {e : TypeId} (he : P.underlying e = some .bool) {v : Value} {b : Bool} {ps : List MemPlace} (h : plainElem (H := Unit) P e v = some (.lit (.bool b), ps)) : v = .bool b := by
  unfold plainElem at h
  rw [he] at h
  cases v <;> simp at h
  exact congrArg Value.bool h.1
theorem map_look {W : World} {B : Nat} (hown : KwAt W B) (s : ByteArray) (hs : s.size ≤ maxLen) (b : Bool) (hat : (kwMap 26).atKey (.string s.data.toList) (.lit (.bool false)) = .lit (.bool b)) :
    (Instr.lookup 40 (.map (some B)) (.string s) false).run Tryd.prog W = .ok (.bool b) W := by
  obtain ⟨v, ps, hrun, hv⟩ := hown.lookup law9 Tryd.underlying40 (zero4 W) (plainElem_bool Tryd.underlying4 false) (keyOf_string_mk Tryd.underlying9 hs)
  rw [hat] at hv
  rw [plainElem_bool_inv Tryd.underlying4 hv] at hrun
  exact hrun

def tokA (k : Int) (s : ByteArray) (n l c : Int) : Value := .agg #[.int .i64 k, .string s, .int .i64 n, .int .i64 l, .int .i64 c]

set_option maxHeartbeats 400000 in
theorem run_kw (s : ByteArray) (B : Nat) (w : World) (hk : ∀ o, (Instr.lookup 40 (.map (some B)) (.string s) false).run Tryd.prog (w.alloc o) = .ok (.bool true) (w.alloc o)) :
    Calls Tryd.prog 17 #[.string s, .map (some B)] w fun e w' => e = .returned (.tuple #[tokA 3 s 0 0 0, .int .i64 0]) ∧ Below w.heap.size w w' := by
  go_enter Tryd.func17, Tryd.ntmps17
  go_wp2
  exact bodyPost_ret (v := .tuple #[.agg #[.int .i64 3, .string s, .int .i64 0, .int .i64 0, .int .i64 0], .int .i64 0]) (by simp [results, Tryd.results17, go_sem]) rfl ⟨rfl, (Below.refl _ _).alloc (Nat.le_refl _) _⟩

set_option maxHeartbeats 400000 in
theorem run_x (B : Nat) (w : World) (hk : ∀ o, (Instr.lookup 40 (.map (some B)) (.string ⟨#[120, 39]⟩) false).run Tryd.prog (w.alloc o) = .ok (.bool false) (w.alloc o)) :
    Calls Tryd.prog 17 #[.string ⟨#[120, 39]⟩, .map (some B)] w fun e w' => e = .returned (.tuple #[tokA 1 ⟨#[120, 39]⟩ 0 0 0, .int .i64 0]) ∧ Below w.heap.size w w' := by
  have HD : Hid (∀ W, Calls Tryd.prog 21 #[.int .u8 120] W fun e w' => e = .returned (.bool false) ∧ w' = W) := Lib.hid fun W => digit_any 120 W
  have HL : Hid (∀ W, Calls Tryd.prog 20 #[.int .u8 120] W fun e w' => e = .returned (.bool true) ∧ w' = W) := Lib.hid fun W => letter_any 120 W
  go_enter Tryd.func17, Tryd.ntmps17
  go_wp2_with fail
  refine (HD.out _).mono ?_
  rintro e w' ⟨rfl, rfl⟩
  go_wp2_with fail
  refine (HL.out _).mono ?_
  rintro e w' ⟨rfl, rfl⟩
  go_wp2_with fail
  exact bodyPost_ret (v := .tuple #[.agg #[.int .i64 1, .string ⟨#[120, 39]⟩, .int .i64 0, .int .i64 0, .int .i64 0], .int .i64 0]) (by simp [results, Tryd.results17, go_sem]) rfl ⟨rfl, (Below.refl _ _).alloc (Nat.le_refl _) _⟩

set_option maxHeartbeats 400000 in
theorem run_seven (B : Nat) (w : World) (hk : ∀ o, (Instr.lookup 40 (.map (some B)) (.string ⟨#[55]⟩) false).run Tryd.prog (w.alloc o) = .ok (.bool false) (w.alloc o)) :
    Calls Tryd.prog 17 #[.string ⟨#[55]⟩, .map (some B)] w fun e w' => e = .returned (.tuple #[tokA 2 ⟨#[55]⟩ 7 0 0, .int .i64 0]) ∧ Below w.heap.size w w' := by
  have HD : Hid (∀ W, Calls Tryd.prog 21 #[.int .u8 55] W fun e w' => e = .returned (.bool true) ∧ w' = W) := Lib.hid fun W => digit_any 55 W
  have HN : Hid (∀ W, Calls Tryd.prog 22 #[.string ⟨#[55]⟩] W fun e w' => e = .returned (.tuple #[.int .i64 7, .int .i64 0]) ∧ Below W.heap.size W w') := Lib.hid fun W => number_seven W
  go_enter Tryd.func17, Tryd.ntmps17
  go_wp2_with fail
  refine (HD.out _).mono ?_
  rintro e w' ⟨rfl, rfl⟩
  go_wp2_with fail
  refine (HN.out _).mono ?_
  rintro e w1 ⟨rfl, hb⟩
  have hc0 : w1.cell? ⟨w.heap.size, 0, none⟩ = some (.int .i64 0) := (hb.cell (p := ⟨w.heap.size, 0, none⟩) (by simp)).trans (by simp)
  have hc1 : w1.cell? ⟨w.heap.size, 1, none⟩ = some (.string ⟨#[]⟩) := (hb.cell (p := ⟨w.heap.size, 1, none⟩) (by simp)).trans (by simp)
  have hc2 : w1.cell? ⟨w.heap.size, 2, none⟩ = some (.int .i64 0) := (hb.cell (p := ⟨w.heap.size, 2, none⟩) (by simp)).trans (by simp)
  have hc3 : w1.cell? ⟨w.heap.size, 3, none⟩ = some (.int .i64 0) := (hb.cell (p := ⟨w.heap.size, 3, none⟩) (by simp)).trans (by simp)
  have hc4 : w1.cell? ⟨w.heap.size, 4, none⟩ = some (.int .i64 0) := (hb.cell (p := ⟨w.heap.size, 4, none⟩) (by simp)).trans (by simp)
  have hfz : ∀ j, w1.frozen? ⟨w.heap.size, j, none⟩ = false := fun j => (hb.frozen (p := ⟨w.heap.size, j, none⟩) (by simp)).trans (by simp)
  have hsz : w.heap.size < w1.heap.size := by have := hb.size; simp at this; omega
  have HB := Lib.hid hb
  clear hb
  go_wp2_with fail
  refine bodyPost_ret (v := .tuple #[.agg #[.int .i64 2, .string ⟨#[55]⟩, .int .i64 7, .int .i64 0, .int .i64 0], .int .i64 0]) (by simp [results, Tryd.results17, go_sem, hc0, hc1, hc2, hc3, hc4]) rfl ⟨rfl, ?_⟩
  refine Below.setCell (Below.setCell (Below.setCell (Below.setCell (Below.setCell ?_ ?_ _) ?_ _) ?_ _) ?_ _) ?_ _
  all_goals first | exact Nat.le_refl _ | skip
  exact ((Below.refl _ _).alloc (Nat.le_refl _) _).trans (HB.out.mono (by simp))
end Go.Proofs.YtoaiiffnhecmcaaDoor
