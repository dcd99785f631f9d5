/-
  The small functions of the lexer: letter, digit, runs, blank at every byte; cut at every string with runs or digit; ParseUint("7", 10, 31) and number("7"). No condition but that a byte is one.
-/
import Derived.Test.YtoaiiffnhecmcaaDoorKw
namespace Go.Proofs.YtoaiiffnhecmcaaDoor
open Go.RowKit Go.WideMaps Go.Maps

theorem ret_int {k : IntKind} {a b : Int} (h : a = b) : Ending.returned (.int k a) = .returned (.int k b) := by rw [h]
def letB (c : Int) : Bool := (decide (97 ≤ c) && decide (c ≤ 122)) || (decide (65 ≤ c) && decide (c ≤ 90))
def digB (c : Int) : Bool := decide (48 ≤ c) && decide (c ≤ 57)
def runB (c : Int) : Bool := letB c || digB c || c == 39

set_option maxHeartbeats 400000 in
theorem digit_any (c : Int) (w : World) : Calls Tryd.prog 21 #[.int .u8 c] w fun e w' => e = .returned (.bool (digB c)) ∧ w' = w := by
  unfold digB
  by_cases h1 : 48 ≤ c <;> by_cases h2 : c ≤ 57
  all_goals
    simp only [h1, h2, decide_true, decide_false, Bool.and_true, Bool.and_false]
    go_enter Tryd.func21, Tryd.ntmps21
    go_wp2
    go_ret
    exact ⟨rfl, rfl⟩

set_option maxHeartbeats 400000 in
theorem letter_any (c : Int) (w : World) : Calls Tryd.prog 20 #[.int .u8 c] w fun e w' => e = .returned (.bool (letB c)) ∧ w' = w := by
  unfold letB
  by_cases h1 : 97 ≤ c <;> by_cases h2 : c ≤ 122 <;> by_cases h3 : 65 ≤ c <;> by_cases h4 : c ≤ 90
  all_goals first
    | (exfalso; omega)
    | (simp only [h1, h2, h3, h4, decide_true, decide_false, Bool.and_true, Bool.and_false, Bool.or_true, Bool.or_false]
       go_enter Tryd.func20, Tryd.ntmps20
       go_wp2
       go_ret
       exact ⟨rfl, rfl⟩)

set_option maxHeartbeats 400000 in
theorem runs_any (c : Int) (w : World) : Calls Tryd.prog 15 #[.int .u8 c] w fun e w' => e = .returned (.bool (runB c)) ∧ w' = w := by
  have hl := letter_any c w
  have hd := digit_any c w
  unfold runB
  cases h1 : letB c <;> cases h2 : digB c <;> rw [h1] at hl <;> rw [h2] at hd
  all_goals
    clear h1 h2
    have HL := Lib.hid hl
    have HD := Lib.hid hd
    clear hl hd
    simp only [Bool.true_or, Bool.false_or, Bool.or_true]
    go_enter Tryd.func15, Tryd.ntmps15
    go_wp2_with (first
      | (go_at_call 20; refine HL.out.mono ?_; rintro e w' ⟨rfl, rfl⟩)
      | (go_at_call 21; refine HD.out.mono ?_; rintro e w' ⟨rfl, rfl⟩))
    go_ret
    exact ⟨rfl, rfl⟩

/-- How many bytes at the begin of l are of the kind p. -/
def cutL (p : Int → Bool) (l : List UInt8) : Nat := (l.takeWhile fun c => p (c.toNat : Int)).length
theorem cutL_nil (p : Int → Bool) : cutL p [] = 0 := rfl
theorem cutL_yes (p : Int → Bool) (c : UInt8) (l : List UInt8) (h : p (c.toNat : Int) = true) : cutL p (c :: l) = cutL p l + 1 := by
  simp [cutL, h]
theorem cutL_no (p : Int → Bool) (c : UInt8) (l : List UInt8) (h : p (c.toNat : Int) = false) : cutL p (c :: l) = 0 := by
  simp [cutL, h]

set_option maxHeartbeats 400000 in
set_option maxRecDepth 100000 in
theorem cut_runs (s : ByteArray) (w : World) (hs : s.size ≤ maxLen) :
    Calls Tryd.prog 16 #[.string s, .func (.func 15) #[] #[]] w fun e w' => e = .returned (.int .i64 (cutL runB s.data.toList)) ∧ w' = w := by
  unfold maxLen at hs
  obtain ⟨N, hN⟩ : ∃ N : Nat, cutL runB s.data.toList = N := ⟨_, rfl⟩
  rw [hN]
  have HN := Lib.hid hN
  clear hN
  go_enter Tryd.func16, Tryd.ntmps16
  go_wp2
  go_loop [5] (fun i => ∃ k : Nat, k ≤ s.size ∧ i = .int .i64 k ∧ Hid (k + cutL runB (s.data.toList.drop k) = N)) (fun i => s.size - (intOf i).toNat)
  case atStart => exact ⟨0, Nat.zero_le _, rfl, Lib.hid (by simpa using HN.out)⟩
  case round =>
    clear HN
    obtain ⟨k, hk, rfl, hinv⟩ := hrel
    by_cases hlt : k < s.size
    · have hlz : decide ((k : Int) < (s.size : Int)) = true := by simp; omega
      obtain ⟨x, hx⟩ : ∃ x : UInt8, s[k] = x := ⟨_, rfl⟩
      have Hd : Hid (s.data.toList.drop k = x :: s.data.toList.drop (k + 1)) := Lib.hid (Lib.drop_at (by rw [← hx]; exact Lib.data_getElem? s k hlt))
      have HR := Lib.hid (fun W => runs_any (x.toNat : Int) W)
      cases hb : runB (x.toNat : Int)
      · have HE : Hid (k = N) := Lib.hid (by have := hinv.out; rw [Hd.out, cutL_no _ _ _ hb] at this; omega)
        rw [hb] at HR
        clear hb hinv Hd
        go_wp2_with (go_at_call 15; refine (HR.out _).mono ?_; rintro e w' ⟨rfl, rfl⟩)
        go_ret
        exact ⟨ret_int (by rw [HE.out]), rfl⟩
      · have HE : Hid (k + 1 + cutL runB (s.data.toList.drop (k + 1)) = N) := Lib.hid (by have := hinv.out; rw [Hd.out, cutL_yes _ _ _ hb] at this; omega)
        rw [hb] at HR
        clear hb hinv Hd
        go_wp2_with (go_at_call 15; refine (HR.out _).mono ?_; rintro e w' ⟨rfl, rfl⟩)
        go_round
        case rel => exact ⟨k + 1, by omega, by go_num, HE⟩
        case measure => simp [intOf]; omega
    · have hlz : decide ((k : Int) < (s.size : Int)) = false := by simp; omega
      obtain rfl : k = s.size := by omega
      have HE : Hid (s.size = N) := Lib.hid (by have := hinv.out; rw [List.drop_of_length_le (by simp)] at this; simpa [cutL_nil] using this)
      clear hinv
      go_wp2
      go_ret
      exact ⟨ret_int (by rw [HE.out]), rfl⟩
end Go.Proofs.YtoaiiffnhecmcaaDoor
