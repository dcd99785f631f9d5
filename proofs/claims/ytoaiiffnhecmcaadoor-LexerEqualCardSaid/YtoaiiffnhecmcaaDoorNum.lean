/-
  cut at every string with digit; lexer.blank at every byte; strconv.ParseUint("7", 10, 31) and lexer.number("7"). No condition.
-/
import Derived.Test.YtoaiiffnhecmcaaDoorSmall
import Derived.Lib.ConvBytes
namespace Go.Proofs.YtoaiiffnhecmcaaDoor
open Go.RowKit Go.WideMaps Go.Maps

set_option maxHeartbeats 400000 in
set_option maxRecDepth 100000 in
theorem cut_digs (s : ByteArray) (w : World) (hs : s.size ≤ maxLen) :
    Calls Tryd.prog 16 #[.string s, .func (.func 21) #[] #[]] w fun e w' => e = .returned (.int .i64 (cutL digB s.data.toList)) ∧ w' = w := by
  unfold maxLen at hs
  obtain ⟨N, hN⟩ : ∃ N : Nat, cutL digB s.data.toList = N := ⟨_, rfl⟩
  rw [hN]
  have HN := Lib.hid hN
  clear hN
  go_enter Tryd.func16, Tryd.ntmps16
  go_wp2
  go_loop [5] (fun i => ∃ k : Nat, k ≤ s.size ∧ i = .int .i64 k ∧ Hid (k + cutL digB (s.data.toList.drop k) = N)) (fun i => s.size - (intOf i).toNat)
  case atStart => exact ⟨0, Nat.zero_le _, rfl, Lib.hid (by simpa using HN.out)⟩
  case round =>
    clear HN
    obtain ⟨k, hk, rfl, hinv⟩ := hrel
    by_cases hlt : k < s.size
    · have hlz : decide ((k : Int) < (s.size : Int)) = true := by simp; omega
      obtain ⟨x, hx⟩ : ∃ x : UInt8, s[k] = x := ⟨_, rfl⟩
      have Hd : Hid (s.data.toList.drop k = x :: s.data.toList.drop (k + 1)) := Lib.hid (Lib.drop_at (by rw [← hx]; exact Lib.data_getElem? s k hlt))
      have HR := Lib.hid (fun W => digit_any (x.toNat : Int) W)
      cases hb : digB (x.toNat : Int)
      · have HE : Hid (k = N) := Lib.hid (by have := hinv.out; rw [Hd.out, cutL_no _ _ _ hb] at this; omega)
        rw [hb] at HR
        clear hb hinv Hd
        go_wp2_with (go_at_call 21; refine (HR.out _).mono ?_; rintro e w' ⟨rfl, rfl⟩)
        go_ret
        exact ⟨ret_int (by rw [HE.out]), rfl⟩
      · have HE : Hid (k + 1 + cutL digB (s.data.toList.drop (k + 1)) = N) := Lib.hid (by have := hinv.out; rw [Hd.out, cutL_yes _ _ _ hb] at this; omega)
        rw [hb] at HR
        clear hb hinv Hd
        go_wp2_with (go_at_call 21; refine (HR.out _).mono ?_; rintro e w' ⟨rfl, rfl⟩)
        go_round
        case rel => exact ⟨k + 1, by omega, by go_num, HE⟩
        case measure => simp [intOf]; omega
    · have hlz : decide ((k : Int) < (s.size : Int)) = false := by simp; omega
      obtain rfl : k = s.size := by omega
      have HE : Hid (s.size = N) := Lib.hid (by have := hinv.out; rw [List.drop_of_length_le (by simp)] at this; simpa [cutL_nil] using this)
      clear hinv
      go_wp2
      go_ret
      exact ⟨ret_int (by rw [HE.out]), rfl⟩

set_option maxHeartbeats 400000 in
theorem blank_any (c : Int) (w : World) : Calls Tryd.prog 13 #[.int .u8 c] w fun e w' => e = .returned (.bool (decide (0 ≤ Lib.indexByte [9, 10, 13, 32] c.toNat.toUInt8))) ∧ w' = w := by
  have HI := Lib.hid (Tryd.strings_IndexByte ⟨#[9, 10, 13, 32]⟩ c w)
  go_enter Tryd.func13, Tryd.ntmps13
  go_wp2_with fail
  refine HI.out.mono ?_
  rintro e w' ⟨rfl, rfl⟩
  go_wp2_with fail
  go_ret
  exact ⟨rfl, rfl⟩

theorem below_bytesW (w : World) (e : TypeId) (s : ByteArray) : Below w.heap.size w (Lib.bytesWorld w e s) :=
  ⟨rfl, rfl, rfl, by rw [Lib.bytesWorld_size]; omega, fun k hk => Lib.bytesWorld_at_old w e s k hk⟩

set_option maxHeartbeats 1000000 in
set_option maxRecDepth 100000 in
theorem parse28 (w : World) : Calls Tryd.prog 28 #[.string ⟨#[55]⟩, .int .i64 10, .int .i64 31] w fun e w' => e = .returned (.tuple #[.int .u64 7, .nilIface]) ∧ Below w.heap.size w w' := by
  have hcv := Lib.run_convert_string_bytes (P := Tryd.prog) w 9 70 5 ⟨#[55]⟩ (u := .string) Tryd.underlying9 Tryd.underlying70 Tryd.underlying5
  have hc0 : (Lib.bytesWorld w 5 ⟨#[55]⟩).cell? ⟨w.heap.size, 0, none⟩ = some (.int .u8 55) := Lib.bytesWorld_cell w 5 ⟨#[55]⟩ 0 (by decide)
  have hbw : Below w.heap.size w (Lib.bytesWorld w 5 ⟨#[55]⟩) := below_bytesW w 5 _
  generalize Lib.bytesWorld w 5 ⟨#[55]⟩ = W1 at hcv hc0 hbw
  have HB := Lib.hid hbw
  clear hbw
  go_enter Tryd.func28, Tryd.ntmps28
  go_wp2_with fail
  refine wp_loop_rounds 2 ?_
  rw [rounds_succ]
  go_wp2_with fail
  rw [rounds_succ]
  go_wp2_with fail
  go_ret2
  exact ⟨rfl, HB.out⟩

set_option maxHeartbeats 400000 in
theorem parse25 (w : World) : Calls Tryd.prog 25 #[.string ⟨#[55]⟩, .int .i64 10, .int .i64 31] w fun e w' => e = .returned (.tuple #[.int .u64 7, .nilIface]) ∧ Below w.heap.size w w' := by
  have HP := Lib.hid (parse28 w)
  go_enter Tryd.func25, Tryd.ntmps25
  go_wp2_with fail
  refine HP.out.mono ?_
  rintro e w' ⟨rfl, hb⟩
  have HB := Lib.hid hb
  clear hb HP
  go_wp2_with fail
  go_ret2
  exact ⟨rfl, HB.out⟩

set_option maxHeartbeats 400000 in
theorem number_seven (w : World) : Calls Tryd.prog 22 #[.string ⟨#[55]⟩] w fun e w' => e = .returned (.tuple #[.int .i64 7, .int .i64 0]) ∧ Below w.heap.size w w' := by
  have hcut : Calls Tryd.prog 16 #[.string ⟨#[55]⟩, .func (.func 21) #[] #[]] w fun e w' => e = .returned (.int .i64 1) ∧ w' = w := cut_digs ⟨#[55]⟩ w (by decide)
  have HC := Lib.hid hcut
  have HP := Lib.hid (parse25 w)
  clear hcut
  go_enter Tryd.func22, Tryd.ntmps22
  go_wp2_with fail
  refine HC.out.mono ?_
  rintro e w' ⟨rfl, rfl⟩
  go_wp2_with fail
  refine HP.out.mono ?_
  rintro e w' ⟨rfl, hb⟩
  have HB := Lib.hid hb
  clear hb HP HC
  go_wp2_with fail
  go_ret2
  exact ⟨rfl, HB.out⟩
end Go.Proofs.YtoaiiffnhecmcaaDoor
