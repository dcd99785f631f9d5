/-
  Plain facts for Tokenize at the one text: the bytes, the tokens, the places at which each round begins; what the callees answer at each place. No condition.
-/
import Derived.Test.YtoaiiffnhecmcaaDoorRun
namespace Go.Proofs.YtoaiiffnhecmcaaDoor
open Go.RowKit Go.WideMaps Go.Maps

def srcA : ByteArray := ⟨#[115, 111, 109, 101, 32, 118, 101, 114, 116, 101, 120, 32, 120, 39, 58, 32, 120, 39, 32, 105, 115, 32, 55]⟩
def tc (k : Int) (s : ByteArray) (n l c : Int) : List Value := [.int .i64 k, .string s, .int .i64 n, .int .i64 l, .int .i64 c]
/-- The eight tokens, as cells. -/
def T8 : List (List Value) := [tc 3 (srcA.extract 0 4) 0 1 1, tc 3 (srcA.extract 5 11) 0 1 6, tc 1 (srcA.extract 12 14) 0 1 13, tc 4 (srcA.extract 14 15) 0 1 15, tc 1 (srcA.extract 16 18) 0 1 17, tc 3 (srcA.extract 19 21) 0 1 20, tc 2 (srcA.extract 22 23) 7 1 23, tc 0 ⟨#[]⟩ 0 1 24]
def tcells (n : Nat) : List Value := (T8.take n).flatten
theorem tc_length (k : Int) (s : ByteArray) (n l c : Int) : (tc k s n l c).length = 5 := rfl

/-- The places at which a round begins, and how many tokens are gathered there. -/
def tpos : List (Nat × Nat) := [(0, 0), (4, 1), (5, 1), (11, 2), (12, 2), (14, 3), (15, 4), (16, 4), (18, 5), (19, 5), (21, 6), (22, 6), (23, 7)]

/-- A round at a blank. -/
structure AtBlank (s : ByteArray) (p n : Nat) : Prop where
  lt : p < 23
  byte : ∀ h : p < s.size, s[p] = 32
  next : (p + 1, n) ∈ tpos
/-- A round at a word of q bytes. -/
structure AtWord (s : ByteArray) (p n q : Nat) (k nv : Int) : Prop where
  q1 : 1 ≤ q
  lt : p + q ≤ 23
  blank : ∀ (h : p < s.size) W, Calls Tryd.prog 13 #[.int .u8 (s[p].toNat : Int)] W fun e w' => e = .returned (.bool false) ∧ w' = W
  mark : ∀ (h : p < s.size) W, Calls Tryd.prog 14 #[.string ⟨#[61, 40, 41, 44, 58, 59]⟩, .int .u8 (s[p].toNat : Int)] W fun e w' => e = .returned (.int .i64 (-1)) ∧ w' = W
  runs : ∀ (h : p < s.size) W, Calls Tryd.prog 15 #[.int .u8 (s[p].toNat : Int)] W fun e w' => e = .returned (.bool true) ∧ w' = W
  cut : ∀ W, Calls Tryd.prog 16 #[.string (s.extract p 23), .func (.func 15) #[] #[]] W fun e w' => e = .returned (.int .i64 q) ∧ w' = W
  run : ∀ B W, KwAt W B → Calls Tryd.prog 17 #[.string (s.extract p (p + q)), .map (some B)] W fun e w' => e = .returned (.tuple #[.agg #[.int .i64 k, .string (s.extract p (p + q)), .int .i64 nv, .int .i64 0, .int .i64 0], .int .i64 0]) ∧ Below W.heap.size W w'
  cells : tcells (n + 1) = tcells n ++ tc k (s.extract p (p + q)) nv 1 (p + 1)
  n8 : n < 8
  next : (p + q, n + 1) ∈ tpos

theorem lookup_true (s : ByteArray) (hs : s.size ≤ maxLen) (hat : (kwMap 26).atKey (.string s.data.toList) (.lit (.bool false)) = .lit (.bool true)) (B : Nat) (W : World) (h : KwAt W B) (n nv l c : Int) (_ : n = 3) (_ : nv = 0) (_ : l = 0) (_ : c = 0) :
    Calls Tryd.prog 17 #[.string s, .map (some B)] W fun e w' => e = .returned (.tuple #[.agg #[.int .i64 n, .string s, .int .i64 nv, .int .i64 l, .int .i64 c], .int .i64 0]) ∧ Below W.heap.size W w' := by
  subst n nv l c
  exact run_kw s B W (fun o => map_look (h.alloc o) s hs true hat)
theorem lookup_x (B : Nat) (W : World) (h : KwAt W B) : Calls Tryd.prog 17 #[.string ⟨#[120, 39]⟩, .map (some B)] W fun e w' => e = .returned (.tuple #[tokA 1 ⟨#[120, 39]⟩ 0 0 0, .int .i64 0]) ∧ Below W.heap.size W w' :=
  run_x B W (fun o => map_look (h.alloc o) ⟨#[120, 39]⟩ (by decide) false (by kernel_rfl))
theorem lookup_seven (B : Nat) (W : World) (h : KwAt W B) : Calls Tryd.prog 17 #[.string ⟨#[55]⟩, .map (some B)] W fun e w' => e = .returned (.tuple #[tokA 2 ⟨#[55]⟩ 7 0 0, .int .i64 0]) ∧ Below W.heap.size W w' :=
  run_seven B W (fun o => map_look (h.alloc o) ⟨#[55]⟩ (by decide) false (by kernel_rfl))

theorem word_of (p n q : Nat) (k nv : Int) (q1 : 1 ≤ q) (lt : p + q ≤ 23) (x : UInt8) (hx : ∀ h : p < srcA.size, srcA[p] = x)
    (hb : decide (0 ≤ Lib.indexByte [9, 10, 13, 32] x) = false) (hm : Lib.indexByte [61, 40, 41, 44, 58, 59] x = -1) (hr : runB (x.toNat : Int) = true) (hc : cutL runB (srcA.extract p 23).data.toList = q) (hsz : (srcA.extract p 23).size ≤ maxLen)
    (run : ∀ B W, KwAt W B → Calls Tryd.prog 17 #[.string (srcA.extract p (p + q)), .map (some B)] W fun e w' => e = .returned (.tuple #[.agg #[.int .i64 k, .string (srcA.extract p (p + q)), .int .i64 nv, .int .i64 0, .int .i64 0], .int .i64 0]) ∧ Below W.heap.size W w')
    (cells : tcells (n + 1) = tcells n ++ tc k (srcA.extract p (p + q)) nv 1 (p + 1)) (n8 : n < 8) (next : (p + q, n + 1) ∈ tpos) : AtWord srcA p n q k nv := by
  have hu : ∀ h : p < srcA.size, ((srcA[p].toNat : Int)).toNat.toUInt8 = x := fun h => by rw [hx h]; simp
  refine ⟨q1, lt, fun h W => ?_, fun h W => ?_, fun h W => ?_, fun W => ?_, run, cells, n8, next⟩
  · have := blank_any (srcA[p].toNat : Int) W
    rw [hu h, hb] at this
    exact this
  · have := Tryd.strings_IndexByte ⟨#[61, 40, 41, 44, 58, 59]⟩ (srcA[p].toNat : Int) W
    rw [hu h] at this
    rw [show (⟨#[61, 40, 41, 44, 58, 59]⟩ : ByteArray).data.toList = [61, 40, 41, 44, 58, 59] from rfl, hm] at this
    exact this
  · have := runs_any (srcA[p].toNat : Int) W
    rw [hx h] at this ⊢
    rw [hr] at this
    exact this
  · have := cut_runs (srcA.extract p 23) W hsz
    rw [hc] at this
    exact this

theorem tpos_cases (p n : Nat) (h : (p, n) ∈ tpos) : AtBlank srcA p n ∨ (∃ q k nv, AtWord srcA p n q k nv) ∨ (p = 14 ∧ n = 3) ∨ (p = 23 ∧ n = 7) := by
  simp only [tpos, List.mem_cons, List.not_mem_nil, or_false, Prod.mk.injEq] at h
  rcases h with ⟨rfl, rfl⟩ | ⟨rfl, rfl⟩ | ⟨rfl, rfl⟩ | ⟨rfl, rfl⟩ | ⟨rfl, rfl⟩ | ⟨rfl, rfl⟩ | ⟨rfl, rfl⟩ | ⟨rfl, rfl⟩ | ⟨rfl, rfl⟩ | ⟨rfl, rfl⟩ | ⟨rfl, rfl⟩ | ⟨rfl, rfl⟩ | ⟨rfl, rfl⟩
  · exact .inr (.inl ⟨4, 3, 0, word_of 0 0 4 3 0 (by decide) (by decide) 115 (fun _ => rfl) (by decide +kernel) (by decide +kernel) (by decide +kernel) (by decide +kernel) (by decide +kernel) (fun B W hB => lookup_true _ (by decide +kernel) (by kernel_rfl) B W hB 3 0 0 0 rfl rfl rfl rfl) rfl (by decide) (by decide)⟩)
  · exact .inl ⟨by decide, fun _ => rfl, by decide⟩
  · exact .inr (.inl ⟨6, 3, 0, word_of 5 1 6 3 0 (by decide) (by decide) 118 (fun _ => rfl) (by decide +kernel) (by decide +kernel) (by decide +kernel) (by decide +kernel) (by decide +kernel) (fun B W hB => lookup_true _ (by decide +kernel) (by kernel_rfl) B W hB 3 0 0 0 rfl rfl rfl rfl) rfl (by decide) (by decide)⟩)
  · exact .inl ⟨by decide, fun _ => rfl, by decide⟩
  · exact .inr (.inl ⟨2, 1, 0, word_of 12 2 2 1 0 (by decide) (by decide) 120 (fun _ => rfl) (by decide +kernel) (by decide +kernel) (by decide +kernel) (by decide +kernel) (by decide +kernel) (fun B W hB => lookup_x B W hB) rfl (by decide) (by decide)⟩)
  · exact .inr (.inr (.inl ⟨rfl, rfl⟩))
  · exact .inl ⟨by decide, fun _ => rfl, by decide⟩
  · exact .inr (.inl ⟨2, 1, 0, word_of 16 4 2 1 0 (by decide) (by decide) 120 (fun _ => rfl) (by decide +kernel) (by decide +kernel) (by decide +kernel) (by decide +kernel) (by decide +kernel) (fun B W hB => lookup_x B W hB) rfl (by decide) (by decide)⟩)
  · exact .inl ⟨by decide, fun _ => rfl, by decide⟩
  · exact .inr (.inl ⟨2, 3, 0, word_of 19 5 2 3 0 (by decide) (by decide) 105 (fun _ => rfl) (by decide +kernel) (by decide +kernel) (by decide +kernel) (by decide +kernel) (by decide +kernel) (fun B W hB => lookup_true _ (by decide +kernel) (by kernel_rfl) B W hB 3 0 0 0 rfl rfl rfl rfl) rfl (by decide) (by decide)⟩)
  · exact .inl ⟨by decide, fun _ => rfl, by decide⟩
  · exact .inr (.inl ⟨1, 2, 7, word_of 22 6 1 2 7 (by decide) (by decide) 55 (fun _ => rfl) (by decide +kernel) (by decide +kernel) (by decide +kernel) (by decide +kernel) (by decide +kernel) (fun B W hB => lookup_seven B W hB) rfl (by decide) (by decide)⟩)
  · exact .inr (.inr (.inr ⟨rfl, rfl⟩))
end Go.Proofs.YtoaiiffnhecmcaaDoor
