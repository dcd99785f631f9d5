/-
  lexer.Keywords hands back the 26 keywords; lexer.known hands back a new map in which just these 26 keys hold true. Conditions: strings.asciiSpace holds the table that the program's text lays.
-/
import Derived.Test.YtoaiiffnhecmcaaDoorShelf
import Derived.WalkKit
import Derived.WalkSpells
import Derived.WalkLawsBesides
import Derived.Maps.Own
import Derived.Maps.OwnOps
import Derived.Carry
import Derived.KernelRfl
import Derived.Lib.Hide
namespace Go.Proofs.YtoaiiffnhecmcaaDoor
open Go.RowKit Go.WideMaps Go.Maps

/-- The bytes of the constant 'words', as the program writes them. -/
def wordsL : List UInt8 := ([102, 105, 110, 100, 32, 115, 111, 109, 101, 32, 101, 118, 101, 114, 121, 32, 118, 101, 114, 116, 101, 120, 32, 101, 100, 103, 101, 32, 115, 101, 116, 32, 101, 100, 103, 101, 115, 32, 116, 114, 117, 101, 32, 102, 97, 108, 115, 101, 32, 110, 111, 116, 32, 97, 110, 100, 32, 111, 114, 32, 105, 109].append [112, 108, 105, 101, 115, 32, 105, 102, 102, 32, 105, 110, 32, 115, 117, 98, 32, 97, 100, 106, 32, 111, 110, 32, 105, 115, 32, 111, 110, 101, 32, 115, 105, 122, 101, 32, 109, 111, 100, 32, 108, 101, 97, 115, 116, 32, 103, 114, 101, 97, 116, 101, 115, 116, 32, 97, 115, 107, 32, 108, 101, 116])
/-- The keywords, as lists of bytes. -/
def kws : List (List UInt8) := [[102, 105, 110, 100], [115, 111, 109, 101], [101, 118, 101, 114, 121], [118, 101, 114, 116, 101, 120], [101, 100, 103, 101], [115, 101, 116], [101, 100, 103, 101, 115], [116, 114, 117, 101], [102, 97, 108, 115, 101], [110, 111, 116], [97, 110, 100], [111, 114], [105, 109, 112, 108, 105, 101, 115], [105, 102, 102], [105, 110], [115, 117, 98], [97, 100, 106], [111, 110], [105, 115], [111, 110, 101], [115, 105, 122, 101], [109, 111, 100], [108, 101, 97, 115, 116], [103, 114, 101, 97, 116, 101, 115, 116], [97, 115, 107], [108, 101, 116]]
theorem fields_words : Lib.fields wordsL = kws := by decide +kernel
theorem ascii_words : ∀ (j : Nat) b, wordsL[j]? = some b → b.toNat < 128 := by
  have h : wordsL.all (fun b => decide (b.toNat < 128)) = true := by decide +kernel
  intro j b hb
  exact of_decide_eq_true (List.all_eq_true.1 h b (List.mem_of_getElem? hb))
theorem size_words : wordsL.length < 200 := by decide +kernel

/-- The block that Keywords lays. -/
def kwBlock : Obj := .cells ((kws.map fun l => Value.string ⟨l.toArray⟩).toArray) 9
theorem kws_length : kws.length = 26 := rfl

set_option maxHeartbeats 400000 in
set_option maxRecDepth 100000 in
theorem keywords_any (w : World) (htab : Lib.TabIs Tryd.prog w "strings.asciiSpace" .u8 Lib.asciiSpaceTab) :
    Calls Tryd.prog 18 #[] w fun e w' => e = .returned (.slice (some ⟨w.heap.size, 0, none⟩) 26 26) ∧ w' = w.alloc kwBlock := by
  have hF := Tryd.strings_Fields ⟨wordsL.toArray⟩ w (by show wordsL.toArray.size < _; have := size_words; simp; omega) (fun j b hb => ascii_words j b hb) htab
  have e1 : (⟨wordsL.toArray⟩ : ByteArray).data.toList = wordsL := rfl
  rw [e1, fields_words, kws_length] at hF
  clear e1
  have HF := Lib.hid hF
  clear hF
  go_enter Tryd.func18, Tryd.ntmps18
  go_wp2_with fail
  refine HF.out.mono ?_
  rintro e w' ⟨rfl, rfl⟩
  go_wp2_with fail
  go_ret
  exact ⟨rfl, rfl⟩

/-- What the map holds when the first k keywords are in it. -/
def kwMap (k : Nat) : DataW Unit := (kws.take k).foldl (fun D l => D.put (.string l) (.lit (.bool true))) (.map [])
theorem kwMap_succ (k : Nat) (h : k < 26) : kwMap (k + 1) = (kwMap k).put (.string (kws[k]'h)) (.lit (.bool true)) := by
  unfold kwMap
  rw [List.take_succ_eq_append_getElem h, List.foldl_append]
  rfl
theorem law9 : Keyed Tryd.prog 9 := string_keyed Tryd.underlying9
theorem kw_short (k : Nat) (h : k < 26) : (kws[k]'h).length ≤ 8 := by
  have hall : kws.all (fun l => decide (l.length ≤ 8)) = true := by decide +kernel
  exact of_decide_eq_true (List.all_eq_true.1 hall _ (List.getElem_mem h))
theorem kwCell (w : World) (B k : Nat) (h : k < 26) (hb : w.heap[B]? = some kwBlock) : w.cell? ⟨B, k, none⟩ = some (.string ⟨(kws[k]'h).toArray⟩) := by
  rw [cell_of_row w B k _ 9 (0, 0) hb]
  simp [List.getElem?_eq_getElem (show k < kws.length from h)]
  rfl
theorem kwHeap (w : World) (o : Obj) : ((w.alloc o).alloc kwBlock).heap[w.heap.size + 1]? = some kwBlock := by
  have h := heap_alloc_new (w.alloc o) kwBlock
  rw [show (w.alloc o).heap.size = w.heap.size + 1 from by simp] at h
  exact h

set_option maxHeartbeats 400000 in
set_option maxRecDepth 100000 in
theorem known_any (w : World) (htab1 : Lib.TabIs Tryd.prog (w.alloc (.map #[] 0)) "strings.asciiSpace" .u8 Lib.asciiSpaceTab) :
    Calls Tryd.prog 12 #[] w fun e w' => e = .returned (.map (some w.heap.size)) ∧ w'.ownsMap Tryd.prog 9 (plainElem (H := Unit) Tryd.prog 4) w.heap.size 26 (kwMap 26) ∧ Below w.heap.size w w' := by
  have hmm := @run_makeMap Tryd.prog
  have HK := Lib.hid (keywords_any _ htab1)
  clear htab1
  go_enter Tryd.func12, Tryd.ntmps12
  go_wp2_with fail
  refine HK.out.mono ?_
  rintro e w' ⟨rfl, rfl⟩
  clear HK
  go_wp2_with fail
  go_loopw [7] (fun i wr => ∃ k : Nat, k ≤ 26 ∧ i = .int .i64 k ∧ wr.ownsMap Tryd.prog 9 (plainElem (H := Unit) Tryd.prog 4) w.heap.size k (kwMap k) ∧ wr.heap[w.heap.size + 1]? = some kwBlock ∧ Below w.heap.size w wr)
    (fun i _ => 26 - (intOf i).toNat)
  case atStart => exact ⟨0, Nat.zero_le _, rfl, (World.ownsMap_made _ _ _ _).alloc _, kwHeap _ _, ((Below.refl _ _).alloc (Nat.le_refl _) _).alloc (by simp) _⟩
  case round =>
    obtain ⟨k, hk, rfl, hown, hblk, hnx⟩ := hrel
    by_cases hlt : k < 26
    · obtain ⟨s, hs⟩ : ∃ s, s = (⟨(kws[k]'hlt).toArray⟩ : ByteArray) := ⟨_, rfl⟩
      have hcx : wr.cell? ⟨w.heap.size + 1, k, none⟩ = some (.string s) := by rw [hs]; exact kwCell wr _ k hlt hblk
      have hkey : keyOf Tryd.prog 9 (.string s) = some (.string (kws[k]'hlt)) := by
        rw [hs]
        exact keyOf_string_mk Tryd.underlying9 (by have := kw_short k hlt; show (kws[k]'hlt).toArray.size ≤ _; unfold maxLen; simp; omega)
      have HN : Hid (kwMap (k + 1) = (kwMap k).put (.string (kws[k]'hlt)) (.lit (.bool true))) := Lib.hid (kwMap_succ k hlt)
      have HB := Lib.hid hblk
      clear hs hblk
      go_wp2_with (at_mapUpdate; refine wpList_mapUpdate_own _ rfl _ _ _ 40 rfl 9 4 law9 Tryd.underlying40 _ w.heap.size k _ rfl hown (by unfold maxLen; omega) _ _ _ rfl rfl hkey _ [] (plainElem_bool Tryd.underlying4 _) ?_)
      intro w1 hown1 hgrow1
      have R1 : w1.ownsMap Tryd.prog 9 (plainElem (H := Unit) Tryd.prog 4) w.heap.size (k + 1) (kwMap (k + 1)) := by rw [HN.out]; exact hown1
      have R2 := hnx.grown hgrow1 hnx.size (fun j hj => by cases hj; exact Nat.le_refl _)
      have R3 : w1.heap[w.heap.size + 1]? = some kwBlock := by
        have hlt1 : w.heap.size + 1 < wr.heap.size := (Array.getElem?_eq_some_iff.1 HB.out).1
        rw [hgrow1.block _ hlt1 (by simp)]; exact HB.out
      clear hown1 hgrow1 hown hcx hkey HN
      have HR := Lib.hid R3
      clear R3
      go_wp2
      go_roundw
      case rel => exact ⟨k + 1, by omega, by go_num, R1, HR.out, R2⟩
      case measure => simp [intOf]; omega
    · obtain rfl : k = 26 := by omega
      clear hblk
      go_wp2
      go_ret
      exact ⟨rfl, hown, hnx⟩
end Go.Proofs.YtoaiiffnhecmcaaDoor
