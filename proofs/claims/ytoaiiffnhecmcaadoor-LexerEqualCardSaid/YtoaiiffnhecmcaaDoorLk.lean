/-
  palmettelaw09.known returns true, and of what was there nothing turns. Condition: strings.asciiSpace holds the table that the program's text lays.
-/
import Derived.Test.YtoaiiffnhecmcaaDoorTok
import Derived.WalkSmall
namespace Go.Proofs.YtoaiiffnhecmcaaDoor
open Go.RowKit Go.WideMaps Go.Maps

abbrev Tab (w : World) : Prop := Lib.TabIs Tryd.prog w "strings.asciiSpace" .u8 Lib.asciiSpaceTab
theorem gTab : Tryd.prog.globalNamed "strings.asciiSpace" = some 0 := by kernel_rfl
theorem Tab.below {w w' : World} (h : Tab w) (hb : Below w.heap.size w w') : Tab w' := by
  have h0 := Lib.TabIs.cell h gTab 0 (by decide +kernel)
  exact var?_below hb gTab (World.block_lt_of_cell? w ⟨0, 0, none⟩ h0) h

theorem known_at (w : World) (h : Tab w) (o : Obj) : Calls Tryd.prog 12 #[] (w.alloc o) fun e w' => e = .returned (.map (some (w.heap.size + 1))) ∧ KwAt w' (w.heap.size + 1) ∧ Below (w.heap.size + 1) (w.alloc o) w' := by
  have hz : (w.alloc o).heap.size = w.heap.size + 1 := by simp
  have := known_any (w.alloc o) (h.below (((Below.refl _ _).alloc (Nat.le_refl _) o).alloc (by simp) _))
  rw [hz] at this
  exact this

theorem cells_own {w : World} {base : Nat} {v : Value} {n : Nat} {xs : List Value} (h : w.ownsRow base 26 5 v n xs) (hn : 0 < n) : ∃ g cap, v = .slice (some ⟨g, 0, none⟩) n cap ∧ base ≤ g ∧ g < w.heap.size ∧ ∀ (j : Nat) (u : Value), xs[j]? = some u → w.cell? ⟨g, j, none⟩ = some u := by
  obtain ⟨g, cap, rfl, hb, hl⟩ := h.form hn
  refine ⟨g, cap, rfl, hb, hl, fun j u hu => ?_⟩
  have := h.cells (g := g) rfl j u hu
  have hadd : (⟨g, 0, none⟩ : Addr).add j = ⟨g, j, none⟩ := by unfold Addr.add; split <;> simp_all
  rw [hadd] at this
  exact this

set_option maxHeartbeats 1000000 in
set_option maxRecDepth 100000 in
theorem lawKnown_any (w : World) (h : Tab w) : Calls Tryd.prog 7 #[] w fun e w' => e = .returned (.bool true) ∧ Below w.heap.size w w' := by
  have HT := Lib.hid (tokenize_src srcA w rfl rfl (known_at w h))
  clear h
  go_enter Tryd.func7, Tryd.ntmps7
  go_wp2_with fail
  refine HT.out.mono ?_
  rintro e w1 ⟨v, rfl, hown, hb⟩
  obtain ⟨g, cap, rfl, hbg, hgl, hc⟩ := cells_own hown (by omega)
  have c0 : w1.cell? ⟨g, 10, none⟩ = some (.int .i64 1) := hc 10 _ rfl
  have c1 : w1.cell? ⟨g, 11, none⟩ = some (.string ⟨#[120, 39]⟩) := hc 11 _ rfl
  have c2 : w1.cell? ⟨g, 32, none⟩ = some (.int .i64 7) := hc 32 _ rfl
  have c3 : w1.cell? ⟨g, 35, none⟩ = some (.int .i64 0) := hc 35 _ rfl
  have c4 : w1.cell? ⟨g, 38, none⟩ = some (.int .i64 1) := hc 38 _ rfl
  have c5 : w1.cell? ⟨g, 39, none⟩ = some (.int .i64 24) := hc 39 _ rfl
  have HB := Lib.hid hb
  clear hb hc hown HT
  go_wp2_with fail
  go_ret
  exact ⟨rfl, HB.out.alloc HB.out.size _⟩
end Go.Proofs.YtoaiiffnhecmcaaDoor
