/-
  What the listed variables give the walk (the table of ASCII blanks), and a start that meets the condition. No condition of its own.
-/
import Derived.Test.YtoaiiffnhecmcaaDoorRows
import Derived.Test.YtoaiiffnhecmcaaDoorOpen
import Derived.Test.YtoaiiffnhecmcaaDoorLaw
import Derived.ProofKit
import Derived.LaidMore
import Derived.OpenShut
import Derived.Stop.Joined
import Derived.SizedLaws
import Derived.Lib.LaidTab
import Derived.MakeChecks
namespace Go.Proofs.YtoaiiffnhecmcaaDoor
open Go.ChangeShapes Go.WideShapes Go.ChangeAt Go.RowKit
open PLexerEqual

theorem own : ownKnob Tryd.prog.godebug = none := by kernel_rfl
theorem laidOut : laidOutB Tryd.prog = true := by kernel_rfl
abbrev laidL : List (String × DataW Unit) := Rows.lexerEqualRow.laid

theorem laid_tail {P : Program} {W : World} {x : String × DataW Unit} {r : List (String × DataW Unit)} (h : laidMet P (x :: r) W) : laidMet P r W := by
  obtain ⟨ps, ⟨g, t, cs, fuel, p, q, _, _, _, _, hr, rfl⟩, hnd, hall⟩ := h
  exact ⟨q, hr, (List.nodup_append.1 hnd).2.1, fun b off hb => hall b off (List.mem_append_right _ hb)⟩

theorem ascii_data : Rows.laid_strings_asciiSpace (H := Unit) = Lib.tabData .u8 Lib.asciiSpaceTab := by kernel_rfl
theorem tab_of_laid {W : World} (h : laidMetH Tryd.prog laidL W) : Tab W := by
  rw [MakeChecks.laidMetH_plain _ _ _ (by kernel_rfl)] at h
  have h6 : laidMet Tryd.prog [("strings.asciiSpace", Rows.laid_strings_asciiSpace)] W := laid_tail (laid_tail (laid_tail (laid_tail (laid_tail (laid_tail h)))))
  rw [ascii_data] at h6
  exact Lib.tabIs_of_head (k := .u8) (zs := Lib.asciiSpaceTab) (rest := []) (t := 57) (e := 5) (n := 256) gTab (by kernel_rfl) Tryd.underlying57 Tryd.underlying5 (by kernel_rfl) (by kernel_rfl) h6

/-- The heap that the door's run leaves meets the condition: closed facts. -/
theorem door_met (os : Os) (args : Array Value) : laidMetH Tryd.prog laidL ((World.doorLaid Tryd.prog 86 os).forCall (fun _ _ => 0) ⟨#[], args, []⟩).memory :=
  laidMetH_of_parts3 (fuel := 8) (laidMet_of_run' 8 (by kernel_rfl) (by kernel_rfl)) (by kernel_rfl) (by kernel_rfl)
end Go.Proofs.YtoaiiffnhecmcaaDoor
