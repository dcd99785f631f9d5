/-
  The tied card of LexerEqual: the law returns true for every input and leaves its arguments as they read; the listed package-level variables are tied to the program's text. Conditions: the card's own.
-/
import Derived.Test.YtoaiiffnhecmcaaDoorProof
import Derived.Test.YtoaiiffnhecmcaaDoorTie
import Derived.Test.YtoaiiffnhecmcaaDoorCards
import Derived.SevenTiedAt
namespace Go.Proofs.YtoaiiffnhecmcaaDoor
open Go

theorem lexerEqual_card : Rows.LexerEqualCardSaid :=
  Claim7.holds_tied_plain_at .later [] [.data, .data, .data, .sentinel, .sentinel, .listed, .data] true (true, "17408628b52e98eb9217bf05c28d6edeef088d8e478f36609b8bf0e019f5de67") true
    lexerEqual_holds (fun _ h => by cases h) (by kernel_rfl) (fun _ h => by cases h) lexerEqual_row_tie rfl ⟨rfl, rfl⟩ (by kernel_rfl) rfl
    (fun f fn hf hfn => by
      obtain rfl : f = 3 := Option.some.inj ((show Tryd.prog.funcNamed "palmette/palmettelaw09.LexerEqual" = some 3 by kernel_rfl).symm.trans hf) |>.symm
      obtain rfl : fn = Tryd.f3 := (Option.some.inj (Tryd.func3.symm.trans hfn)).symm
      exact ⟨by kernel_rfl, fun j t ht => by
        rw [Tryd.params3] at ht
        have hm : t ∈ [22, 22, 5, 5] := by simpa using Array.mem_of_getElem? ht
        have hall : ([22, 22, 5, 5].all fun u => !Tryd.prog.wantsStandIn u) = true := by kernel_rfl
        exact (show Tryd.prog.wantsStandIn t = false by simpa using List.all_eq_true.1 hall t hm)⟩)
    (by kernel_rfl)
#print axioms lexerEqual_card
end Go.Proofs.YtoaiiffnhecmcaaDoor
