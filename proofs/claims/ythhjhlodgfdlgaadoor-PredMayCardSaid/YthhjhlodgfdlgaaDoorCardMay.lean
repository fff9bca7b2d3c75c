/- The law firkinlaw17.PredMay returns true for all columns and every predicate, and leaves its arguments as they were; what its package-level variables hold is tied to the program's text. -/
import Derived.Test.YthhjhlodgfdlgaaDoorRowMay
import Derived.Test.YthhjhlodgfdlgaaDoorTie
import Derived.Test.YthhjhlodgfdlgaaDoorCards
import Derived.SevenTiedAt
set_option linter.unusedVariables false
namespace Go.Proofs.YthhjhlodgfdlgaaDoor
open Go

theorem predMay_row : Rows.PredMaySaid :=
  OpenClaim.holds_of_cond 4 Tryd.f4 rfl rfl rfl rfl rfl rfl rfl ⟨rfl, rfl, rfl, rfl, rfl⟩ rfl rfl rfl rfl rfl (by kernel_rfl) Tryd.func4 (by kernel_rfl)
    (of_decide_eq_true (by kernel_rfl)) (by unfold Func.isWrapper; rw [if_neg (of_decide_eq_false (by kernel_rfl))]; exact ⟨rfl, rfl⟩)
    (fun os started H enc _ F0 => by rw [OpenClaim.pre_eq_preRow]; exact liftedMay os started H enc F0)
theorem predMay_holds : Rows.PredMayCardSaid :=
  Claim7.holds_tied_plain_at .later [] [.data, .data, .data, .data, .pinned] true (true, "a9173bc6adababca491a2775ac9c6c034d1cf8d21e1bfcfce5031226088d5fa1") true
    predMay_row (fun _ h => by cases h) (by kernel_rfl) (fun _ h => by cases h) predMay_row_tie rfl ⟨rfl, rfl⟩ (by kernel_rfl) rfl
    (fun f fn hf hfn => by
      obtain rfl : f = 4 := Option.some.inj ((show Tryd.prog.funcNamed "firkin/firkinlaw17.PredMay" = some 4 by kernel_rfl).symm.trans hf) |>.symm
      obtain rfl : fn = Tryd.f4 := (Option.some.inj (Tryd.func4.symm.trans hfn)).symm
      exact ⟨by kernel_rfl, fun j t ht => by
        rw [Tryd.params4] at ht
        have hm : t ∈ [37, 26] := by simpa using Array.mem_of_getElem? ht
        have hall : ([37, 26].all fun u => !Tryd.prog.wantsStandIn u) = true := by kernel_rfl
        exact (show Tryd.prog.wantsStandIn t = false by simpa using List.all_eq_true.1 hall t hm)⟩)
    (by kernel_rfl)
#print axioms predMay_holds
end Go.Proofs.YthhjhlodgfdlgaaDoor
