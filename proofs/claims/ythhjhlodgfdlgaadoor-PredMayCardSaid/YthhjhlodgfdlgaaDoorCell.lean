import Derived.Test.YthhjhlodgfdlgaaDoorName
set_option linter.unusedVariables false
set_option linter.unusedSimpArgs false
namespace Go.Proofs.YthhjhlodgfdlgaaDoor
open Go Go.RowKit

def mayC (ty : Int) (null : Bool) (c : Ce) : Bool :=
  if c.nl then null && decide (1 ≤ ty) && decide (ty ≤ 3) && (c.i == 0 && c.s.toList.isEmpty)
  else if ty = 1 then c.s.toList.isEmpty
  else if ty = 2 then c.s.toList.isEmpty && (c.i == 0 || c.i == 1)
  else if ty = 3 then c.i == 0 && decide ((c.s.size : Int) ≤ 40)
  else false

set_option maxHeartbeats 2000000 in
theorem cellMay_calls (ty : Int) (null : Bool) (c : Ce) (w : World) (hs : c.s.size ≤ 9223372036854775807) : Calls Tryd.prog 58 #[.int .i64 ty, .bool null, c.v] w (Ret (.bool (mayC ty null c)) w) := by
  have hm : mayC ty null c = _ := mayC.eq_def ty null c
  obtain ⟨nl, i, s⟩ := c
  simp only [Ce.v, encCe] at hm ⊢
  generalize mayC ty null ⟨nl, i, s⟩ = r at *
  have HM := Asd.mk hm
  clear hm
  cases nl
  · go_enter Tryd.func58, Tryd.ntmps58
    go_wp2_with fail
    all_goals go_ret
    all_goals
      refine ⟨?_, by go_grown⟩
      have h := HM.out
      simp_all
  · go_enter Tryd.func58, Tryd.ntmps58
    go_wp2_with fail
    all_goals go_ret
    all_goals
      refine ⟨?_, by go_grown⟩
      have h := HM.out
      simp_all
      try (intros; omega)
end Go.Proofs.YthhjhlodgfdlgaaDoor
