import Derived.Test.YthhjhlodgfdlgaaDoorRVal
set_option linter.unusedVariables false
set_option linter.unusedSimpArgs false
namespace Go.Proofs.YthhjhlodgfdlgaaDoor
open Go Go.RowKit

set_option maxHeartbeats 2000000 in
set_option maxRecDepth 100000 in
theorem refValue_calls (ty : Int) (c : Ce) (w : World) (hi : i64 c.i) (hz : c.s.size ≤ 2000000) : Calls Tryd.prog 11 #[.int .i64 ty, c.v] w (Ret (.string (valueB ty c)) w) := by
  have hB1 := (Below.refl w.heap.size w).alloc (Nat.le_refl _) (Obj.cells (encCe c).toArray 23)
  have hd := fun W => refDigits_calls c.i W hi
  have hq := fun W => refQuote_calls c.s W hz
  obtain ⟨nl, i, s⟩ := c
  simp only [Ce.v, encCe] at *
  have hr : valueB ty ⟨nl, i, s⟩ = (if nl then ⟨#[110, 117, 108, 108]⟩ else if ty = 1 then digB i else if ty = 3 then quoteB s else if ty = 2 then (if i = 0 then ⟨#[102, 97, 108, 115, 101]⟩ else ⟨#[116, 114, 117, 101]⟩) else ⟨#[]⟩) := rfl
  rw [hr]
  clear hr
  generalize digB i = db at *
  generalize quoteB s = qb at *
  cases nl with
  | true =>
    simp only [if_true]
    go_enter Tryd.func11, Tryd.ntmps11
    go_wp2_with fail
    go_ret
    exact ⟨rfl, by go_grown⟩
  | false =>
    simp only [Bool.false_eq_true, if_false]
    by_cases e1 : ty = 1
    · subst e1
      simp only [if_true]
      go_enter Tryd.func11, Tryd.ntmps11
      go_wp2_with fail
      go_call (hd _) as e w1 ⟨rfl, hb1⟩
      go_wp2_with fail
      go_ret
      exact ⟨rfl, bnext hB1 hb1⟩
    rw [if_neg e1]
    by_cases e3 : ty = 3
    · subst e3
      simp only [if_true]
      go_enter Tryd.func11, Tryd.ntmps11
      go_wp2_with fail
      go_call (hq _) as e w1 ⟨rfl, hb1⟩
      go_wp2_with fail
      go_ret
      exact ⟨rfl, bnext hB1 hb1⟩
    rw [if_neg e3]
    by_cases e2 : ty = 2
    · subst e2
      simp only [if_true]
      by_cases hz0 : i = 0
      · subst hz0
        simp only [if_true]
        go_enter Tryd.func11, Tryd.ntmps11
        go_wp2_with fail
        go_ret
        exact ⟨rfl, by go_grown⟩
      · rw [if_neg hz0]
        go_enter Tryd.func11, Tryd.ntmps11
        go_wp2_with fail
        go_ret
        exact ⟨rfl, by go_grown⟩
    · rw [if_neg e2]
      go_enter Tryd.func11, Tryd.ntmps11
      go_wp2_with fail
      go_ret
      exact ⟨rfl, by go_grown⟩

end Go.Proofs.YthhjhlodgfdlgaaDoor
