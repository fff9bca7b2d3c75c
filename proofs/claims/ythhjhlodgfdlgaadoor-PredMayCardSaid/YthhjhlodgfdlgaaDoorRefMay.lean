import Derived.Test.YthhjhlodgfdlgaaDoorRefD
set_option linter.unusedVariables false
set_option linter.unusedSimpArgs false
namespace Go.Proofs.YthhjhlodgfdlgaaDoor
open Go Go.RowKit

theorem deep_of_sizeK (d : Nat) (H : ∀ (most : Int) (p : Pr), sizeF d most p ≤ 16 → deepB d p = true) : ∀ (l : List Pr) (most n : Int), 1 ≤ n → sizeK d most l n ≤ 16 → n ≤ 16 ∧ l.all (deepB d) = true := by
  intro l
  induction l with
  | nil => intro most n h1 h; rw [sizeK] at h; exact ⟨h, rfl⟩
  | cons k r ih =>
    intro most n h1 h
    rw [sizeK] at h
    by_cases h16 : n ≤ 16
    · rw [if_pos h16] at h
      have hb := sizeF_bd d (most - n) k
      obtain ⟨h2, h3⟩ := ih most _ (by omega) h
      refine ⟨h16, ?_⟩
      rw [List.all_cons, h3, H _ _ (by omega : sizeF d (most - n) k ≤ 16)]
      rfl
    · rw [if_neg h16] at h; omega
theorem deep_of_size (d : Nat) : ∀ (most : Int) (p : Pr), sizeF d most p ≤ 16 → deepB d p = true := by
  induction d with
  | zero => intro most p h; simp [sizeF] at h
  | succ d ih =>
    intro most p h
    rw [sizeF] at h
    split at h
    · omega
    · rw [deepB]
      exact (deep_of_sizeK d ih p.kids most 1 (by omega) h).2

def mayR (p : Pr) : Bool := decide (sizeF 6 16 p ≤ 16) && oneN 6 p

set_option maxHeartbeats 1000000 in
set_option maxRecDepth 100000 in
theorem refMay_calls (p : Pr) (w : World) (hp : InPr w p) : Calls Tryd.prog 12 #[p.v] w (Ret (.bool (mayR p)) w) := by
  have hB1 := (Below.refl w.heap.size w).alloc (Nat.le_refl _) (Obj.cells (encPr p).toArray 26)
  have hsz := refSize_calls 6 16 p _ (hp.low hB1) (by omega) (by omega) (by omega)
  have hone := fun W (hb : Below w.heap.size w W) (h : sizeF 6 16 p ≤ 16) => refOne_calls 6 p W (hp.low hb) (deep_of_size 6 16 p h)
  have hr : mayR p = (decide (sizeF 6 16 p ≤ 16) && oneN 6 p) := rfl
  rw [hr]
  clear hr hp
  generalize sizeF 6 16 p = sz at *
  generalize oneN 6 p = b at *
  by_cases hle : sz ≤ 16
  · have hdl : decide (sz ≤ 16) = true := by simpa using hle
    have hone' := fun W hb => hone W hb hle
    rw [hdl, Bool.true_and]
    clear hone
    obtain ⟨op, col, cm, ⟨nl, i, str⟩, kd, pat, ka, kc, kids⟩ := p
    simp only [Pr.v, encPr, Pr.op, Pr.col, Pr.cmp, Pr.val, Pr.kind, Pr.pat, Pr.ka, Pr.kc, Pr.kids] at *
    go_enter Tryd.func12, Tryd.ntmps12
    go_wp2_with fail
    go_call hsz as e w1 ⟨rfl, hb1⟩
    have hp1 := fun o => (bcell hb1).1 w.heap.size o (by simp)
    have hB2 := bnext hB1 hb1
    go_wp2_with fail
    go_call (hone' _ hB2) as e w2 ⟨rfl, hb2⟩
    go_wp2_with fail
    go_ret
    exact ⟨rfl, bnext hB2 hb2⟩
  · have hdl : decide (sz ≤ 16) = false := by simpa using hle
    rw [hdl, Bool.false_and]
    clear hone
    obtain ⟨op, col, cm, ⟨nl, i, str⟩, kd, pat, ka, kc, kids⟩ := p
    simp only [Pr.v, encPr, Pr.op, Pr.col, Pr.cmp, Pr.val, Pr.kind, Pr.pat, Pr.ka, Pr.kc, Pr.kids] at *
    go_enter Tryd.func12, Tryd.ntmps12
    go_wp2_with fail
    go_call hsz as e w1 ⟨rfl, hb1⟩
    have hp1 := fun o => (bcell hb1).1 w.heap.size o (by simp)
    have hB2 := bnext hB1 hb1
    go_wp2_with fail
    go_ret
    exact ⟨rfl, hB2⟩
end Go.Proofs.YthhjhlodgfdlgaaDoor
