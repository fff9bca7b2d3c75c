import Derived.Test.YthhjhlodgfdlgaaDoorMay
import Derived.Test.YthhjhlodgfdlgaaDoorRefMay
import Derived.Test.YthhjhlodgfdlgaaDoorTextA
import Derived.Test.YthhjhlodgfdlgaaDoorRefA
set_option linter.unusedVariables false
set_option linter.unusedSimpArgs false
namespace Go.Proofs.YthhjhlodgfdlgaaDoor
open Go Go.RowKit

def goodP : Nat → Pr → Bool
  | 0, _ => false
  | d + 1, p => fieldsP p && kidsP p && p.kids.all (goodP d)
mutual
def nodesP (d : Nat) (p : Pr) : Nat :=
  match d with
  | 0 => 1
  | d + 1 => nodesK d p.kids 1
def nodesK (d : Nat) (l : List Pr) (n : Nat) : Nat :=
  match l with
  | [] => n
  | k :: r => nodesK d r (n + nodesP d k)
end
theorem nodesK_add (d : Nat) : ∀ (l : List Pr) (n m : Nat), nodesK d l (n + m) = n + nodesK d l m := by
  intro l
  induction l with
  | nil => intro n m; simp [nodesK]
  | cons k r ih => intro n m; rw [nodesK, nodesK, Nat.add_assoc, ih]
theorem nodesK_le (d : Nat) (l : List Pr) (n : Nat) : n ≤ nodesK d l n := by
  have := nodesK_add d l n 0
  rw [Nat.add_zero] at this
  omega
theorem nodesP_pos (d : Nat) (p : Pr) : 1 ≤ nodesP d p := by
  cases d with
  | zero => rw [nodesP]; omega
  | succ d => rw [nodesP]; exact nodesK_le d _ 1

theorem w16 (n : Nat) (h : n ≤ 17) : wrap64 ((n : Int) + 1) = ((n + 1 : Nat) : Int) := by
  rw [IntWalk.wrap64_in _ ⟨by omega, by omega⟩]; omega

theorem every_good (d : Nat) : ∀ (p : Pr) (n : Nat), n ≤ 16 → (everyF mayF d p n).2 = (goodP d p && decide (n + nodesP d p ≤ 16)) ∧ ((everyF mayF d p n).2 = true → (everyF mayF d p n).1 = ((n + nodesP d p : Nat) : Int)) := by
  induction d with
  | zero => intro p n h; simp [everyF, goodP]
  | succ d ih =>
    intro p n h
    have hK : ∀ (l : List Pr) (n m : Nat), n + m ≤ 16 → (everyK mayF d l ((n + m : Nat) : Int)).2 = (l.all (goodP d) && decide (n + nodesK d l m ≤ 16)) ∧ ((everyK mayF d l ((n + m : Nat) : Int)).2 = true → (everyK mayF d l ((n + m : Nat) : Int)).1 = ((n + nodesK d l m : Nat) : Int)) := by
      intro l
      induction l with
      | nil => intro n m h; simp [everyK, nodesK]; exact_mod_cast h
      | cons k r ihr =>
        intro n m h
        have h1 := ih k (n + m) h
        rw [everyK, nodesK, List.all_cons]
        generalize hg : everyF mayF d k ((n + m : Nat) : Int) = g at *
        obtain ⟨s1, b⟩ := g
        simp only at h1
        cases b with
        | false =>
          simp only
          refine ⟨?_, by simp⟩
          have h2 := h1.1.symm
          rw [Bool.and_eq_false_iff] at h2
          rcases h2 with h2 | h2
          · simp [h2]
          · have h3 : ¬ (n + m + nodesP d k ≤ 16) := by simpa using h2
            have h4 := nodesK_le d r (m + nodesP d k)
            have h5 : ¬ (n + nodesK d r (m + nodesP d k) ≤ 16) := by omega
            simp [h5]
        | true =>
          obtain ⟨h2, h3⟩ := h1
          have h3 := h3 rfl
          have h4 := h2.symm
          rw [Bool.and_eq_true] at h4
          have h5 : n + m + nodesP d k ≤ 16 := by simpa using h4.2
          have h6 := ihr n (m + nodesP d k) (by omega)
          simp only
          rw [h3, show n + m + nodesP d k = n + (m + nodesP d k) by omega, h4.1, Bool.true_and]
          exact h6
    have hmf : mayF (n : Int) p = (((n + 1 : Nat) : Int), decide (((n + 1 : Nat) : Int) ≤ 16) && fieldsP p && kidsP p) := by rw [mayF, w16 n (by omega)]
    rw [everyF, hmf, goodP, nodesP]
    have hge := nodesK_le d p.kids 1
    by_cases h16 : n + 1 ≤ 16
    · have hd : decide (((n + 1 : Nat) : Int) ≤ 16) = true := by simp; omega
      rw [hd, Bool.true_and]
      cases hf : (fieldsP p && kidsP p) with
      | false => simp
      | true =>
        simp only [Bool.true_and]
        exact hK p.kids n 1 (by omega)
    · have hd : decide (((n + 1 : Nat) : Int) ≤ 16) = false := by simp; omega
      have h5 : ¬ (n + nodesK d p.kids 1 ≤ 16) := by omega
      rw [hd]
      simp [h5]

theorem size_nodes (d : Nat) : ∀ (p : Pr) (m : Int), m ≤ 16 → (sizeF d m p ≤ m ↔ deepB d p = true ∧ (nodesP d p : Int) ≤ m) ∧ (sizeF d m p ≤ m → sizeF d m p = nodesP d p) := by
  induction d with
  | zero => intro p m h; simp [sizeF, deepB]; omega
  | succ d ih =>
    intro p m h
    rw [sizeF, deepB, nodesP]
    have hge := nodesK_le d p.kids 1
    by_cases h1 : m < 1
    · rw [if_pos h1]
      constructor
      · constructor
        · intro h2; omega
        · intro h2; omega
      · intro h2; omega
    rw [if_neg h1]
    have hmono : ∀ (l : List Pr) (n : Int), n ≤ sizeK d m l n := by
      intro l
      induction l with
      | nil => intro n; rw [sizeK]; omega
      | cons k r ihr =>
        intro n
        rw [sizeK]
        split
        · have := ihr (n + sizeF d (m - n) k)
          have := sizeF_bd d (m - n) k
          omega
        · omega
    have hK : ∀ (l : List Pr) (n : Nat), (n : Int) ≤ m → (sizeK d m l n ≤ m ↔ l.all (deepB d) = true ∧ (nodesK d l n : Int) ≤ m) ∧ (sizeK d m l n ≤ m → sizeK d m l n = nodesK d l n) := by
      intro l
      induction l with
      | nil => intro n h2; simp [sizeK, nodesK]
      | cons k r ihr =>
        intro n h2
        rw [sizeK, nodesK, if_pos (by omega), List.all_cons, Bool.and_eq_true]
        obtain ⟨h3, h4⟩ := ih k (m - n) (by omega)
        by_cases h5 : sizeF d (m - n) k ≤ m - n
        · obtain ⟨h6, h7⟩ := h3.1 h5
          have h8 := h4 h5
          have h9 := ihr (n + nodesP d k) (by omega)
          rw [h8, show ((n : Int) + nodesP d k) = ((n + nodesP d k : Nat) : Int) by omega]
          simp only [h6, true_and]
          exact h9
        · have h6 := hmono r (n + sizeF d (m - n) k)
          have h7 : ¬ (sizeK d m r (n + sizeF d (m - n) k) ≤ m) := by omega
          have h8 : ¬ (deepB d k = true ∧ (nodesP d k : Int) ≤ m - n) := fun h => h5 (h3.2 h)
          have h9 := nodesK_le d r (n + nodesP d k)
          refine ⟨⟨fun h => absurd h h7, fun h => ?_⟩, fun h => absurd h h7⟩
          exact absurd ⟨h.1.1, by omega⟩ h8
    have := hK p.kids 1 (by omega)
    exact this
end Go.Proofs.YthhjhlodgfdlgaaDoor
