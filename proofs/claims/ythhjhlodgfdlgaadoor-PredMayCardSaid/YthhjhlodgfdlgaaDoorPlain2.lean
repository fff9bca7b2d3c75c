import Derived.Test.YthhjhlodgfdlgaaDoorPlain
set_option linter.unusedVariables false
set_option linter.unusedSimpArgs false
namespace Go.Proofs.YthhjhlodgfdlgaaDoor
open Go Go.RowKit

def kidOk (p k : Pr) : Bool := !(decide (6 ≤ p.op) && k.op == p.op)
theorem flat_noK (p : Pr) : flatP (noK p) (barePr p) = flatP p (barePr p) := by
  obtain ⟨op, col, cm, ⟨nl, i, str⟩, kd, pat, ka, kc, kids⟩ := p
  rfl
theorem any_kidOk (p : Pr) (h : 6 ≤ p.op) (l : List Pr) : (!l.any (fun k => k.op == p.op)) = l.all (kidOk p) := by
  induction l with
  | nil => rfl
  | cons k r ih => rw [List.any_cons, List.all_cons, Bool.not_or, ih, kidOk, decide_eq_true h, Bool.true_and]
theorem all_kidOk (p : Pr) (h : ¬ 6 ≤ p.op) (l : List Pr) : l.all (kidOk p) = true := by
  rw [List.all_eq_true]
  intro k _
  simp [kidOk, h]
theorem own_fields (p : Pr) : (fieldsP p && kidsP p) = (ownP p && p.kids.all (kidOk p)) := by
  unfold fieldsP kidsP ownP ownSw ownSwV tailV
  rw [flat_noK]
  generalize flatP p (barePr p) = fl
  generalize nameB p.col = nb
  generalize mayC p.kind false p.val = mb
  have hl0 : ((p.kids.length : Int) == 0) = !decide (0 < (p.kids.length : Int)) := by
    by_cases h : p.kids.length = 0
    · simp [h]
    · have : 0 < p.kids.length := by omega
      simp [h, this]
  by_cases h1 : p.op = 1
  · rw [all_kidOk p (by omega)]
    simp only [h1, listP, hl0]
    simp
    cases fl <;> simp
  by_cases h2 : p.op = 2
  · rw [all_kidOk p (by omega)]
    simp only [h2, listP, hl0]
    simp
    cases fl <;> cases nb <;> cases mb <;> simp
    all_goals (cases decide (1 ≤ p.cmp) <;> cases decide (p.cmp ≤ 6) <;> simp)
  by_cases h3 : p.op = 3
  · rw [all_kidOk p (by omega)]
    simp only [h3, listP, hl0]
    simp
    cases fl <;> cases nb <;> simp
  by_cases h4 : p.op = 4
  · rw [all_kidOk p (by omega)]
    simp only [h4, listP, hl0]
    simp
    cases fl <;> cases nb <;> simp
  by_cases h5 : p.op = 5
  · rw [all_kidOk p (by omega)]
    simp only [h5, listP]
    simp
    cases fl <;> simp
  by_cases h6 : p.op = 6
  · rw [← any_kidOk p (by omega)]
    simp only [h6, listP]
    simp
    cases fl <;> simp
    by_cases hk : 2 ≤ p.kids.length
    · have : (2 : Int) ≤ p.kids.length := by omega
      simp [hk, this]
    · have : ¬ (2 : Int) ≤ p.kids.length := by omega
      simp [hk, this]
  by_cases h7 : p.op = 7
  · rw [← any_kidOk p (by omega)]
    simp only [h7, listP]
    simp
    cases fl <;> simp
    by_cases hk : 2 ≤ p.kids.length
    · have : (2 : Int) ≤ p.kids.length := by omega
      simp [hk, this]
    · have : ¬ (2 : Int) ≤ p.kids.length := by omega
      simp [hk, this]
  · have h8 : ¬ (5 ≤ p.op ∧ p.op ≤ 7) := by omega
    have h9 : (decide (5 ≤ p.op) && decide (p.op ≤ 7)) = false := by
      rw [Bool.and_eq_false_iff]
      by_cases h : 5 ≤ p.op
      · right; simp; omega
      · left; simp; omega
    simp [h1, h2, h3, h4, h5, h6, h7, h9]
theorem good_one (d : Nat) : ∀ p, goodP d p = oneN d p := by
  induction d with
  | zero => intro p; rfl
  | succ d ih =>
    intro p
    rw [goodP, oneN, own_fields]
    have : (fun k => kidV (oneN d k) p.op k.op) = fun k => goodP d k && kidOk p k := by
      funext k
      rw [ih k]; rfl
    rw [this]
    cases ownP p with
    | false => rfl
    | true =>
      simp only [Bool.true_and]
      have : ∀ l : List Pr, (l.all (kidOk p) && l.all (goodP d)) = l.all (fun k => goodP d k && kidOk p k) := by
        intro l
        induction l with
        | nil => rfl
        | cons k r ihr =>
          rw [List.all_cons, List.all_cons, List.all_cons, ← ihr]
          cases kidOk p k <;> cases goodP d k <;> cases r.all (kidOk p) <;> cases r.all (goodP d) <;> rfl
      exact this _
theorem one_deep (d : Nat) : ∀ p, oneN d p = true → deepB d p = true := by
  induction d with
  | zero => intro p h; simp [oneN] at h
  | succ d ih =>
    intro p h
    rw [oneN, Bool.and_eq_true, List.all_eq_true] at h
    rw [deepB, List.all_eq_true]
    intro k hk
    have := h.2 k hk
    rw [kidV, Bool.and_eq_true] at this
    exact ih k this.1
theorem may_eq (p : Pr) : mayP p = mayR p := by
  have h1 := (every_good 6 p 0 (by omega)).1
  have h2 := (size_nodes 6 p 16 (by omega)).1
  have h3 := good_one 6 p
  have h4 := one_deep 6 p
  rw [mayP, mayR]
  rw [show ((0 : Nat) : Int) = 0 from rfl] at h1
  rw [h1, h3, Nat.zero_add]
  cases ho : oneN 6 p with
  | false => simp
  | true =>
    rw [Bool.true_and, Bool.and_true]
    have h5 := h4 ho
    by_cases h6 : nodesP 6 p ≤ 16
    · have : sizeF 6 16 p ≤ 16 := h2.2 ⟨h5, by omega⟩
      simp [h6, this]
    · have : ¬ sizeF 6 16 p ≤ 16 := fun h => by have := (h2.1 h).2; omega
      simp [h6, this]

theorem good_txt (d : Nat) : ∀ (m : Nat) (p : Pr), d ≤ m → goodP d p = true → smallF m p = true → TxtOk d p := by
  induction d with
  | zero => intro m p _ h; simp [goodP] at h
  | succ d ih =>
    intro m p hm hg hs
    cases m with
    | zero => omega
    | succ m =>
      rw [goodP, Bool.and_eq_true, Bool.and_eq_true, List.all_eq_true] at hg
      obtain ⟨⟨hf, hk⟩, hall⟩ := hg
      rw [smallF] at hs
      simp only [Bool.and_eq_true, Bool.not_eq_true', decide_eq_false_iff_not, List.all_eq_true] at hs
      obtain ⟨⟨⟨⟨s1, s2⟩, s3⟩, s4⟩, s5⟩ := hs
      have hop : 1 ≤ p.op ∧ p.op ≤ 7 ∧ (p.op = 2 → 1 ≤ p.cmp ∧ p.cmp ≤ 6) := by
        rw [fieldsP, Bool.and_eq_true] at hf
        have hf := hf.2
        split at hf
        · omega
        split at hf
        · simp only [Bool.and_eq_true, decide_eq_true_eq] at hf
          omega
        split at hf
        · omega
        split at hf
        · omega
        · simp only [Bool.and_eq_true, decide_eq_true_eq] at hf
          omega
      refine ⟨⟨hop.1, hop.2.1⟩, hop.2.2, ?_, by omega, by omega, by omega, by omega, fun k hk => ih m k (by omega) (hall k hk) (s5 k hk)⟩
      intro h5
      unfold kidsP at hk
      split at hk
      · simp at hk; omega
      split at hk
      · have : (p.kids.length : Int) = 1 := by simpa using hk
        omega
      · rename_i hl h5'
        exfalso
        have : p.op = 6 ∨ p.op = 7 := by omega
        apply hl
        rcases this with h | h <;> simp [listP, h]
theorem may_txt (p : Pr) (hs : smallF 9 p = true) (h : mayP p = true) : TxtOk 6 p := by
  have h1 := (every_good 6 p 0 (by omega)).1
  rw [show ((0 : Nat) : Int) = 0 from rfl] at h1
  rw [mayP, h1, Bool.and_eq_true] at h
  exact good_txt 6 9 p (by omega) h.1 hs
end Go.Proofs.YthhjhlodgfdlgaaDoor
