import Derived.Test.YthhjhlodgfdlgaaDoorColsB
import Derived.Test.YthhjhlodgfdlgaaDoorNames
import Derived.Test.YthhjhlodgfdlgaaDoorWLast
set_option linter.unusedVariables false
set_option linter.unusedSimpArgs false
namespace Go.Proofs.YthhjhlodgfdlgaaDoor
open Go Go.RowKit Go.Proofs.YthhjhlodgfdlgaaDoorW.PrintLast Go.Proofs.YthhjhlodgfdlgaaDoorW.PrintWords

mutual
def colsR (d : Nat) (p : Pr) (xs : List ByteArray) : List ByteArray :=
  match d with
  | 0 => xs
  | d + 1 => colsRK d p.kids (addC xs p.col)
def colsRK (d : Nat) (l : List Pr) (xs : List ByteArray) : List ByteArray :=
  match l with
  | [] => xs
  | k :: r => colsRK d r (colsR d k xs)
end
theorem colsRK_drop (d : Nat) (l : List Pr) (k : Nat) (h : k < l.length) (xs : List ByteArray) : colsRK d (l.drop k) xs = colsRK d (l.drop (k + 1)) (colsR d l[k] xs) := by
  rw [List.drop_eq_getElem_cons h, colsRK]
/-- The same as through every. -/
theorem colsR_every (d : Nat) : ∀ p xs, TxtOk d p → everyF colsF d p xs = (colsR d p xs, true) := by
  induction d with
  | zero => intro p xs h; exact h.elim
  | succ d ih =>
    intro p xs h
    have hK : ∀ (l : List Pr) xs, (∀ k ∈ l, TxtOk d k) → everyK colsF d l xs = (colsRK d l xs, true) := by
      intro l
      induction l with
      | nil => intro xs _; rw [everyK, colsRK]
      | cons k r ihr =>
        intro xs hl
        rw [everyK, ih k xs (hl k (by simp)), colsRK]
        exact ihr _ (fun k hk => hl k (by simp [hk]))
    rw [everyF, colsR]
    simp only [colsF]
    exact hK _ _ h.2.2.2.2.2.2.2
theorem colsP_eq (p : Pr) (h : TxtOk 6 p) : colsP p = colsR 6 p [] := by rw [colsP, colsR_every 6 p [] h]
theorem colsR_len (d : Nat) : ∀ p xs, TxtOk d p → (colsR d p xs).length ≤ xs.length + cnt d := by
  intro p xs h
  have := everyF_m colsF List.length (fun xs p => addC_len xs p.col) d p xs h
  rw [colsR_every d p xs h] at this
  exact this

theorem containsS_any (xs : List ByteArray) (x : ByteArray) : Lib.containsS xs x = xs.any (fun z => z.toList == x.toList) := by
  have h : ∀ (xs : List ByteArray) i, decide ((0 : Int) ≤ Lib.idxFromS xs x i) = xs.any (fun z => z.toList == x.toList) := by
    intro xs
    induction xs with
    | nil => intro i; simp [Lib.idxFromS]
    | cons z r ih =>
      intro i
      rw [Lib.idxFromS, List.any_cons]
      by_cases e : z = x
      · subst e; simp
      · rw [if_neg e, (Lib.bytes_beq_false_iff z x).2 e, Bool.false_or]
        exact ih (i + 1)
  exact h xs 0
end Go.Proofs.YthhjhlodgfdlgaaDoor
