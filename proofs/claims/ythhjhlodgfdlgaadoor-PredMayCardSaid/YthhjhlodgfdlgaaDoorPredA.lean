import Derived.Test.YthhjhlodgfdlgaaDoorName
set_option linter.unusedVariables false
set_option linter.unusedSimpArgs false
namespace Go.Proofs.YthhjhlodgfdlgaaDoor
open Go Go.RowKit

theorem toList_eq (a : ByteArray) : a.toList = a.data.toList := Go.Lib.toList_data a
theorem toList_inj {a b : ByteArray} : a.toList = b.toList ↔ a = b := by
  rw [Go.Lib.toList_data, Go.Lib.toList_data]
  constructor
  · intro h
    have : a.data = b.data := by
      rw [← Array.toArray_toList (xs := a.data), h, Array.toArray_toList]
    exact ByteArray.ext this
  · rintro rfl; rfl

def flatP (a b : Pr) : Bool := a.op == b.op && a.col.toList == b.col.toList && a.cmp == b.cmp && (a.val.nl == b.val.nl && a.val.i == b.val.i && a.val.s.toList == b.val.s.toList) && a.kind == b.kind && a.pat.toList == b.pat.toList
def listP (p : Pr) : Bool := p.op == 6 || p.op == 7

theorem list_calls (p : Pr) (w : World) : Calls Tryd.prog 50 #[p.v] w (Ret (.bool (listP p)) w) := by
  obtain ⟨op, col, cm, ⟨nl, i, str⟩, kd, pat, ka, kc, kids⟩ := p
  simp only [Pr.v, encPr, listP, Pr.op, Pr.col, Pr.cmp, Pr.val, Pr.kind, Pr.pat, Pr.ka, Pr.kc, Pr.kids]
  go_enter Tryd.func50, Tryd.ntmps50
  go_wp2_with fail
  all_goals
    go_ret
    exact ⟨by simp_all, by go_grown⟩

set_option maxHeartbeats 800000 in
theorem flat_calls (p q : Pr) (w : World) : Calls Tryd.prog 55 #[p.v, q.v] w (Ret (.bool (flatP p q)) w) := by
  obtain ⟨op, col, cm, ⟨nl, i, str⟩, kd, pat, ka, kc, kids⟩ := p
  obtain ⟨op2, col2, cm2, ⟨nl2, i2, str2⟩, kd2, pat2, ka2, kc2, kids2⟩ := q
  simp only [Pr.v, encPr, flatP, Pr.op, Pr.col, Pr.cmp, Pr.val, Pr.kind, Pr.pat, Pr.ka, Pr.kc, Pr.kids]
  go_enter Tryd.func55, Tryd.ntmps55
  go_wp2_with fail
  all_goals
    go_ret
    refine ⟨?_, by go_grown⟩
    simp_all

def barePr (p : Pr) : Pr :=
  if p.op = 2 then .mk p.op p.col p.cmp p.val p.kind ByteArray.empty none 0 []
  else if p.op = 3 then .mk p.op p.col 0 ⟨false, 0, ByteArray.empty⟩ 0 ByteArray.empty none 0 []
  else if p.op = 4 then .mk p.op p.col 0 ⟨false, 0, ByteArray.empty⟩ 0 p.pat none 0 []
  else .mk p.op ByteArray.empty 0 ⟨false, 0, ByteArray.empty⟩ 0 ByteArray.empty none 0 []

set_option maxHeartbeats 1600000 in
theorem bare_calls (p : Pr) (w : World) : Calls Tryd.prog 56 #[p.v] w (Ret (barePr p).v w) := by
  obtain ⟨op, col, cm, ⟨nl, i, str⟩, kd, pat, ka, kc, kids⟩ := p
  by_cases h2 : op = 2
  · subst h2
    simp only [barePr, Pr.op, if_true, if_false, show ¬((3 : Int) = 2) by decide, show ¬((4 : Int) = 2) by decide, show ¬((4 : Int) = 3) by decide]
    simp only [Pr.v, encPr, Pr.op, Pr.col, Pr.cmp, Pr.val, Pr.kind, Pr.pat, Pr.ka, Pr.kc, Pr.kids]
    go_enter Tryd.func56, Tryd.ntmps56
    go_wp2_with fail
    go_region
    all_goals go_wp2_with fail
    all_goals go_returns
    all_goals exact ⟨rfl, by go_grown⟩
  by_cases h3 : op = 3
  · subst h3
    simp only [barePr, Pr.op, if_true, if_false, show ¬((3 : Int) = 2) by decide, show ¬((4 : Int) = 2) by decide, show ¬((4 : Int) = 3) by decide]
    simp only [Pr.v, encPr, Pr.op, Pr.col, Pr.cmp, Pr.val, Pr.kind, Pr.pat, Pr.ka, Pr.kc, Pr.kids]
    go_enter Tryd.func56, Tryd.ntmps56
    go_wp2_with fail
    go_returns
    exact ⟨rfl, by go_grown⟩
  by_cases h4 : op = 4
  · subst h4
    simp only [barePr, Pr.op, if_true, if_false, show ¬((3 : Int) = 2) by decide, show ¬((4 : Int) = 2) by decide, show ¬((4 : Int) = 3) by decide]
    simp only [Pr.v, encPr, Pr.op, Pr.col, Pr.cmp, Pr.val, Pr.kind, Pr.pat, Pr.ka, Pr.kc, Pr.kids]
    go_enter Tryd.func56, Tryd.ntmps56
    go_wp2_with fail
    go_region
    all_goals go_wp2_with fail
    all_goals go_returns
    all_goals exact ⟨rfl, by go_grown⟩
  · have e : barePr (.mk op col cm ⟨nl, i, str⟩ kd pat ka kc kids) = .mk op ByteArray.empty 0 ⟨false, 0, ByteArray.empty⟩ 0 ByteArray.empty none 0 [] := by
      simp [barePr, Pr.op, h2, h3, h4]
    rw [e]
    clear e
    simp only [Pr.v, encPr, Pr.op, Pr.col, Pr.cmp, Pr.val, Pr.kind, Pr.pat, Pr.ka, Pr.kc, Pr.kids]
    go_enter Tryd.func56, Tryd.ntmps56
    go_wp2_with fail
    all_goals go_returns
    all_goals exact ⟨rfl, by go_grown⟩
end Go.Proofs.YthhjhlodgfdlgaaDoor
