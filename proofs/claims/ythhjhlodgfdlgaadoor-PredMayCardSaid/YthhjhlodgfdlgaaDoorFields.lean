import Derived.Test.YthhjhlodgfdlgaaDoorKids2
set_option linter.unusedVariables false
set_option linter.unusedSimpArgs false
namespace Go.Proofs.YthhjhlodgfdlgaaDoor
open Go Go.RowKit

def fieldsP (p : Pr) : Bool :=
  flatP p (barePr p) &&
  (if p.op = 1 then true
  else if p.op = 2 then nameB p.col && decide (1 ≤ p.cmp) && decide (p.cmp ≤ 6) && mayC p.kind false p.val
  else if p.op = 3 then nameB p.col
  else if p.op = 4 then nameB p.col && decide ((p.pat.size : Int) ≤ 40)
  else decide (5 ≤ p.op) && decide (p.op ≤ 7))

set_option maxHeartbeats 2000000 in
theorem fields_calls (p : Pr) (w : World) (h1 : p.col.size ≤ 9223372036854775807) (h2 : p.val.s.size ≤ 9223372036854775807) : Calls Tryd.prog 36 #[p.v] w (Ret (.bool (fieldsP p)) w) := by
  have hba := fun W => bare_calls p W
  have hfl := fun W => flat_calls p (barePr p) W
  have hna := fun W => name_calls p.col W h1
  have hce := fun W => cellMay_calls p.kind false p.val W h2
  have hk : fieldsP p = _ := fieldsP.eq_def p
  have hB1 := (Below.refl w.heap.size w).alloc (Nat.le_refl _) (Obj.cells (encPr p).toArray 26)
  have hbv : (barePr p).v = .agg (encPr (barePr p)).toArray := rfl
  generalize barePr p = q at *
  rw [hk]
  clear hk
  generalize flatP p q = fb at *
  have hr : Asd (fb = true → (fb && (if p.op = 1 then true
  else if p.op = 2 then nameB p.col && decide (1 ≤ p.cmp) && decide (p.cmp ≤ 6) && mayC p.kind false p.val
  else if p.op = 3 then nameB p.col
  else if p.op = 4 then nameB p.col && decide ((p.pat.size : Int) ≤ 40)
  else decide (5 ≤ p.op) && decide (p.op ≤ 7))) = (if p.op = 1 then true
  else if p.op = 2 then nameB p.col && decide (1 ≤ p.cmp) && decide (p.cmp ≤ 6) && mayC p.kind false p.val
  else if p.op = 3 then nameB p.col
  else if p.op = 4 then nameB p.col && decide ((p.pat.size : Int) ≤ 40)
  else decide (5 ≤ p.op) && decide (p.op ≤ 7))) := ⟨fun h => by rw [h, Bool.true_and]⟩
  have hr0 : fb = false → (fb && (if p.op = 1 then true
  else if p.op = 2 then nameB p.col && decide (1 ≤ p.cmp) && decide (p.cmp ≤ 6) && mayC p.kind false p.val
  else if p.op = 3 then nameB p.col
  else if p.op = 4 then nameB p.col && decide ((p.pat.size : Int) ≤ 40)
  else decide (5 ≤ p.op) && decide (p.op ≤ 7))) = false := fun h => by rw [h, Bool.false_and]
  generalize (fb && (if p.op = 1 then true
  else if p.op = 2 then nameB p.col && decide (1 ≤ p.cmp) && decide (p.cmp ≤ 6) && mayC p.kind false p.val
  else if p.op = 3 then nameB p.col
  else if p.op = 4 then nameB p.col && decide ((p.pat.size : Int) ≤ 40)
  else decide (5 ≤ p.op) && decide (p.op ≤ 7))) = r at *
  have hR0 := Asd.mk hr0
  clear hr0
  generalize nameB p.col = nb at *
  generalize mayC p.kind false p.val = mb at *
  obtain ⟨op, col, cm, ⟨nl, i, str⟩, kd, pat, ka, kc, kids⟩ := p
  obtain ⟨op2, col2, cm2, ⟨nl2, i2, str2⟩, kd2, pat2, ka2, kc2, kids2⟩ := q
  simp only [Pr.v, encPr, Ce.v, encCe, Pr.op, Pr.col, Pr.cmp, Pr.val, Pr.kind, Pr.pat, Pr.ka, Pr.kc, Pr.kids] at *
  go_enter Tryd.func36, Tryd.ntmps36
  go_upto_region 1 with fail
  go_cut [7] (fun s7 wx => s7 = .bool (!fb) ∧ Below (w.heap.size + 1) (w.alloc (Obj.cells #[Value.int IntKind.i64 op, Value.string col, Value.int IntKind.i64 cm, Value.bool nl, Value.int IntKind.i64 i, Value.string str, Value.int IntKind.i64 kd, Value.string pat, Value.slice ka kids.length kc] 26)) wx)
  case first =>
    go_region_with (first | (go_at_call 56; refine (hba _).mono ?_; rintro e w1 ⟨rfl, hb1⟩; obtain ⟨hc1, hf1⟩ := bcell hb1) | (go_at_call 55; refine (hfl _).mono ?_; rintro e w2 ⟨rfl, hb2⟩))
    all_goals go_wp2_with fail
    all_goals go_meet
    all_goals exact ⟨rfl, ((Below.refl _ _).drew.trans (hb1.trans (hb2.mono hb1.size))).mono (by simp)⟩
  case rest =>
    obtain ⟨rfl, hb⟩ := hcut
    clear hba hfl
    obtain ⟨hc1, hf1⟩ := bcell hb
    have hBx := hB1.trans (hb.mono (by omega))
    have hsz := hb.size
    simp at hsz
    have hlt : w.heap.size < wc.heap.size := by omega
    cases fb with
    | false =>
      obtain rfl := hR0.out rfl
      go_wp2_with fail
      go_ret
      exact ⟨rfl, hBx⟩
    | true =>
      have h := hr.out rfl
      clear hr hR0
      by_cases e1 : op = 1
      · simp only [e1, if_true] at h
        subst h
        subst e1
        go_wp2_with fail
        go_ret
        exact ⟨rfl, hBx⟩
      by_cases e2 : op = 2
      · subst e2
        simp only [e1, if_false, if_true] at h
        clear e1
        cases nb <;> by_cases q1 : 1 ≤ cm <;> by_cases q2 : cm ≤ 6 <;> simp [q1, q2] at h <;> subst h
        all_goals go_wp2_with (first | (go_at_call 57; refine (hna _).mono ?_; rintro e w3 ⟨rfl, hb3⟩; obtain ⟨hc3, hf3⟩ := bcell hb3) | (go_at_call 58; refine (hce _).mono ?_; rintro e w4 ⟨rfl, hb4⟩))
        all_goals go_ret
        all_goals refine ⟨rfl, ?_⟩
        all_goals repeat (first | exact hBx | refine bnext ?_ (by assumption))
      by_cases e3 : op = 3
      · subst e3
        simp only [e1, e2, if_false, if_true] at h
        subst h
        clear e1 e2
        go_wp2_with (first | (go_at_call 57; refine (hna _).mono ?_; rintro e w3 ⟨rfl, hb3⟩; obtain ⟨hc3, hf3⟩ := bcell hb3) | (go_at_call 58; refine (hce _).mono ?_; rintro e w4 ⟨rfl, hb4⟩))
        go_ret
        exact ⟨rfl, bnext hBx hb3⟩
      by_cases e4 : op = 4
      · subst e4
        simp only [e1, e2, e3, if_false, if_true] at h
        clear e1 e2 e3
        cases nb <;> by_cases q1 : (pat.size : Int) ≤ 40 <;> simp [q1] at h <;> subst h
        all_goals go_wp2_with (first | (go_at_call 57; refine (hna _).mono ?_; rintro e w3 ⟨rfl, hb3⟩; obtain ⟨hc3, hf3⟩ := bcell hb3) | (go_at_call 58; refine (hce _).mono ?_; rintro e w4 ⟨rfl, hb4⟩))
        all_goals go_ret
        all_goals refine ⟨by simp_all, ?_⟩
        all_goals repeat (first | exact hBx | refine bnext ?_ (by assumption))
      simp only [e1, e2, e3, e4, if_false] at h
      by_cases q1 : 5 ≤ op <;> by_cases q2 : op ≤ 7 <;> simp [q1, q2] at h <;> subst h
      all_goals go_wp2_with fail
      all_goals go_ret
      all_goals exact ⟨by simp_all, hBx⟩
end Go.Proofs.YthhjhlodgfdlgaaDoor
