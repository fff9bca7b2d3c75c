import Derived.Test.YthhjhlodgfdlgaaDoorKids
set_option linter.unusedVariables false
set_option linter.unusedSimpArgs false
namespace Go.Proofs.YthhjhlodgfdlgaaDoor
open Go Go.RowKit

def smallF : Nat → Pr → Bool
  | 0, _ => false
  | m + 1, p => !decide (20 < p.kids.length) && !decide (100 < p.col.size) && !decide (100 < p.pat.size) && !decide (100 < p.val.s.size) && p.kids.all (smallF m)

set_option maxHeartbeats 1000000 in
theorem refSmall_calls (m : Nat) : ∀ (p : Pr) (w : World), InPr w p → m ≤ 1000 → Calls Tryd.prog 6 #[p.v, .int .i64 m] w (Ret (.bool (smallF m p)) w) := by
  induction m with
  | zero =>
    intro p w hp _
    obtain ⟨op, col, cm, ⟨nl, i, str⟩, kd, pat, ka, kc, kids⟩ := p
    simp only [smallF, Pr.v, encPr, Pr.op, Pr.col, Pr.cmp, Pr.val, Pr.kind, Pr.pat, Pr.ka, Pr.kc, Pr.kids] at *
    clear hp
    go_enter Tryd.func6, Tryd.ntmps6
    go_wp2_with fail
    go_ret
    exact ⟨rfl, by go_grown⟩
  | succ m ih =>
    intro p w hp hm
    have hB1 := (Below.refl w.heap.size w).alloc (Nat.le_refl _) (Obj.cells (encPr p).toArray 26)
    have IH := Asd.mk ih
    have hrow := Asd.mk hp.row
    have hall := Asd.mk hp.all
    have hbig := hp.row.big
    have q1 := hp.fine.col
    have q2 := hp.fine.pat
    have q3 := hp.fine.vs
    clear ih hp
    by_cases hg : (20 < p.kids.length ∨ 100 < p.col.size) ∨ (100 < p.pat.size ∨ 100 < p.val.s.size)
    · have hr : smallF (m + 1) p = false := by
        rw [smallF]
        rcases hg with (h | h) | (h | h) <;> simp [h]
      rw [hr]
      clear hr
      obtain ⟨op, col, cm, ⟨nl, i, str⟩, kd, pat, ka, kc, kids⟩ := p
      simp only [Pr.v, encPr, Pr.op, Pr.col, Pr.cmp, Pr.val, Pr.kind, Pr.pat, Pr.ka, Pr.kc, Pr.kids] at *
      go_enter Tryd.func6, Tryd.ntmps6
      go_wp2_with fail
      all_goals first
        | (go_ret; exact ⟨rfl, by go_grown⟩)
        | (exfalso; omega)
    · have hr : smallF (m + 1) p = p.kids.all (smallF m) := by
        have h1 : ¬ 20 < p.kids.length := by omega
        have h2 : ¬ 100 < p.col.size := by omega
        have h3 : ¬ 100 < p.pat.size := by omega
        have h4 : ¬ 100 < p.val.s.size := by omega
        rw [smallF]; simp [h1, h2, h3, h4]
      rw [hr]
      have hT : Asd ((∀ j, (hj : j < p.kids.length) → smallF m p.kids[j] = true) → p.kids.all (smallF m) = true) := ⟨fun h => by
        rw [List.all_eq_true]; intro x hx; obtain ⟨j, hj, rfl⟩ := List.getElem_of_mem hx; exact h j hj⟩
      have hF : Asd (∀ j, (hj : j < p.kids.length) → smallF m p.kids[j] = false → p.kids.all (smallF m) = false) := ⟨fun j hj h => by
        rw [List.all_eq_false]; exact ⟨_, List.getElem_mem hj, by simp [h]⟩⟩
      generalize p.kids.all (smallF m) = r at *
      clear hr
      have h1 : (p.kids.length : Int) ≤ 20 := by omega
      have h2 : (p.col.size : Int) ≤ 100 := by omega
      have h3 : (p.pat.size : Int) ≤ 100 := by omega
      have h4 : (p.val.s.size : Int) ≤ 100 := by omega
      clear hg
      obtain ⟨op, col, cm, ⟨nl, i, str⟩, kd, pat, ka, kc, kids⟩ := p
      simp only [Pr.v, encPr, Pr.op, Pr.col, Pr.cmp, Pr.val, Pr.kind, Pr.pat, Pr.ka, Pr.kc, Pr.kids] at *
      go_enter Tryd.func6, Tryd.ntmps6
      go_wp2_with fail
      go_loopw [5] (fun v wr => ∃ k : Nat, v = .int .i64 k ∧ k ≤ kids.length ∧ Asd (Below (w.heap.size + 1) (w.alloc (Obj.cells #[Value.int IntKind.i64 op, Value.string col, Value.int IntKind.i64 cm, Value.bool nl, Value.int IntKind.i64 i, Value.string str, Value.int IntKind.i64 kd, Value.string pat, Value.slice ka kids.length kc] 26)) wr)
        ∧ Asd (∀ j, (hj : j < kids.length) → j < k → smallF m kids[j] = true)) (fun v _ => kids.length - (intOf v).toNat)
      case atStart => exact ⟨0, rfl, Nat.zero_le _, ⟨Below.refl _ _⟩, ⟨fun j hj h => absurd h (by omega)⟩⟩
      case round =>
        obtain ⟨k, rfl, hk, hB, hpre⟩ := hrel
        have hBw := hB1.trans (hB.out.mono (by omega))
        have hp1 := fun o => (bcell hB.out).1 w.heap.size o (by omega)
        by_cases hlt : k < kids.length
        · obtain ⟨b, off, rfl, hbl, hcs⟩ := hrow.out.at_ (by omega)
          obtain ⟨c0, c1, c2, c3, c4, c5, c6, c7, c8⟩ := prCells (o := off + k * 9) hBw hbl (hcs k hlt)
          have hcall := IH.out kids[k] wr ((hall.out _ (List.getElem_mem hlt)).low hBw) (by omega)
          have hpk := hpre.out
          have hFk := hF.out k hlt
          have hstep : Asd (smallF m kids[k] = true → ∀ j, (hj : j < kids.length) → j < k + 1 → smallF m kids[j] = true) := ⟨fun h j hj hjk => by
            by_cases e : j = k
            · subst e; exact h
            · exact hpk j hj (by omega)⟩
          clear hcs hpk
          generalize hy : smallF m kids[k] = sy at *
          generalize kids[k] = y at *
          clear hy
          try simp only [Pr.v, encPr] at hcall
          cases sy with
          | false =>
            obtain rfl := hFk rfl
            clear hFk hstep
            go_wp2_with fail
            go_call hcall as e w1 ⟨rfl, hb1⟩
            go_wp2_with fail
            go_ret
            exact ⟨rfl, bnext hBw hb1⟩
          | true =>
            have hst := Asd.mk (hstep.out rfl)
            clear hFk hstep
            go_wp2_with fail
            go_call hcall as e w1 ⟨rfl, hb1⟩
            go_wp2_with fail
            go_roundw
            case rel => exact ⟨k + 1, by go_num, by omega, ⟨hB.out.trans (hb1.mono (by have := hB.out.size; simp at this; omega))⟩, hst⟩
            case measure => simp [intOf]; omega
        · obtain rfl := hT.out (fun j hj => hpre.out j hj (by omega))
          go_wp2_with fail
          go_ret
          exact ⟨rfl, hBw⟩
end Go.Proofs.YthhjhlodgfdlgaaDoor
