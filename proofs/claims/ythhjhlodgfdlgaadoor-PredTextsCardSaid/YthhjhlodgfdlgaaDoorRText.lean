import Derived.Test.YthhjhlodgfdlgaaDoorRTextB
import Derived.Test.YthhjhlodgfdlgaaDoorRTextC
import Derived.Test.YthhjhlodgfdlgaaDoorRefMay
set_option linter.unusedVariables false
set_option linter.unusedSimpArgs false
namespace Go.Proofs.YthhjhlodgfdlgaaDoor
open Go Go.RowKit

theorem rtext_calls (d : Nat) (hd : d ≤ 6) : RTextPost d := by
  induction d with
  | zero => intro p w _ h; exact h.elim
  | succ d ih =>
    have H := ih (by omega)
    intro p w hp ht
    have ho := ht.1
    rcases (show p.op = 1 ∨ p.op = 2 ∨ p.op = 3 ∨ p.op = 4 ∨ p.op = 5 ∨ p.op = 6 ∨ p.op = 7 from by omega) with h | h | h | h | h | h | h
    · exact rtext_1 d p w hp h
    · exact rtext_2 d p w hp h ht
    · exact rtext_3 d p w hp h ht
    · exact rtext_4 d p w hp h ht
    · exact rtext_5 d H (by omega) p w hp h ht
    · exact rtext_6 d H (by omega) p w hp h ht
    · exact rtext_7 d H (by omega) p w hp h ht

def refTextB (p : Pr) : ByteArray := if mayR p then textB 6 p else ByteArray.empty
set_option maxHeartbeats 1000000 in
set_option maxRecDepth 100000 in
theorem refText_calls (p : Pr) (w : World) (hp : InPr w p) (ht : mayR p = true → TxtOk 6 p) : Calls Tryd.prog 9 #[p.v] w (Ret (.string (refTextB p)) w) := by
  have hB1 := (Below.refl w.heap.size w).alloc (Nat.le_refl _) (Obj.cells (encPr p).toArray 26)
  have hm := refMay_calls p _ (hp.low hB1)
  cases hmv : mayR p with
  | true =>
    have hr : refTextB p = textB 6 p := by rw [refTextB, hmv]; rfl
    have htx := fun W (hW : Below w.heap.size w W) => rtext_calls 6 (by omega) p W (hp.low hW) (ht hmv)
    rw [hr]
    rw [hmv] at hm
    clear hr hmv ht hp
    generalize textB 6 p = t at *
    obtain ⟨op, col, cm, ⟨nl, i, str⟩, kd, pat, ka, kc, kids⟩ := p
    simp only [Pr.v, encPr, Pr.op, Pr.col, Pr.cmp, Pr.val, Pr.kind, Pr.pat, Pr.ka, Pr.kc, Pr.kids] at *
    have HT := Asd.mk htx
    clear htx
    go_enter Tryd.func9, Tryd.ntmps9
    go_wp2_with fail
    go_call hm as e w1 ⟨rfl, hb1⟩
    have hp1 := fun o => (bcell hb1).1 w.heap.size o (by simp)
    have hB2 := bnext hB1 hb1
    go_wp2_with fail
    go_call (HT.out _ hB2) as e w2 ⟨rfl, hb2⟩
    go_wp2_with fail
    go_ret
    exact ⟨rfl, bnext hB2 hb2⟩
  | false =>
    have hr : refTextB p = ⟨#[]⟩ := by rw [refTextB, hmv]; rfl
    rw [hr]
    rw [hmv] at hm
    clear hr hmv ht hp
    obtain ⟨op, col, cm, ⟨nl, i, str⟩, kd, pat, ka, kc, kids⟩ := p
    simp only [Pr.v, encPr, Pr.op, Pr.col, Pr.cmp, Pr.val, Pr.kind, Pr.pat, Pr.ka, Pr.kc, Pr.kids] at *
    go_enter Tryd.func9, Tryd.ntmps9
    go_wp2_with fail
    go_call hm as e w1 ⟨rfl, hb1⟩
    go_wp2_with fail
    go_ret
    exact ⟨rfl, bnext hB1 hb1⟩
end Go.Proofs.YthhjhlodgfdlgaaDoor
