import Derived.Test.YthhjhlodgfdlgaaDoorTextC
import Derived.Test.YthhjhlodgfdlgaaDoorTextD
import Derived.Test.YthhjhlodgfdlgaaDoorTextE
import Derived.Test.YthhjhlodgfdlgaaDoorMay
set_option linter.unusedVariables false
set_option linter.unusedSimpArgs false
namespace Go.Proofs.YthhjhlodgfdlgaaDoor
open Go Go.RowKit

theorem text_calls (d : Nat) (hd : d ≤ 6) : TextPost d := by
  induction d with
  | zero => intro p w _ _ h; exact h.elim
  | succ d ih =>
    have H := ih (by omega)
    intro p w hp hs ht
    have ho := ht.1
    rcases (show p.op = 1 ∨ p.op = 2 ∨ p.op = 3 ∨ p.op = 4 ∨ p.op = 5 ∨ p.op = 6 ∨ p.op = 7 from by omega) with h | h | h | h | h | h | h
    · exact text_1 d p w hp h
    · exact text_2 d p w hp hs h ht
    · exact text_3 d p w hp h ht
    · exact text_4 d p w hp hs h ht
    · exact text_5 d H (by omega) p w hp hs h ht
    · exact text_6 d H (by omega) p w hp hs h ht
    · exact text_7 d H (by omega) p w hp hs h ht

def predTextB (p : Pr) : ByteArray := if mayP p then textB 6 p else ByteArray.empty
set_option maxHeartbeats 1000000 in
set_option maxRecDepth 100000 in
theorem predText_calls (p : Pr) (w : World) (hp : InPr w p) (hs : StdOk w) (ht : mayP p = true → TxtOk 6 p) : Calls Tryd.prog 8 #[p.v] w (Ret (.string (predTextB p)) w) := by
  have hB1 := (Below.refl w.heap.size w).alloc (Nat.le_refl _) (Obj.cells (encPr p).toArray 26)
  have hm := predMay_calls p _ (hp.low hB1)
  cases hmv : mayP p with
  | true =>
    have hr : predTextB p = textB 6 p := by rw [predTextB, hmv]; rfl
    have htx := fun W (hW : Below w.heap.size w W) => text_calls 6 (by omega) p W (hp.low hW) (hs.low hW) (ht hmv)
    rw [hr]
    rw [hmv] at hm
    clear hr hmv ht hp hs
    generalize textB 6 p = t at *
    obtain ⟨op, col, cm, ⟨nl, i, str⟩, kd, pat, ka, kc, kids⟩ := p
    simp only [Pr.v, encPr, Pr.op, Pr.col, Pr.cmp, Pr.val, Pr.kind, Pr.pat, Pr.ka, Pr.kc, Pr.kids] at *
    have HT := Asd.mk htx
    clear htx
    go_enter Tryd.func8, Tryd.ntmps8
    go_wp2_with fail
    go_call hm as e w1 ⟨rfl, hb1⟩
    have hp1 := fun o => (bcell hb1).1 w.heap.size o (by simp)
    have hB2 := bnext hB1 hb1
    go_wp2_with fail
    go_call (HT.out _ hB2) as e w2 ⟨rfl, hb2⟩
    go_wp2_with fail
    go_ret
    exact ⟨rfl, bnext hB2 hb2⟩
  | false =>
    have hr : predTextB p = ⟨#[]⟩ := by rw [predTextB, hmv]; rfl
    rw [hr]
    rw [hmv] at hm
    clear hr hmv ht hp hs
    obtain ⟨op, col, cm, ⟨nl, i, str⟩, kd, pat, ka, kc, kids⟩ := p
    simp only [Pr.v, encPr, Pr.op, Pr.col, Pr.cmp, Pr.val, Pr.kind, Pr.pat, Pr.ka, Pr.kc, Pr.kids] at *
    go_enter Tryd.func8, Tryd.ntmps8
    go_wp2_with fail
    go_call hm as e w1 ⟨rfl, hb1⟩
    go_wp2_with fail
    go_ret
    exact ⟨rfl, bnext hB1 hb1⟩
end Go.Proofs.YthhjhlodgfdlgaaDoor
