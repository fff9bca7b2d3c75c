import Derived.Test.YthhjhlodgfdlgaaDoorKids
import Derived.Test.YthhjhlodgfdlgaaDoorCell
set_option linter.unusedVariables false
set_option linter.unusedSimpArgs false
namespace Go.Proofs.YthhjhlodgfdlgaaDoor
open Go Go.RowKit

set_option maxHeartbeats 2000000 in
theorem kids_calls (p : Pr) (w : World) (hp : RowAt w p.ka p.kids) : Calls Tryd.prog 37 #[p.v] w (Ret (.bool (kidsP p)) w) := by
  have eg := enters_of Tryd.func60 (by kernel_rfl) rfl
  have hl := fun W => list_calls p W
  have hB1 := (Below.refl w.heap.size w).alloc (Nat.le_refl _) (Obj.cells (encPr p).toArray 26)
  have hbig := hp.big
  by_cases h1 : listP p = true
  · have hk : kidsP p = (decide (2 ≤ p.kids.length) && !p.kids.any (fun k => k.op == p.op)) := by simp [kidsP, h1]
    rw [hk]
    by_cases h2 : 2 ≤ p.kids.length
    · have hany : Asd (∀ W, Below w.heap.size w W → W.cell? ⟨w.heap.size, 0, none⟩ = some (.int .i64 p.op) → w.heap.size < W.heap.size → Calls Tryd.prog 59 #[.slice p.ka p.kids.length p.kc, .func (.func 60) #[] #[.pointer (some ⟨w.heap.size, 0, none⟩)]] W (Ret (.bool (p.kids.any (fun k => k.op == p.op))) W)) :=
        ⟨fun W hb hc hlt => anyPr_calls _ _ eg _ _ _ _ _ (fun W' x hb' _ => kids1_calls x p.op _ W' (Nat.lt_of_lt_of_le hlt hb'.size) ((hb'.cell (p := ⟨_, _, none⟩) hlt).trans hc)) (hp.low hb)⟩
      rw [h1] at hl
      clear hk h1 hp
      obtain ⟨op, col, cm, ⟨nl, i, str⟩, kd, pat, ka, kc, kids⟩ := p
      simp only [Pr.v, encPr, Pr.op, Pr.col, Pr.cmp, Pr.val, Pr.kind, Pr.pat, Pr.ka, Pr.kc, Pr.kids] at *
      generalize kids.any (fun k => k.op == op) = r at *
      have h2' : decide ((2 : Int) ≤ (kids.length : Int)) = true := by simp; omega
      go_enter Tryd.func37, Tryd.ntmps37
      go_wp2_with fail
      go_call (hl _) as e w1 ⟨rfl, hb1⟩
      obtain ⟨hc1, hf1⟩ := bcell hb1
      have hBw1 := hB1.trans (hb1.mono (by simp))
      have hany1 := hany.out w1 hBw1 (by rw [hc1 _ _ (by simp)]; simp) (by have := hb1.size; simp at this; omega)
      clear hany
      go_wp2_with fail
      go_call hany1 as e w2 ⟨rfl, hb2⟩
      go_wp2_with fail
      all_goals go_ret
      all_goals exact ⟨by simp_all, hBw1.trans (hb2.mono (by have := hb1.size; simp at this; omega))⟩
    · rw [show decide (2 ≤ p.kids.length) = false by simpa using h2, Bool.false_and]
      rw [h1] at hl
      clear hk h1 hp eg
      obtain ⟨op, col, cm, ⟨nl, i, str⟩, kd, pat, ka, kc, kids⟩ := p
      simp only [Pr.v, encPr, Pr.op, Pr.col, Pr.cmp, Pr.val, Pr.kind, Pr.pat, Pr.ka, Pr.kc, Pr.kids] at *
      have h2' : decide ((2 : Int) ≤ (kids.length : Int)) = false := by simp; omega
      go_enter Tryd.func37, Tryd.ntmps37
      go_wp2_with fail
      go_call (hl _) as e w1 ⟨rfl, hb1⟩
      obtain ⟨hc1, hf1⟩ := bcell hb1
      have hBw1 := hB1.trans (hb1.mono (by simp))
      go_wp2_with fail
      all_goals go_ret
      all_goals exact ⟨by simp_all, hBw1⟩
  · have h1' : listP p = false := by simpa using h1
    have hk : kidsP p = if p.op = 5 then (p.kids.length : Int) == 1 else (p.kids.length : Int) == 0 := by simp [kidsP, h1']
    rw [hk]
    rw [h1'] at hl
    clear hk h1 hp eg h1'
    by_cases h5 : p.op = 5
    · rw [if_pos h5]
      obtain ⟨op, col, cm, ⟨nl, i, str⟩, kd, pat, ka, kc, kids⟩ := p
      simp only [Pr.v, encPr, Pr.op, Pr.col, Pr.cmp, Pr.val, Pr.kind, Pr.pat, Pr.ka, Pr.kc, Pr.kids] at *
      subst h5
      go_enter Tryd.func37, Tryd.ntmps37
      go_wp2_with fail
      go_call (hl _) as e w1 ⟨rfl, hb1⟩
      obtain ⟨hc1, hf1⟩ := bcell hb1
      have hBw1 := hB1.trans (hb1.mono (by simp))
      go_wp2_with fail
      all_goals go_ret
      all_goals exact ⟨by first | rfl | (simp; omega) | simp_all, hBw1⟩
    · rw [if_neg h5]
      obtain ⟨op, col, cm, ⟨nl, i, str⟩, kd, pat, ka, kc, kids⟩ := p
      simp only [Pr.v, encPr, Pr.op, Pr.col, Pr.cmp, Pr.val, Pr.kind, Pr.pat, Pr.ka, Pr.kc, Pr.kids] at *
      go_enter Tryd.func37, Tryd.ntmps37
      go_wp2_with fail
      go_call (hl _) as e w1 ⟨rfl, hb1⟩
      obtain ⟨hc1, hf1⟩ := bcell hb1
      have hBw1 := hB1.trans (hb1.mono (by simp))
      go_wp2_with fail
      all_goals go_ret
      all_goals exact ⟨by first | rfl | (simp; omega) | simp_all, hBw1⟩
end Go.Proofs.YthhjhlodgfdlgaaDoor
