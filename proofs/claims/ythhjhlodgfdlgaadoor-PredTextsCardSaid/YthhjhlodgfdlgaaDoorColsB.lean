import Derived.Test.YthhjhlodgfdlgaaDoorColsA
set_option linter.unusedVariables false
set_option linter.unusedSimpArgs false
namespace Go.Proofs.YthhjhlodgfdlgaaDoor
open Go Go.RowKit

def colsP (p : Pr) : List ByteArray := (everyF colsF 6 p []).1
theorem cnt_6 : cnt 6 ≤ 10000000 := by decide
def RetS (xs : List ByteArray) (w : World) (e : Ending) (w' : World) : Prop := ∃ v, e = .returned v ∧ OwnS w.heap.size w' v xs ∧ Below w.heap.size w w'
theorem OwnS.less {B B' : Nat} {w : World} {v : Value} {xs : List ByteArray} (h : OwnS B w v xs) (hb : B' ≤ B) : OwnS B' w v xs := by
  refine ⟨h.1, ?_⟩
  rcases h.2 with h1 | ⟨g, cap, cur, rfl, h2, h3⟩
  · exact .inl h1
  · exact .inr ⟨g, cap, cur, rfl, by omega, h3⟩

set_option maxHeartbeats 1000000 in
set_option maxRecDepth 100000 in
theorem predCols_calls (p : Pr) (w : World) (hp : InPr w p) (ht : TxtOk 6 p) : Calls Tryd.prog 14 #[p.v] w (RetS (colsP p) w) := by
  have eg := enters_of Tryd.func33 (by kernel_rfl) rfl
  have he := every2_calls colsF (OutAt (w.heap.size + 1)) (outAt_held _) 33 #[.pointer (some ⟨w.heap.size + 1, 0, none⟩)] w eg List.length 100000000
      ⟨fun xs p => addC_len xs p.col⟩
      ⟨fun s L W p hB hL hp hm hs => cols1_calls w (w.heap.size + 1) s L W p hB hL hp hm hs⟩ 6 p [] [w.heap.size + 1]
      ((w.alloc (Obj.cells (encPr p).toArray 26)).alloc (.cells #[.slice none 0 0] 33)) hp ht (by have := cnt_6; simp; omega)
      (((Below.refl _ w).alloc (Nat.le_refl _) _).alloc (by simp) _) (by simp) ⟨.slice none 0 0, alloc_last2 _ _ _, OwnS.nil _ _, rfl⟩ (by decide)
  have hB2 : Below w.heap.size w ((w.alloc (Obj.cells (encPr p).toArray 26)).alloc (.cells #[.slice none 0 0] 33)) := ((Below.refl _ w).alloc (Nat.le_refl _) _).alloc (by simp) _
  have hc : (everyF colsF 6 p []).1 = colsP p := rfl
  have he2 := he.mono (R' := fun e W' => ∃ b v, e = .returned (.bool b) ∧ W'.cell? ⟨w.heap.size + 1, 0, none⟩ = some v ∧ (∃ a c, v = .slice a (colsP p).length c) ∧ Asd (OwnS w.heap.size W' v (colsP p)) ∧ Asd (Below w.heap.size w W')) (fun e W' h => by
    obtain ⟨he, L', hS, v, hv, hown, _⟩ := h
    rw [hc] at hown
    refine ⟨_, v, he, by simp [World.cell?, hv], hown.shape, ⟨hown.less (by omega)⟩, ⟨?_⟩⟩
    exact hB2.trans (hS.below hB2.size (by simp)))
  clear he hp ht hc eg hB2
  generalize colsP p = xs at *
  obtain ⟨op, col, cm, ⟨nl, i, str⟩, kd, pat, ka, kc, kids⟩ := p
  simp only [Pr.v, encPr, Pr.op, Pr.col, Pr.cmp, Pr.val, Pr.kind, Pr.pat, Pr.ka, Pr.kc, Pr.kids] at *
  go_enter Tryd.func14, Tryd.ntmps14
  go_wp2_with fail
  go_call he2 as e w1 ⟨b, v, rfl, hcv, ⟨a, c, rfl⟩, hO, hB⟩
  go_wp2_with fail
  go_ret
  exact ⟨_, rfl, hO.out, hB.out⟩
end Go.Proofs.YthhjhlodgfdlgaaDoor
