import Derived.Test.YthhjhlodgfdlgaaDoorFields
import Derived.Test.YthhjhlodgfdlgaaDoorEvery
set_option linter.unusedVariables false
set_option linter.unusedSimpArgs false
namespace Go.Proofs.YthhjhlodgfdlgaaDoor
open Go Go.RowKit

/-- A block holds one cell. -/
def OneAt (b : Nat) (t : TypeId) (v : Value) (L : List Nat) (W : World) : Prop := L = [b] ∧ W.heap[b]? = some (.cells #[v] t (0, 0))
theorem oneAt_held {σ : Type} (b : Nat) (t : TypeId) (f : σ → Value) : Held (fun s L W => OneAt b t (f s) L W) where
  keep := by
    rintro s L W W' ⟨rfl, h⟩ hk _
    exact ⟨rfl, (hk b (by simp)).trans h⟩
  lt := by
    rintro s L W ⟨rfl, h⟩ k hk
    simp at hk
    subst hk
    exact (Array.getElem?_eq_some_iff.1 h).1
theorem oneAt_cell {b : Nat} {t : TypeId} {v : Value} {L : List Nat} {W : World} (h : OneAt b t v L W) : W.cell? ⟨b, 0, none⟩ = some v ∧ W.frozen? ⟨b, 0, none⟩ = false := by
  obtain ⟨_, h⟩ := h
  simp [World.cell?, World.frozen?, h]
theorem oneAt_set {b : Nat} {t : TypeId} {v u : Value} {L : List Nat} {W : World} (h : OneAt b t v L W) : OneAt b t u L (W.setCell ⟨b, 0, none⟩ u) := by
  obtain ⟨e, h⟩ := h
  refine ⟨e, ?_⟩
  simp [World.setCell, Array.getElem?_modify, h]
theorem Stp.setCell {L L' : List Nat} {a b : World} (h : Stp L L' a b) {p : Addr} (hp : p.block ∈ L') (u : Value) : Stp L L' a (b.setCell p u) :=
  h.trans ⟨rfl, rfl, rfl, by simp [World.setCell], fun k hk hn => Below.heap_setCell _ _ _ _ (fun e => hn (e ▸ hp)), fun _ h => .inl h⟩

def mayF (n : Int) (p : Pr) : Int × Bool := (wrap64 (n + 1), decide (wrap64 (n + 1) ≤ 16) && fieldsP p && kidsP p)
def mayP (p : Pr) : Bool := (everyF mayF 6 p 0).2

set_option maxHeartbeats 2000000 in
theorem may1_calls (w0 : World) (bn : Nat) (n : Int) (L : List Nat) (W : World) (p : Pr) (hB : Below w0.heap.size w0 W) (hL : ∀ k, k ∈ L → w0.heap.size ≤ k) (hp : InPr w0 p) (hs : OneAt bn 3 (.int .i64 n) L W) :
    Calls Tryd.prog 35 #[p.v, .pointer (some ⟨bn, 0, none⟩)] W (EveryPost (fun n L W => OneAt bn 3 (.int .i64 n) L W) (mayF n p) L W) := by
  have hfi := fun W' => fields_calls p W' hp.fine.col hp.fine.vs
  have hki := fun W' (h : RowAt W' p.ka p.kids) => kids_calls p W' h
  have hrow := hp.row.low hB
  have hHeld := oneAt_held (σ := Int) bn 3 (fun n => .int .i64 n)
  have hbn : bn < W.heap.size := hHeld.lt n L W hs bn (by rw [hs.1]; simp)
  have hS : Stp L L W ((W.setCell ⟨bn, 0, none⟩ (.int .i64 (wrap64 (n + 1)))).alloc (Obj.cells (encPr p).toArray 26)) :=
    ((Stp.refl L W).setCell (by rw [hs.1]; simp) _).alloc _
  have hs2 : OneAt bn 3 (.int .i64 (wrap64 (n + 1))) L _ := hHeld.alloc (s := wrap64 (n + 1)) (oneAt_set hs (u := .int .i64 (wrap64 (n + 1)))) (Obj.cells (encPr p).toArray 26)
  have hm : mayF n p = (wrap64 (n + 1), decide (wrap64 (n + 1) ≤ 16) && fieldsP p && kidsP p) := rfl
  rw [hm]
  obtain ⟨hcb, hfb⟩ := oneAt_cell hs
  obtain ⟨hcb2, hfb2⟩ := oneAt_cell hs2
  have hne : bn ≠ W.heap.size := by omega
  have hrow2 := Asd.mk (fun W' (hb : Below (W.heap.size + 1) ((W.setCell ⟨bn, 0, none⟩ (.int .i64 (wrap64 (n + 1)))).alloc (Obj.cells (encPr p).toArray 26)) W') => hp.row.low (hB.trans ((hS.below hB.size hL).trans (hb.mono (by have := hB.size; omega)))))
  have hfin := Asd.mk (fun W' (hb : Below (W.heap.size + 1) ((W.setCell ⟨bn, 0, none⟩ (.int .i64 (wrap64 (n + 1)))).alloc (Obj.cells (encPr p).toArray 26)) W') (r : Bool) (hr : r = (decide (wrap64 (n + 1) ≤ 16) && fieldsP p && kidsP p)) =>
    (show EveryPost (fun n L W => OneAt bn 3 (.int .i64 n) L W) (wrap64 (n + 1), decide (wrap64 (n + 1) ≤ 16) && fieldsP p && kidsP p) L W (.returned (.bool r)) W' from
      ⟨by rw [hr], L, hS.trans (.of_below (by simpa [World.setCell] using hb)), hHeld.low (s := wrap64 (n + 1)) hs2 (by simpa [World.setCell] using hb)⟩))
  generalize fieldsP p = fb at *
  generalize kidsP p = kb at *
  clear hs hs2 hS hrow hm hp
  have hHH := Asd.mk hHeld
  clear hHeld
  obtain ⟨op, col, cm, ⟨nl, i, str⟩, kd, pat, ka, kc, kids⟩ := p
  simp only [Pr.v, encPr, Pr.op, Pr.col, Pr.cmp, Pr.val, Pr.kind, Pr.pat, Pr.ka, Pr.kc, Pr.kids] at *
  by_cases hle : wrap64 (n + 1) ≤ 16
  · have hle' : decide (wrap64 (n + 1) ≤ 16) = true := by simpa using hle
    go_enter Tryd.func35, Tryd.ntmps35
    go_wp2_with fail
    go_call (hfi _) as e w1 ⟨rfl, hb1⟩
    obtain ⟨hc1, hf1⟩ := bcell hb1
    have hb1' := hb1.mono (B' := W.heap.size + 1) (by simp)
    cases fb
    · go_wp2_with fail
      go_ret
      exact hfin.out _ hb1' _ (by simp [hle])
    · have hrw := hrow2.out _ hb1'
      go_wp2_with fail
      go_call (hki _ hrw) as e w2 ⟨rfl, hb2⟩
      go_wp2_with fail
      go_ret
      exact hfin.out _ (hb1'.trans (hb2.mono (by have := hb1.size; simp at this; omega))) _ (by simp [hle])
  · have hle' : decide (wrap64 (n + 1) ≤ 16) = false := by simpa using hle
    have h3 := Asd.mk (fun W' hb => hfin.out W' hb false (by rw [hle']; rfl))
    simp only [hle', Bool.false_and] at h3
    go_enter Tryd.func35, Tryd.ntmps35
    go_wp2_with fail
    go_ret
    exact h3.out _ (Below.refl _ _)

set_option maxHeartbeats 1000000 in
theorem predMay_calls (p : Pr) (w : World) (hp : InPr w p) : Calls Tryd.prog 17 #[p.v] w (Ret (.bool (mayP p)) w) := by
  have eg := enters_of Tryd.func35 (by kernel_rfl) rfl
  have hHeld := oneAt_held (σ := Int) (w.heap.size + 1) 3 (fun n => .int .i64 n)
  have he : ∀ W, Below w.heap.size w W → OneAt (w.heap.size + 1) 3 (.int .i64 0) [w.heap.size + 1] W → Calls Tryd.prog 32 #[p.v, .int .i64 6, .func (.func 35) #[] #[.pointer (some ⟨w.heap.size + 1, 0, none⟩)]] W
      (EveryPost (fun n L W => OneAt (w.heap.size + 1) 3 (.int .i64 n) L W) (everyF mayF 6 p 0) [w.heap.size + 1] W) :=
    fun W hB hs => every_calls mayF (fun n L W => OneAt (w.heap.size + 1) 3 (.int .i64 n) L W) hHeld 35 #[.pointer (some ⟨w.heap.size + 1, 0, none⟩)] w eg
      ⟨fun s L W p hB hL hp hs => may1_calls w (w.heap.size + 1) s L W p hB hL hp hs⟩ 6 p 0 _ W hp hB (by simp) hs (by decide)
  have hfin := Asd.mk (fun W' (h : EveryPost (fun n L W => OneAt (w.heap.size + 1) 3 (.int .i64 n) L W) (everyF mayF 6 p 0) [w.heap.size + 1] ((w.alloc (Obj.cells (encPr p).toArray 26)).alloc (.cells #[.int .i64 0] 3)) (.returned (.bool (mayP p))) W') =>
    (show Below w.heap.size w W' from by
      obtain ⟨_, L', hS, _⟩ := h
      exact (((Below.refl _ w).alloc (Nat.le_refl _) _).alloc (by simp) _).trans (hS.below (by simp; omega) (by simp))))
  have he1 := he ((w.alloc (Obj.cells (encPr p).toArray 26)).alloc (.cells #[.int .i64 0] 3)) (((Below.refl _ w).alloc (Nat.le_refl _) _).alloc (by simp) _) ⟨rfl, alloc_last2 _ _ _⟩
  clear he hHeld hp
  have hm : (everyF mayF 6 p 0).2 = mayP p := rfl
  have he2 := he1.mono (R' := fun e W' => e = .returned (.bool (mayP p)) ∧ Below w.heap.size w W') (fun e W' h => by
    obtain ⟨he, hL⟩ := h
    rw [hm] at he
    subst he
    exact ⟨rfl, hfin.out W' ⟨by rw [hm], hL⟩⟩)
  clear he1 hfin hm
  generalize mayP p = r at *
  obtain ⟨op, col, cm, ⟨nl, i, str⟩, kd, pat, ka, kc, kids⟩ := p
  simp only [Pr.v, encPr, Pr.op, Pr.col, Pr.cmp, Pr.val, Pr.kind, Pr.pat, Pr.ka, Pr.kc, Pr.kids] at *
  go_enter Tryd.func17, Tryd.ntmps17
  go_wp2_with fail
  go_call he2 as e w1 ⟨rfl, hb1⟩
  go_wp2_with fail
  go_ret
  exact ⟨rfl, hb1⟩
end Go.Proofs.YthhjhlodgfdlgaaDoor
