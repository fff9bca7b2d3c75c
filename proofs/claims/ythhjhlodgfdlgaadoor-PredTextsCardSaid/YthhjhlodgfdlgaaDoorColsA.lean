import Derived.Test.YthhjhlodgfdlgaaDoorEvery2
import Derived.Test.YthhjhlodgfdlgaaDoorMay
import Derived.Test.YthhjhlodgfdlgaaDoorTextE
set_option linter.unusedVariables false
set_option linter.unusedSimpArgs false
namespace Go.Proofs.YthhjhlodgfdlgaaDoor
open Go Go.RowKit Go.Proofs.YthhjhlodgfdlgaaDoorW.PrintWords

theorem own_of_block {w w' : World} {base : Nat} {e : TypeId} {size n : Nat} {v : Value} {xs : List Value} (h : w.ownsRow base e size v n xs) (hb : ∀ g, v.ownBlock = some g → w'.heap[g]? = w.heap[g]?) : w'.ownsRow base e size v n xs := by
  refine ⟨h.1, ?_⟩
  rcases h.2 with h1 | ⟨g, cap, cur, rfl, h2, h3, h4⟩
  · exact .inl h1
  · exact .inr ⟨g, cap, cur, rfl, h2, (hb g rfl).trans h3, h4⟩
/-- A row of texts of the call's own. -/
def OwnS (B : Nat) (w : World) (v : Value) (xs : List ByteArray) : Prop := w.ownsRow B 9 1 v (xs.map Value.string).length (xs.map Value.string)
theorem OwnS.nil (B : Nat) (w : World) : OwnS B w (.slice none 0 0) [] := World.ownsRow_nil _ _ _ _
theorem OwnS.shape {B : Nat} {w : World} {v : Value} {xs : List ByteArray} (h : OwnS B w v xs) : ∃ a c, v = .slice a xs.length c := by
  rcases h.2 with ⟨rfl, h2⟩ | ⟨g, cap, cur, rfl, _⟩
  · rw [List.length_map] at h2
    exact ⟨none, 0, by rw [h2]⟩
  · exact ⟨_, _, by rw [List.length_map]⟩
theorem OwnS.contains {B : Nat} {w : World} {v : Value} {xs : List ByteArray} (h : OwnS B w v xs) (x : ByteArray) (hl : xs.length ≤ 9223372036854775807) :
    Calls Tryd.prog 34 #[v, .string x] w fun e w' => e = .returned (.bool (Lib.containsS xs x)) ∧ w' = w := by
  rcases h.2 with ⟨rfl, h2⟩ | ⟨g, cap, cur, rfl, hrest⟩
  · rw [List.length_map] at h2
    obtain rfl := List.eq_nil_of_length_eq_zero h2
    exact Tryd.slices_Contains_string_empty none 0 x w
  · have hc := World.ownsRow.cells h (g := g) rfl
    have := Tryd.slices_Contains_string g 0 xs.length cap xs x w (Nat.le_refl _) hl (fun j hj => by
      have h2 := hc j (.string (xs.getD j ByteArray.empty)) (by simp [hj])
      have ha : (⟨g, 0, none⟩ : Addr).add j = ⟨g, 0 + j, none⟩ := by unfold Addr.add; split <;> simp_all
      rwa [ha] at h2)
    rw [List.take_length] at this
    rw [List.length_map]
    exact this
theorem Stp.grown {L L' : List Nat} {W W' : World} {row : Option Nat} (hg : W.grownBy W' row) (hr : ∀ k, row = some k → k ∈ L) (hn : ∀ k, k ∈ L' → k ∈ L ∨ W.heap.size ≤ k) : Stp L L' W W' :=
  ⟨hg.os, hg.tape, hg.output, hg.size, fun k hk hm => hg.block k hk (fun e => hm (hr k e.symm)), hn⟩

def addC (xs : List ByteArray) (c : ByteArray) : List ByteArray := if c.toList = [] then xs else if Lib.containsS xs c = true then xs else xs ++ [c]
def colsF (xs : List ByteArray) (p : Pr) : List ByteArray × Bool := (addC xs p.col, true)
theorem addC_len (xs : List ByteArray) (c : ByteArray) : (addC xs c).length ≤ xs.length + 1 := by
  unfold addC
  repeat' split
  all_goals simp

/-- A variable that holds names. -/
def OutAt (bn : Nat) (xs : List ByteArray) (L : List Nat) (W : World) : Prop :=
  ∃ v, W.heap[bn]? = some (.cells #[v] 33 (0, 0)) ∧ OwnS (bn + 1) W v xs ∧ L = bn :: v.ownBlock.toList
theorem outAt_held (bn : Nat) : Held (OutAt bn) where
  keep := by
    rintro xs L W W' ⟨v, h1, h2, rfl⟩ hk _
    exact ⟨v, (hk bn (by simp)).trans h1, own_of_block h2 (fun g hg => hk g (by simp [hg])), rfl⟩
  lt := by
    rintro xs L W ⟨v, h1, h2, rfl⟩ k hk
    simp at hk
    rcases hk with rfl | hk
    · exact (Array.getElem?_eq_some_iff.1 h1).1
    · exact (World.ownsRow.lt h2 k hk).2

set_option maxHeartbeats 4000000 in
set_option maxRecDepth 100000 in
theorem cols1_calls (w0 : World) (bn : Nat) (xs : List ByteArray) (L : List Nat) (W : World) (p : Pr) (hB : Below w0.heap.size w0 W) (hL : ∀ k, k ∈ L → w0.heap.size ≤ k) (hp : InPr w0 p) (hm : xs.length < 100000000) (hs : OutAt bn xs L W) :
    Calls Tryd.prog 33 #[p.v, .pointer (some ⟨bn, 0, none⟩)] W (EveryPost (OutAt bn) (colsF xs p) L W) := by
  have hHeld := outAt_held bn
  have hs2 := hHeld.alloc hs (Obj.cells (encPr p).toArray 26)
  have hbn := hHeld.lt xs L W hs bn (by obtain ⟨v, _, _, rfl⟩ := hs; simp)
  have hcf : colsF xs p = (addC xs p.col, true) := rfl
  rw [hcf]
  clear hcf
  obtain ⟨v, hv, hown, rfl⟩ := hs
  have hS0 := Asd.mk (Stp.of_below (L := bn :: v.ownBlock.toList) ((Below.refl _ W).alloc (Nat.le_refl _) (Obj.cells (encPr p).toArray 26)))
  by_cases h0 : p.col.toList = []
  · have hr : addC xs p.col = xs := by rw [addC, if_pos h0]
    rw [hr]
    have HS := Asd.mk hs2
    clear hr hs2 hp hHeld
    obtain ⟨op, col, cm, ⟨nl, i, str⟩, kd, pat, ka, kc, kids⟩ := p
    simp only [Pr.v, encPr, Pr.op, Pr.col, Pr.cmp, Pr.val, Pr.kind, Pr.pat, Pr.ka, Pr.kc, Pr.kids] at *
    have h0' : col.toList.isEmpty = true := by simpa using h0
    go_enter Tryd.func33, Tryd.ntmps33
    go_wp2_with fail
    go_ret
    exact ⟨rfl, _, hS0.out, HS.out⟩
  · have hcon := OwnS.contains (World.ownsRow.alloc hown (Obj.cells (encPr p).toArray 26)) p.col (by omega)
    have hcell : W.cell? ⟨bn, 0, none⟩ = some v := by simp [World.cell?, hv]
    have hr : addC xs p.col = if Lib.containsS xs p.col = true then xs else xs ++ [p.col] := by rw [addC, if_neg h0]
    rw [hr]
    clear hr
    cases hcv : Lib.containsS xs p.col with
    | true =>
      rw [hcv] at hcon
      simp only [if_true]
      have HS := Asd.mk hs2
      have hne : bn ≠ W.heap.size := by omega
      clear hs2 hp hHeld hcv
      obtain ⟨op, col, cm, ⟨nl, i, str⟩, kd, pat, ka, kc, kids⟩ := p
      simp only [Pr.v, encPr, Pr.op, Pr.col, Pr.cmp, Pr.val, Pr.kind, Pr.pat, Pr.ka, Pr.kc, Pr.kids] at *
      have h0' : col.toList.isEmpty = false := by simpa using h0
      go_enter Tryd.func33, Tryd.ntmps33
      go_wp2_with fail
      go_call hcon as e w1 ⟨rfl, rfl⟩
      go_wp2_with fail
      go_ret
      exact ⟨rfl, _, hS0.out, HS.out⟩
    | false =>
      rw [hcv] at hcon
      simp only [Bool.false_eq_true, if_false]
      have hne : bn ≠ W.heap.size := by omega
      have HO := Asd.mk (World.ownsRow.alloc hown (Obj.cells (encPr p).toArray 26))
      have hlow := Asd.mk (fun g h => (World.ownsRow.lt hown g h).1)
      have HV := Asd.mk ((Below.heap_alloc W (Obj.cells (encPr p).toArray 26) bn hbn).trans hv)
      clear hs2 hp hHeld hcv hown hv
      obtain ⟨op, col, cm, ⟨nl, i, str⟩, kd, pat, ka, kc, kids⟩ := p
      simp only [Pr.v, encPr, Pr.op, Pr.col, Pr.cmp, Pr.val, Pr.kind, Pr.pat, Pr.ka, Pr.kc, Pr.kids] at *
      have h0' : col.toList.isEmpty = false := by simpa using h0
      go_enter Tryd.func33, Tryd.ntmps33
      go_wp2_with fail
      go_call hcon as e w1 ⟨rfl, rfl⟩
      go_wp2_with (first
        | (at_builtin; refine print_append (bn + 1) rfl (.tmp 14) (.tmp 17) 33 9 (.string ByteArray.empty) 16 rfl Tryd.underlying33 info_str rfl (by decide) v (xs.map Value.string) (.string col) rfl (by rw [World.size_alloc]; rfl) rfl HO.out (Below.refl _ _) (by simp; omega) (by simp; omega) ?_; intro v1 w2 hown1 _ hg1 hat1; obtain ⟨a1, c1, he1⟩ := own_slice hown1; generalize hn1 : (xs.map Value.string ++ [Value.string col]).length = n1 at he1 hown1; have HN := Asd.mk hn1; clear hn1; subst he1; have hv2 := (hg1.block bn (by simp; omega) (fun e => by have := hlow.out bn e.symm; omega)).trans HV.out; have hc2 : w2.cell? ⟨bn, 0, none⟩ = some v := (by simp [World.cell?, hv2]); have hf2 : w2.frozen? ⟨bn, 0, none⟩ = false := (by simp [World.frozen?, hv2]); have HO1 := Asd.mk hown1; have HG1 := Asd.mk hg1; have HAT := Asd.mk hat1; have HV2 := Asd.mk hv2; clear hown1 hg1 hat1 hv2))
      go_ret
      have hlow1 := fun g h => (World.ownsRow.lt HO1.out g h).1
      refine ⟨rfl, bn :: (Value.slice a1 n1 c1).ownBlock.toList, ?_, .slice a1 n1 c1, ?_, ?_, rfl⟩
      · refine (hS0.out.trans (Stp.grown HG1.out (fun k hk => by simp [hk]) ?_)).setCell (by simp) _
        intro k hk
        simp at hk
        rcases hk with rfl | hk
        · exact .inl (by simp)
        · rcases HAT.out with h | ⟨b, h, hb⟩
          · rw [h] at hk; exact .inl (by simp [hk])
          · rw [h] at hk; cases hk; exact .inr hb
      · simp [World.setCell, Array.getElem?_modify, HV2.out]
      · have h3 : OwnS (bn + 1) w2 (.slice a1 n1 c1) (xs ++ [col]) := by
          have e : (List.map Value.string (xs ++ [col])).length = n1 := by rw [← HN.out]; simp
          show w2.ownsRow _ _ _ _ _ _
          rw [e, List.map_append]
          exact HO1.out
        exact own_of_block h3 (fun g hg => Below.heap_setCell _ _ _ _ (fun e => by have := hlow1 g hg; simp at e; omega))
end Go.Proofs.YthhjhlodgfdlgaaDoor
