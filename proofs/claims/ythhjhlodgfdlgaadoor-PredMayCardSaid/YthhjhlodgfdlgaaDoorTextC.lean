import Derived.Test.YthhjhlodgfdlgaaDoorTextB
set_option linter.unusedVariables false
set_option linter.unusedSimpArgs false
namespace Go.Proofs.YthhjhlodgfdlgaaDoor
open Go Go.RowKit Go.Proofs.YthhjhlodgfdlgaaDoorW.PrintLast

theorem join3_calls (a b c : ByteArray) (W : World) (h : (joinB [a, b, c] ⟨#[32]⟩).size ≤ 140737488355328) :
    Calls Tryd.prog 47 #[.slice (some ⟨W.heap.size, 0, none⟩) 3 3, .string ⟨#[32]⟩] (W.alloc (.cells #[.string a, .string b, .string c] 9)) (Ret (.string (joinB [a, b, c] ⟨#[32]⟩)) (W.alloc (.cells #[.string a, .string b, .string c] 9))) :=
  Tryd.strings_Join W.heap.size 0 3 [a, b, c] ⟨#[32]⟩ _ (lit_cells W [a, b, c] 9) (by simp) (by simp) (by simp) h

set_option maxHeartbeats 4000000 in
set_option maxRecDepth 100000 in
theorem text_2 (d : Nat) (p : Pr) (w : World) (hp : InPr w p) (hs : StdOk w) (ho : p.op = 2) (ht : TxtOk (d + 1) p) : Calls Tryd.prog 28 #[p.v] w (Ret (.string (textB (d + 1) p)) w) := by
  have hr : textB (d + 1) p = joinB [p.col, signB p.cmp, valueB p.kind p.val] ⟨#[32]⟩ := by rw [textB, if_neg (by omega), if_pos ho]
  rw [hr]
  have hcz := ht.2.2.2.2.1
  have hsz := ht.2.2.2.2.2.2.1
  obtain ⟨hc1, hc6⟩ := ht.2.1 ho
  have hB1 := (Below.refl w.heap.size w).alloc (Nat.le_refl _) (Obj.cells (encPr p).toArray 26)
  have hv := value_calls p.kind p.val (w.alloc (Obj.cells (encPr p).toArray 26)).drew hp.fine.vi (by omega) (hs.low hB1.drew)
  have hg := sign_calls p.cmp (w.alloc (Obj.cells (encPr p).toArray 26)).drew hc1 hc6
  have hvz := valueB_size p.kind p.val hp.fine.vi
  have hsg := signB_size p.cmp
  have hjz : (joinB [p.col, signB p.cmp, valueB p.kind p.val] ⟨#[32]⟩).size ≤ 140737488355328 := by
    have := joinB_size [p.col, signB p.cmp, valueB p.kind p.val] ⟨#[32]⟩ 240 (by
      intro x hx
      simp at hx
      rcases hx with rfl | rfl | rfl <;> omega)
    have e2 : (⟨#[32]⟩ : ByteArray).size = 1 := rfl
    simp at this
    omega
  have hj := Asd.mk (fun W => join3_calls p.col (signB p.cmp) (valueB p.kind p.val) W hjz)
  clear hr hp ht hvz hsg hjz hs
  generalize valueB p.kind p.val = vb at *
  generalize signB p.cmp = sb at *
  generalize joinB [p.col, sb, vb] ⟨#[32]⟩ = r at *
  obtain ⟨op, col, cm, ⟨nl, i, str⟩, kd, pat, ka, kc, kids⟩ := p
  simp only [Pr.v, encPr, Pr.op, Pr.col, Pr.cmp, Pr.val, Pr.kind, Pr.pat, Pr.ka, Pr.kc, Pr.kids, Ce.v, encCe] at *
  have hkeep : ∀ W, Below (w.alloc (Obj.cells #[Value.int IntKind.i64 op, Value.string col, Value.int IntKind.i64 cm, Value.bool nl, Value.int IntKind.i64 i, Value.string str, Value.int IntKind.i64 kd, Value.string pat, Value.slice ka kids.length kc] 26)).heap.size (w.alloc (Obj.cells #[Value.int IntKind.i64 op, Value.string col, Value.int IntKind.i64 cm, Value.bool nl, Value.int IntKind.i64 i, Value.string str, Value.int IntKind.i64 kd, Value.string pat, Value.slice ka kids.length kc] 26)) W → (W.cell? ⟨w.heap.size, 1, none⟩ = some (.string col) ∧ W.cell? ⟨w.heap.size, 2, none⟩ = some (.int .i64 cm) ∧ W.cell? ⟨w.heap.size, 3, none⟩ = some (.bool nl) ∧ W.cell? ⟨w.heap.size, 4, none⟩ = some (.int .i64 i) ∧ W.cell? ⟨w.heap.size, 5, none⟩ = some (.string str) ∧ W.cell? ⟨w.heap.size, 6, none⟩ = some (.int .i64 kd)) := by
    intro W hW
    have g2 := fun o => hW.cell (p := ⟨w.heap.size, o, none⟩) (by simp)
    refine ⟨?_, ?_, ?_, ?_, ?_, ?_⟩ <;> (rw [g2]; simp)
  have HKEEP := Asd.mk hkeep
  clear hkeep
  subst ho
  go_enter Tryd.func28, Tryd.ntmps28
  go_wp2_with fail
  refine start_ (n := 13) (S := fun w' => w'.cell? ⟨w.heap.size, 1, none⟩ = some (.string col) ∧ w'.cell? ⟨w.heap.size, 2, none⟩ = some (.int .i64 cm) ∧ w'.cell? ⟨w.heap.size, 3, none⟩ = some (.bool nl) ∧ w'.cell? ⟨w.heap.size, 4, none⟩ = some (.int .i64 i) ∧ w'.cell? ⟨w.heap.size, 5, none⟩ = some (.string str) ∧ w'.cell? ⟨w.heap.size, 6, none⟩ = some (.int .i64 kd)) (ds := []) #[false, false, false, false, false, false, false, false, false, false, false, false, false] (by kernel_rfl) rfl rfl ⟨(HKEEP.out _ (Below.refl _ _).drew).1, (HKEEP.out _ (Below.refl _ _).drew).2.1, (HKEEP.out _ (Below.refl _ _).drew).2.2.1, (HKEEP.out _ (Below.refl _ _).drew).2.2.2.1, (HKEEP.out _ (Below.refl _ _).drew).2.2.2.2.1, (HKEEP.out _ (Below.refl _ _).drew).2.2.2.2.2⟩ (fun hHeld => ?_)
  refine pure_ (i := 0) (N := some 13) (v := ?_) (a' := ?_) #[true, false, false, false, false, false, false, false, false, false, false, false, false] rfl rfl (by kernel_rfl) (fun _ _ _ h => h) (Or.inl ⟨by rfl, ?_⟩) ?_ ?_
  rotate_left
  · intro w'
    go_simp
    with_reducible rfl
  rotate_left
  · simp only [Act.put, List.setIfInBounds_toArray, List.set_cons_zero, List.set_cons_succ, i64_w, i32_w]
    rfl
  refine pure_ (i := 2) (N := some 15) (v := ?_) (a' := ?_) #[true, false, true, false, false, false, false, false, false, false, false, false, false] rfl rfl (by kernel_rfl) (fun _ _ _ h => h) (Or.inl ⟨by rfl, ?_⟩) ?_ ?_
  rotate_left
  · intro w'
    go_simp
    with_reducible rfl
  rotate_left
  · simp only [Act.put, List.setIfInBounds_toArray, List.set_cons_zero, List.set_cons_succ, i64_w, i32_w]
    rfl
  refine pure_ (i := 5) (N := some 18) (v := ?_) (a' := ?_) #[true, false, true, false, false, true, false, false, false, false, false, false, false] rfl rfl (by kernel_rfl) (fun _ _ _ h => h) (Or.inl ⟨by rfl, ?_⟩) ?_ ?_
  rotate_left
  · intro w'
    go_simp
    with_reducible rfl
  rotate_left
  · simp only [Act.put, List.setIfInBounds_toArray, List.set_cons_zero, List.set_cons_succ, i64_w, i32_w]
    rfl
  refine pure_ (i := 7) (N := some 20) (v := ?_) (a' := ?_) #[true, false, true, false, false, true, false, true, false, false, false, false, false] rfl rfl (by kernel_rfl) (fun _ _ _ h => h) (Or.inl ⟨by rfl, ?_⟩) ?_ ?_
  rotate_left
  · intro w'
    go_simp
    with_reducible rfl
  rotate_left
  · simp only [Act.put, List.setIfInBounds_toArray, List.set_cons_zero, List.set_cons_succ, i64_w, i32_w]
    rfl
  refine take_ (i := 1) (N := some 14) (v := ?_) (a' := ?_) #[true, true, true, false, false, true, false, true, false, false, false, false, false] rfl rfl (by kernel_rfl) (fun _ _ _ h => h) (Or.inl ⟨by rfl, ?_⟩) hHeld ?_ ?_
  rotate_left
  · rintro w' ⟨s0, s1, s2, s3, s4, s5⟩
    go_simp
    with_reducible rfl
  rotate_left
  · simp only [Act.put, List.setIfInBounds_toArray, List.set_cons_zero, List.set_cons_succ, i64_w, i32_w]
    rfl
  refine take_ (i := 3) (N := some 16) (v := ?_) (a' := ?_) #[true, true, true, true, false, true, false, true, false, false, false, false, false] rfl rfl (by kernel_rfl) (fun _ _ _ h => h) (Or.inl ⟨by rfl, ?_⟩) hHeld ?_ ?_
  rotate_left
  · rintro w' ⟨s0, s1, s2, s3, s4, s5⟩
    go_simp
    with_reducible rfl
  rotate_left
  · simp only [Act.put, List.setIfInBounds_toArray, List.set_cons_zero, List.set_cons_succ, i64_w, i32_w]
    rfl
  refine take_ (i := 6) (N := some 19) (v := ?_) (a' := ?_) #[true, true, true, true, false, true, true, true, false, false, false, false, false] rfl rfl (by kernel_rfl) (fun _ _ _ h => h) (Or.inl ⟨by rfl, ?_⟩) hHeld ?_ ?_
  rotate_left
  · rintro w' ⟨s0, s1, s2, s3, s4, s5⟩
    go_simp
    with_reducible rfl
  rotate_left
  · simp only [Act.put, List.setIfInBounds_toArray, List.set_cons_zero, List.set_cons_succ, i64_w, i32_w]
    rfl
  refine take_ (i := 8) (N := some 21) (v := ?_) (a' := ?_) #[true, true, true, true, false, true, true, true, true, false, false, false, false] rfl rfl (by kernel_rfl) (fun _ _ _ h => h) (Or.inl ⟨by rfl, ?_⟩) hHeld ?_ ?_
  rotate_left
  · rintro w' ⟨s0, s1, s2, s3, s4, s5⟩
    go_simp
    with_reducible rfl
  rotate_left
  · simp only [Act.put, List.setIfInBounds_toArray, List.set_cons_zero, List.set_cons_succ, i64_w, i32_w]
    rfl
  refine one_ (i := 4) (N := some 17) #[true, true, true, true, true, true, true, true, true, false, false, false, false] rfl rfl (by kernel_rfl) (by decide) (fun K hK => ?_)
  refine goes_ Tryd.func48 (by kernel_rfl) rfl #[.int .i64 cm] (by rfl) rfl rfl (by simp only [List.map_toArray, List.map_cons, List.map_nil]; rfl) ?_
  with_reducible refine (hg).mono ?_
  rintro e w2 ⟨rfl, rfl⟩
  refine ⟨_, rfl, ?_⟩
  refine hK.out _ _ ⟨(HKEEP.out _ (Below.refl _ _).drew).1, (HKEEP.out _ (Below.refl _ _).drew).2.1, (HKEEP.out _ (Below.refl _ _).drew).2.2.1, (HKEEP.out _ (Below.refl _ _).drew).2.2.2.1, (HKEEP.out _ (Below.refl _ _).drew).2.2.2.2.1, (HKEEP.out _ (Below.refl _ _).drew).2.2.2.2.2⟩ (fun hHeld => ?_)
  clear hK K
  refine norm_ (a' := ?_) ?_ ?_
  rotate_left
  · show Act.put _ (some 17) _ = _
    simp only [Act.put, List.setIfInBounds_toArray, List.set_cons_zero, List.set_cons_succ, i64_w, i32_w]
    rfl
  refine one_ (i := 9) (N := some 22) #[true, true, true, true, true, true, true, true, true, true, false, false, false] rfl rfl (by kernel_rfl) (by decide) (fun K hK => ?_)
  refine goes_ Tryd.func10 (by kernel_rfl) rfl #[.int .i64 kd, .agg #[.bool nl, .int .i64 i, .string str]] (by rfl) rfl rfl (by simp only [List.map_toArray, List.map_cons, List.map_nil]; rfl) ?_
  with_reducible refine (hv).mono ?_
  rintro e w3 ⟨rfl, hb3⟩
  refine ⟨_, rfl, ?_⟩
  refine hK.out _ _ ⟨(HKEEP.out _ (bundrew hb3)).1, (HKEEP.out _ (bundrew hb3)).2.1, (HKEEP.out _ (bundrew hb3)).2.2.1, (HKEEP.out _ (bundrew hb3)).2.2.2.1, (HKEEP.out _ (bundrew hb3)).2.2.2.2.1, (HKEEP.out _ (bundrew hb3)).2.2.2.2.2⟩ (fun hHeld => ?_)
  clear hK K
  refine norm_ (a' := ?_) ?_ ?_
  rotate_left
  · show Act.put _ (some 22) _ = _
    simp only [Act.put, List.setIfInBounds_toArray, List.set_cons_zero, List.set_cons_succ, i64_w, i32_w]
    rfl
  refine one_ (i := 10) (N := some 23) #[true, true, true, true, true, true, true, true, true, true, true, false, false] rfl rfl (by kernel_rfl) (by decide) (fun K hK => ?_)
  refine value_ (w1 := ?_) (v := ?_) (by rfl) rfl ?_ ?_
  rotate_left 2
  · go_simp
    constructor
    · rfl
    · rfl
  refine hK.out _ _ ⟨(HKEEP.out _ ((bundrew hb3).alloc hb3.size _)).1, (HKEEP.out _ ((bundrew hb3).alloc hb3.size _)).2.1, (HKEEP.out _ ((bundrew hb3).alloc hb3.size _)).2.2.1, (HKEEP.out _ ((bundrew hb3).alloc hb3.size _)).2.2.2.1, (HKEEP.out _ ((bundrew hb3).alloc hb3.size _)).2.2.2.2.1, (HKEEP.out _ ((bundrew hb3).alloc hb3.size _)).2.2.2.2.2⟩ (fun hHeld => ?_)
  clear hK K
  refine norm_ (a' := ?_) ?_ ?_
  rotate_left
  · show Act.put _ (some 23) _ = _
    simp only [Act.put, List.setIfInBounds_toArray, List.set_cons_zero, List.set_cons_succ, i64_w, i32_w]
    rfl
  refine one_ (i := 11) (N := some 24) #[true, true, true, true, true, true, true, true, true, true, true, true, false] rfl rfl (by kernel_rfl) (by decide) (fun K hK => ?_)
  refine goes_ Tryd.func47 (by kernel_rfl) rfl #[.slice (some ⟨w3.heap.size, 0, none⟩) 3 3, .string ⟨#[32]⟩] (by rfl) rfl rfl (by simp only [List.map_toArray, List.map_cons, List.map_nil]; rfl) ?_
  with_reducible refine (hj.out w3).mono ?_
  rintro e w4 ⟨rfl, hb4⟩
  refine ⟨_, rfl, ?_⟩
  have hB4 := ((bundrew hb3).alloc hb3.size _).trans (hb4.mono (by have := hb3.size; simp at this ⊢; omega))
  refine hK.out _ _ ⟨(HKEEP.out _ hB4).1, (HKEEP.out _ hB4).2.1, (HKEEP.out _ hB4).2.2.1, (HKEEP.out _ hB4).2.2.2.1, (HKEEP.out _ hB4).2.2.2.2.1, (HKEEP.out _ hB4).2.2.2.2.2⟩ (fun hHeld => ?_)
  clear hK K
  refine norm_ (a' := ?_) ?_ ?_
  rotate_left
  · show Act.put _ (some 24) _ = _
    simp only [Act.put, List.setIfInBounds_toArray, List.set_cons_zero, List.set_cons_succ, i64_w, i32_w]
    rfl
  refine pure_ (i := 12) (N := some 2) (v := ?_) (a' := ?_) #[true, true, true, true, true, true, true, true, true, true, true, true, true] rfl rfl (by kernel_rfl) (fun _ _ _ h => h) (Or.inl ⟨by rfl, ?_⟩) ?_ ?_
  rotate_left
  · intro w'
    go_simp
    with_reducible rfl
  rotate_left
  · simp only [Act.put, List.setIfInBounds_toArray, List.set_cons_zero, List.set_cons_succ, i64_w, i32_w]
    rfl
  refine done_ (by kernel_rfl) ?_
  go_wp2_with fail
  go_ret
  exact ⟨rfl, bnext hB1 (((bundrew hb3).alloc hb3.size _).trans (hb4.mono (by have := hb3.size; simp at this ⊢; omega)))⟩
end Go.Proofs.YthhjhlodgfdlgaaDoor
