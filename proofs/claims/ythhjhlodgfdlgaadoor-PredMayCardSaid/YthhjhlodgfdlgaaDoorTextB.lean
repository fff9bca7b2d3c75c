import Derived.Test.YthhjhlodgfdlgaaDoorTextA
set_option linter.unusedVariables false
set_option linter.unusedSimpArgs false
namespace Go.Proofs.YthhjhlodgfdlgaaDoor
open Go Go.RowKit Go.Proofs.YthhjhlodgfdlgaaDoorW.PrintLast

theorem blkCell2 {W : World} {k : Nat} {cs : Array Value} {t : TypeId} {fr : Nat × Nat} (h : W.heap[k]? = some (.cells cs t fr)) : ∀ o, W.cell? ⟨k, o, none⟩ = cs[o]? := by
  intro o
  simp [World.cell?, h]
theorem lit_cells (W : World) (xs : List ByteArray) (t : TypeId) : ∀ (j : Nat) (x : ByteArray), xs[j]? = some x → (W.alloc (.cells (xs.map Value.string).toArray t)).cell? ⟨W.heap.size, 0 + j, none⟩ = some (.string x) := by
  intro j x h
  have := blkCell2 (alloc_last W (.cells (xs.map Value.string).toArray t)) (0 + j)
  rw [this]
  simp [h]

def TextPost (d : Nat) : Prop := ∀ (p : Pr) (w : World), InPr w p → StdOk w → TxtOk d p → Calls Tryd.prog 28 #[p.v] w (Ret (.string (textB d p)) w)

set_option maxHeartbeats 1000000 in
set_option maxRecDepth 100000 in
theorem within_of (d : Nat) (H : TextPost d) (hd : d ≤ 6) (p : Pr) (must : Bool) (w : World) (hp : InPr w p) (hs : StdOk w) (ht : TxtOk d p) :
    Calls Tryd.prog 49 #[p.v, .bool must] w (Ret (.string (wrapB (textB d p) must)) w) := by
  have hB1 := (Below.refl w.heap.size w).alloc (Nat.le_refl _) (Obj.cells (encPr p).toArray 26)
  have hc := H p _ (hp.low hB1) (hs.low hB1) ht
  have hz := textB_size d p hp.i64s ht
  have hb := bnd_le d hd
  have hz2 : (textB d p).size ≤ 4000000000 := by omega
  have hr : Asd (∀ r, r = wrapB (textB d p) must → r = if must then (⟨#[40]⟩ ++ (textB d p)) ++ ⟨#[41]⟩ else textB d p) := ⟨fun r h => h⟩
  have hr2 := hr.out _ rfl
  rw [hr2]
  clear hp hs ht H hz hb hr hr2
  generalize textB d p = t at *
  cases must with
  | true =>
    simp only [if_true]
    have hq := Asd.mk (Eq.refl ((⟨#[40]⟩ : ByteArray) ++ t ++ ⟨#[41]⟩))
    obtain ⟨op, col, cm, ⟨nl, i, str⟩, kd, pat, ka, kc, kids⟩ := p
    simp only [Pr.v, encPr, Pr.op, Pr.col, Pr.cmp, Pr.val, Pr.kind, Pr.pat, Pr.ka, Pr.kc, Pr.kids] at *
    go_enter Tryd.func49, Tryd.ntmps49
    go_wp2_with fail
    go_call hc as e w1 ⟨rfl, hb1⟩
    go_wp2_with fail
    all_goals try (exfalso; omega)
    go_ret
    exact ⟨rfl, bnext hB1 hb1⟩
  | false =>
    simp only [Bool.false_eq_true, if_false]
    obtain ⟨op, col, cm, ⟨nl, i, str⟩, kd, pat, ka, kc, kids⟩ := p
    simp only [Pr.v, encPr, Pr.op, Pr.col, Pr.cmp, Pr.val, Pr.kind, Pr.pat, Pr.ka, Pr.kc, Pr.kids] at *
    go_enter Tryd.func49, Tryd.ntmps49
    go_wp2_with fail
    go_call hc as e w1 ⟨rfl, hb1⟩
    go_wp2_with fail
    go_ret
    exact ⟨rfl, bnext hB1 hb1⟩

set_option maxHeartbeats 1000000 in
set_option maxRecDepth 100000 in
theorem text_1 (d : Nat) (p : Pr) (w : World) (hp : InPr w p) (ho : p.op = 1) : Calls Tryd.prog 28 #[p.v] w (Ret (.string (textB (d + 1) p)) w) := by
  have hr : textB (d + 1) p = ⟨#[97, 108, 108]⟩ := by rw [textB, if_pos ho]
  rw [hr]
  clear hr hp
  obtain ⟨op, col, cm, ⟨nl, i, str⟩, kd, pat, ka, kc, kids⟩ := p
  simp only [Pr.v, encPr, Pr.op, Pr.col, Pr.cmp, Pr.val, Pr.kind, Pr.pat, Pr.ka, Pr.kc, Pr.kids] at *
  subst ho
  go_enter Tryd.func28, Tryd.ntmps28
  go_wp2_with fail
  go_ret
  exact ⟨rfl, by go_grown⟩

set_option maxHeartbeats 1000000 in
set_option maxRecDepth 100000 in
theorem text_3 (d : Nat) (p : Pr) (w : World) (hp : InPr w p) (ho : p.op = 3) (ht : TxtOk (d + 1) p) : Calls Tryd.prog 28 #[p.v] w (Ret (.string (textB (d + 1) p)) w) := by
  have hr : textB (d + 1) p = p.col ++ ⟨#[32, 105, 115, 32, 110, 117, 108, 108]⟩ := by rw [textB, if_neg (by omega), if_neg (by omega), if_pos ho]
  rw [hr]
  have hcz := ht.2.2.2.2.1
  clear hr hp ht
  obtain ⟨op, col, cm, ⟨nl, i, str⟩, kd, pat, ka, kc, kids⟩ := p
  simp only [Pr.v, encPr, Pr.op, Pr.col, Pr.cmp, Pr.val, Pr.kind, Pr.pat, Pr.ka, Pr.kc, Pr.kids] at *
  subst ho
  go_enter Tryd.func28, Tryd.ntmps28
  go_wp2_with fail
  all_goals try (exfalso; omega)
  go_ret
  exact ⟨rfl, by go_grown⟩

set_option maxHeartbeats 2000000 in
set_option maxRecDepth 100000 in
theorem text_4 (d : Nat) (p : Pr) (w : World) (hp : InPr w p) (hs : StdOk w) (ho : p.op = 4) (ht : TxtOk (d + 1) p) : Calls Tryd.prog 28 #[p.v] w (Ret (.string (textB (d + 1) p)) w) := by
  have hr : textB (d + 1) p = (p.col ++ ⟨#[32, 108, 105, 107, 101, 32]⟩) ++ quoteB p.pat := by rw [textB, if_neg (by omega), if_neg (by omega), if_neg (by omega), if_pos ho]
  rw [hr]
  have hcz := ht.2.2.2.2.1
  have hpz := ht.2.2.2.2.2.1
  have hB1 := (Below.refl w.heap.size w).alloc (Nat.le_refl _) (Obj.cells (encPr p).toArray 26)
  have hq := quote_calls p.pat (w.alloc (Obj.cells (encPr p).toArray 26)).drew (by omega) (hs.low hB1.drew)
  have hqz := quoteB_size p.pat
  have hqz2 : (quoteB p.pat).size ≤ 202 := by omega
  clear hr hp ht hqz
  generalize quoteB p.pat = qb at *
  obtain ⟨op, col, cm, ⟨nl, i, str⟩, kd, pat, ka, kc, kids⟩ := p
  simp only [Pr.v, encPr, Pr.op, Pr.col, Pr.cmp, Pr.val, Pr.kind, Pr.pat, Pr.ka, Pr.kc, Pr.kids] at *
  have hkeep : ∀ W, Below (w.alloc (Obj.cells #[Value.int IntKind.i64 op, Value.string col, Value.int IntKind.i64 cm, Value.bool nl, Value.int IntKind.i64 i, Value.string str, Value.int IntKind.i64 kd, Value.string pat, Value.slice ka kids.length kc] 26)).heap.size (w.alloc (Obj.cells #[Value.int IntKind.i64 op, Value.string col, Value.int IntKind.i64 cm, Value.bool nl, Value.int IntKind.i64 i, Value.string str, Value.int IntKind.i64 kd, Value.string pat, Value.slice ka kids.length kc] 26)) W → (W.cell? ⟨w.heap.size, 1, none⟩ = some (.string col) ∧ W.cell? ⟨w.heap.size, 7, none⟩ = some (.string pat)) := by
    intro W hW
    have g2 := fun o => hW.cell (p := ⟨w.heap.size, o, none⟩) (by simp)
    exact ⟨by rw [g2]; simp, by rw [g2]; simp⟩
  have HKEEP := Asd.mk hkeep
  clear hkeep
  subst ho
  have hcat1 : (9223372036854775807 < col.size + 6) = False := by simp; omega
  have hcat2 : (9223372036854775807 < col.size + 6 + qb.size) = False := by simp; omega
  go_enter Tryd.func28, Tryd.ntmps28
  go_wp2_with fail
  refine start_ (n := 8) (S := fun w' => w'.cell? ⟨w.heap.size, 1, none⟩ = some (.string col) ∧ w'.cell? ⟨w.heap.size, 7, none⟩ = some (.string pat)) (ds := []) #[false, false, false, false, false, false, false, false] (by kernel_rfl) rfl rfl ⟨(HKEEP.out _ (Below.refl _ _).drew).1, (HKEEP.out _ (Below.refl _ _).drew).2⟩ (fun hHeld => ?_)
  refine pure_ (i := 0) (N := some 32) (v := ?_) (a' := ?_) #[true, false, false, false, false, false, false, false] rfl rfl (by kernel_rfl) (fun _ _ _ h => h) (Or.inl ⟨by rfl, ?_⟩) ?_ ?_
  rotate_left
  · intro w'
    go_simp
    with_reducible rfl
  rotate_left
  · simp only [Act.put, List.setIfInBounds_toArray, List.set_cons_zero, List.set_cons_succ, i64_w, i32_w]
    rfl
  refine pure_ (i := 3) (N := some 35) (v := ?_) (a' := ?_) #[true, false, false, true, false, false, false, false] rfl rfl (by kernel_rfl) (fun _ _ _ h => h) (Or.inl ⟨by rfl, ?_⟩) ?_ ?_
  rotate_left
  · intro w'
    go_simp
    with_reducible rfl
  rotate_left
  · simp only [Act.put, List.setIfInBounds_toArray, List.set_cons_zero, List.set_cons_succ, i64_w, i32_w]
    rfl
  refine take_ (i := 1) (N := some 33) (v := ?_) (a' := ?_) #[true, true, false, true, false, false, false, false] rfl rfl (by kernel_rfl) (fun _ _ _ h => h) (Or.inl ⟨by rfl, ?_⟩) hHeld ?_ ?_
  rotate_left
  · rintro w' ⟨s0, s1⟩
    go_simp
    with_reducible rfl
  rotate_left
  · simp only [Act.put, List.setIfInBounds_toArray, List.set_cons_zero, List.set_cons_succ, i64_w, i32_w]
    rfl
  refine pure_ (i := 2) (N := some 34) (v := ?_) (a' := ?_) #[true, true, true, true, false, false, false, false] rfl rfl (by kernel_rfl) (fun _ _ _ h => h) (Or.inl ⟨by rfl, ?_⟩) ?_ ?_
  rotate_left
  · intro w'
    go_simp
    with_reducible rfl
  rotate_left
  · simp only [Act.put, List.setIfInBounds_toArray, List.set_cons_zero, List.set_cons_succ, i64_w, i32_w]
    rfl
  refine take_ (i := 4) (N := some 36) (v := ?_) (a' := ?_) #[true, true, true, true, true, false, false, false] rfl rfl (by kernel_rfl) (fun _ _ _ h => h) (Or.inl ⟨by rfl, ?_⟩) hHeld ?_ ?_
  rotate_left
  · rintro w' ⟨s0, s1⟩
    go_simp
    with_reducible rfl
  rotate_left
  · simp only [Act.put, List.setIfInBounds_toArray, List.set_cons_zero, List.set_cons_succ, i64_w, i32_w]
    rfl
  refine one_ (i := 5) (N := some 37) #[true, true, true, true, true, true, false, false] rfl rfl (by kernel_rfl) (by decide) (fun K hK => ?_)
  refine goes_ Tryd.func22 (by kernel_rfl) rfl #[.string pat] (by rfl) rfl rfl (by simp only [List.map_toArray, List.map_cons, List.map_nil]; rfl) ?_
  with_reducible refine (hq).mono ?_
  rintro e w2 ⟨rfl, hb2⟩
  refine ⟨_, rfl, ?_⟩
  refine hK.out _ _ ⟨(HKEEP.out _ (bundrew hb2)).1, (HKEEP.out _ (bundrew hb2)).2⟩ (fun hHeld => ?_)
  clear hK K
  refine norm_ (a' := ?_) ?_ ?_
  rotate_left
  · show Act.put _ (some 37) _ = _
    simp only [Act.put, List.setIfInBounds_toArray, List.set_cons_zero, List.set_cons_succ, i64_w, i32_w]
    rfl
  refine pure_ (i := 6) (N := some 38) (v := ?_) (a' := ?_) #[true, true, true, true, true, true, true, false] rfl rfl (by kernel_rfl) (fun _ _ _ h => h) (Or.inl ⟨by rfl, ?_⟩) ?_ ?_
  rotate_left
  · intro w'
    go_simp
    with_reducible rfl
  rotate_left
  · simp only [Act.put, List.setIfInBounds_toArray, List.set_cons_zero, List.set_cons_succ, i64_w, i32_w]
    rfl
  refine pure_ (i := 7) (N := some 2) (v := ?_) (a' := ?_) #[true, true, true, true, true, true, true, true] rfl rfl (by kernel_rfl) (fun _ _ _ h => h) (Or.inl ⟨by rfl, ?_⟩) ?_ ?_
  rotate_left
  · intro w'
    go_simp
    with_reducible rfl
  rotate_left
  · simp only [Act.put, List.setIfInBounds_toArray, List.set_cons_zero, List.set_cons_succ, i64_w, i32_w]
    rfl
  refine done_ (by kernel_rfl) ?_
  go_wp2_with fail
  go_ret
  exact ⟨rfl, bnext hB1 (bundrew hb2)⟩
end Go.Proofs.YthhjhlodgfdlgaaDoor
