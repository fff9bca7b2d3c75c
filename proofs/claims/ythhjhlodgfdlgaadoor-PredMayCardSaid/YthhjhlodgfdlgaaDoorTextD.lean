import Derived.Test.YthhjhlodgfdlgaaDoorTextB
set_option linter.unusedVariables false
set_option linter.unusedSimpArgs false
namespace Go.Proofs.YthhjhlodgfdlgaaDoor
open Go Go.RowKit Go.Proofs.YthhjhlodgfdlgaaDoorW.PrintLast

set_option maxHeartbeats 4000000 in
set_option maxRecDepth 100000 in
theorem text_5 (d : Nat) (H : TextPost d) (hd : d ≤ 5) (p : Pr) (w : World) (hp : InPr w p) (hs : StdOk w) (ho : p.op = 5) (ht : TxtOk (d + 1) p) : Calls Tryd.prog 28 #[p.v] w (Ret (.string (textB (d + 1) p)) w) := by
  have hB1 := (Below.refl w.heap.size w).alloc (Nat.le_refl _) (Obj.cells (encPr p).toArray 26)
  have hlen := hp.row.big
  have hne := ht.2.2.1 (by omega)
  obtain ⟨b, off, hka, hbl, hcs⟩ := hp.row.at_ hne
  have hr : textB (d + 1) p = (match p.kids with | [] => ByteArray.empty | k :: _ => ⟨#[110, 111, 116, 32]⟩ ++ wrapB (textB d k) (listP k)) := by
    rw [textB, if_neg (by omega), if_neg (by omega), if_neg (by omega), if_neg (by omega), if_pos ho]
    generalize p.kids = l
    cases l <;> rfl
  rw [hr]
  have hall := hp.all
  have htk := ht.2.2.2.2.2.2.2
  clear hr hp ht
  obtain ⟨op, col, cm, ⟨nl, i, str⟩, kd, pat, ka, kc, kids⟩ := p
  simp only [Pr.v, encPr, Pr.op, Pr.col, Pr.cmp, Pr.val, Pr.kind, Pr.pat, Pr.ka, Pr.kc, Pr.kids] at *
  subst hka
  cases kids with
  | nil => simp at hne
  | cons y ks =>
    have hcells := prCells (o := off) hB1 hbl (fun i v h => by have := hcs 0 (by simp) i v h; simpa using this)
    have hInY := hall y (by simp)
    have hwi := within_of d H (by omega) y (listP y)
    have hzy := textB_size d y hInY.i64s (htk y (by simp))
    have hzw := wrapB_size (textB d y) (listP y)
    have hbd := bnd_le d (by omega)
    have hz : (wrapB (textB d y) (listP y)).size ≤ 4000000002 := by omega
    have hty := htk y (by simp)
    have hli := fun W => list_calls y W
    have hks : ks.length + 1 ≤ 9223372036854775807 := by simpa using hlen
    clear hcs hall htk hzy hzw hbd hlen hne
    simp only [List.length_cons] at *
    have HY := Asd.mk hInY
    have HT := Asd.mk hty
    have HS := Asd.mk hs
    clear hInY hty hs
    generalize hlb : listP y = lb at *
    clear hlb
    have hcall : ∀ W, Below w.heap.size w W → Calls Tryd.prog 49 #[y.v, .bool lb] W (Ret (.string (wrapB (textB d y) lb)) W) := fun W hW => hwi W (HY.out.low hW) (HS.out.low hW) HT.out
    clear hwi HY HT HS H
    generalize wrapB (textB d y) lb = yb at *
    obtain ⟨c0, c1, c2, c3, c4, c5, c6, c7, c8⟩ := hcells
    have hkeep : ∀ W, Below (w.heap.size + 1) (w.alloc (Obj.cells #[Value.int IntKind.i64 op, Value.string col, Value.int IntKind.i64 cm, Value.bool nl, Value.int IntKind.i64 i, Value.string str, Value.int IntKind.i64 kd, Value.string pat, Value.slice (some ⟨b, off, none⟩) (ks.length + 1 : Nat) kc] 26)) W → (W.cell? ⟨w.heap.size, 8, none⟩ = some (.slice (some ⟨b, off, none⟩) (ks.length + 1) kc) ∧ W.cell? ⟨b, off, none⟩ = some (.int .i64 y.op) ∧ W.cell? ⟨b, off + 1, none⟩ = some (.string y.col) ∧ W.cell? ⟨b, off + 2, none⟩ = some (.int .i64 y.cmp) ∧ W.cell? ⟨b, off + 3, none⟩ = some (.bool y.val.nl) ∧ W.cell? ⟨b, off + 4, none⟩ = some (.int .i64 y.val.i) ∧ W.cell? ⟨b, off + 5, none⟩ = some (.string y.val.s) ∧ W.cell? ⟨b, off + 6, none⟩ = some (.int .i64 y.kind) ∧ W.cell? ⟨b, off + 7, none⟩ = some (.string y.pat) ∧ W.cell? ⟨b, off + 8, none⟩ = some (.slice y.ka y.kids.length y.kc)) := by
      intro W hW
      have g := fun o => hW.cell (p := ⟨b, o, none⟩) (by show b < w.heap.size + 1; omega)
      have g2 := fun o => hW.cell (p := ⟨w.heap.size, o, none⟩) (by simp)
      refine ⟨?_, (g _).trans c0, (g _).trans c1, (g _).trans c2, (g _).trans c3, (g _).trans c4, (g _).trans c5, (g _).trans c6, (g _).trans c7, (g _).trans c8⟩
      rw [g2]; simp
    have HKEEP := Asd.mk hkeep
    have HB := Asd.mk hB1
    clear hkeep hB1 c0 c1 c2 c3 c4 c5 c6 c7 c8
    have hcat : (9223372036854775807 < 4 + yb.size) = False := by simp; omega
    subst ho
    simp only [Pr.v, encPr] at hcall hli
    go_enter Tryd.func28, Tryd.ntmps28
    go_wp2_with fail
    refine start_ (n := 12) (S := fun w' => w'.cell? ⟨w.heap.size, 8, none⟩ = some (.slice (some ⟨b, off, none⟩) (ks.length + 1) kc) ∧ w'.cell? ⟨b, off, none⟩ = some (.int .i64 y.op) ∧ w'.cell? ⟨b, off + 1, none⟩ = some (.string y.col) ∧ w'.cell? ⟨b, off + 2, none⟩ = some (.int .i64 y.cmp) ∧ w'.cell? ⟨b, off + 3, none⟩ = some (.bool y.val.nl) ∧ w'.cell? ⟨b, off + 4, none⟩ = some (.int .i64 y.val.i) ∧ w'.cell? ⟨b, off + 5, none⟩ = some (.string y.val.s) ∧ w'.cell? ⟨b, off + 6, none⟩ = some (.int .i64 y.kind) ∧ w'.cell? ⟨b, off + 7, none⟩ = some (.string y.pat) ∧ w'.cell? ⟨b, off + 8, none⟩ = some (.slice y.ka y.kids.length y.kc)) (ds := []) #[false, false, false, false, false, false, false, false, false, false, false, false] (by kernel_rfl) rfl rfl ⟨(HKEEP.out _ (Below.refl _ _).drew).1, (HKEEP.out _ (Below.refl _ _).drew).2.1, (HKEEP.out _ (Below.refl _ _).drew).2.2.1, (HKEEP.out _ (Below.refl _ _).drew).2.2.2.1, (HKEEP.out _ (Below.refl _ _).drew).2.2.2.2.1, (HKEEP.out _ (Below.refl _ _).drew).2.2.2.2.2.1, (HKEEP.out _ (Below.refl _ _).drew).2.2.2.2.2.2.1, (HKEEP.out _ (Below.refl _ _).drew).2.2.2.2.2.2.2.1, (HKEEP.out _ (Below.refl _ _).drew).2.2.2.2.2.2.2.2.1, (HKEEP.out _ (Below.refl _ _).drew).2.2.2.2.2.2.2.2.2⟩ (fun hHeld => ?_)
    refine pure_ (i := 0) (N := some 41) (v := ?_) (a' := ?_) #[true, false, false, false, false, false, false, false, false, false, false, false] rfl rfl (by kernel_rfl) (fun _ _ _ h => h) (Or.inl ⟨by rfl, ?_⟩) ?_ ?_
    rotate_left
    · intro w'
      go_simp
      with_reducible rfl
    rotate_left
    · simp only [Act.put, List.setIfInBounds_toArray, List.set_cons_zero, List.set_cons_succ, i64_w, i32_w]
      rfl
    refine pure_ (i := 4) (N := some 45) (v := ?_) (a' := ?_) #[true, false, false, false, true, false, false, false, false, false, false, false] rfl rfl (by kernel_rfl) (fun _ _ _ h => h) (Or.inl ⟨by rfl, ?_⟩) ?_ ?_
    rotate_left
    · intro w'
      go_simp
      with_reducible rfl
    rotate_left
    · simp only [Act.put, List.setIfInBounds_toArray, List.set_cons_zero, List.set_cons_succ, i64_w, i32_w]
      rfl
    refine take_ (i := 1) (N := some 42) (v := ?_) (a' := ?_) #[true, true, false, false, true, false, false, false, false, false, false, false] rfl rfl (by kernel_rfl) (fun _ _ _ h => h) (Or.inl ⟨by rfl, ?_⟩) hHeld ?_ ?_
    rotate_left
    · rintro w' ⟨s0, s1, s2, s3, s4, s5, s6, s7, s8, s9⟩
      go_simp
      with_reducible rfl
    rotate_left
    · simp only [Act.put, List.setIfInBounds_toArray, List.set_cons_zero, List.set_cons_succ, i64_w, i32_w]
      rfl
    refine pure_ (i := 2) (N := some 43) (v := ?_) (a' := ?_) #[true, true, true, false, true, false, false, false, false, false, false, false] rfl rfl (by kernel_rfl) (fun _ _ _ h => h) (Or.inl ⟨by rfl, ?_⟩) ?_ ?_
    rotate_left
    · intro w'
      go_simp
      with_reducible rfl
    rotate_left
    · simp only [Act.put, List.setIfInBounds_toArray, List.set_cons_zero, List.set_cons_succ, i64_w, i32_w]
      rfl
    refine take_ (i := 3) (N := some 44) (v := ?_) (a' := ?_) #[true, true, true, true, true, false, false, false, false, false, false, false] rfl rfl (by kernel_rfl) (fun _ _ _ h => h) (Or.inl ⟨by rfl, ?_⟩) hHeld ?_ ?_
    rotate_left
    · rintro w' ⟨s0, s1, s2, s3, s4, s5, s6, s7, s8, s9⟩
      go_simp
      with_reducible rfl
    rotate_left
    · simp only [Act.put, List.setIfInBounds_toArray, List.set_cons_zero, List.set_cons_succ, i64_w, i32_w]
      rfl
    refine take_ (i := 5) (N := some 46) (v := ?_) (a' := ?_) #[true, true, true, true, true, true, false, false, false, false, false, false] rfl rfl (by kernel_rfl) (fun _ _ _ h => h) (Or.inl ⟨by rfl, ?_⟩) hHeld ?_ ?_
    rotate_left
    · rintro w' ⟨s0, s1, s2, s3, s4, s5, s6, s7, s8, s9⟩
      go_simp
      with_reducible rfl
    rotate_left
    · simp only [Act.put, List.setIfInBounds_toArray, List.set_cons_zero, List.set_cons_succ, i64_w, i32_w]
      rfl
    refine pure_ (i := 6) (N := some 47) (v := ?_) (a' := ?_) #[true, true, true, true, true, true, true, false, false, false, false, false] rfl rfl (by kernel_rfl) (fun _ _ _ h => h) (Or.inl ⟨by rfl, ?_⟩) ?_ ?_
    rotate_left
    · intro w'
      go_simp
      with_reducible rfl
    rotate_left
    · simp only [Act.put, List.setIfInBounds_toArray, List.set_cons_zero, List.set_cons_succ, i64_w, i32_w]
      rfl
    refine take_ (i := 7) (N := some 48) (v := ?_) (a' := ?_) #[true, true, true, true, true, true, true, true, false, false, false, false] rfl rfl (by kernel_rfl) (fun _ _ _ h => h) (Or.inl ⟨by rfl, ?_⟩) hHeld ?_ ?_
    rotate_left
    · rintro w' ⟨s0, s1, s2, s3, s4, s5, s6, s7, s8, s9⟩
      go_simp
      with_reducible rfl
    rotate_left
    · simp only [Act.put, List.setIfInBounds_toArray, List.set_cons_zero, List.set_cons_succ, i64_w, i32_w]
      rfl
    refine one_ (i := 8) (N := some 49) #[true, true, true, true, true, true, true, true, true, false, false, false] rfl rfl (by kernel_rfl) (by decide) (fun K hK => ?_)
    refine goes_ Tryd.func50 (by kernel_rfl) rfl #[.agg #[.int .i64 y.op, .string y.col, .int .i64 y.cmp, .bool y.val.nl, .int .i64 y.val.i, .string y.val.s, .int .i64 y.kind, .string y.pat, .slice y.ka y.kids.length y.kc]] (by rfl) rfl rfl (by simp only [List.map_toArray, List.map_cons, List.map_nil]; rfl) ?_
    with_reducible refine (hli _).mono ?_
    rintro e w2 ⟨rfl, hb2⟩
    refine ⟨_, rfl, ?_⟩
    have hK2 := bundrew (hb2.mono (B' := w.heap.size + 1) (by simp))
    refine hK.out _ _ ⟨(HKEEP.out _ hK2).1, (HKEEP.out _ hK2).2.1, (HKEEP.out _ hK2).2.2.1, (HKEEP.out _ hK2).2.2.2.1, (HKEEP.out _ hK2).2.2.2.2.1, (HKEEP.out _ hK2).2.2.2.2.2.1, (HKEEP.out _ hK2).2.2.2.2.2.2.1, (HKEEP.out _ hK2).2.2.2.2.2.2.2.1, (HKEEP.out _ hK2).2.2.2.2.2.2.2.2.1, (HKEEP.out _ hK2).2.2.2.2.2.2.2.2.2⟩ (fun hHeld => ?_)
    clear hK K
    refine norm_ (a' := ?_) ?_ ?_
    rotate_left
    · show Act.put _ (some 49) _ = _
      simp only [Act.put, List.setIfInBounds_toArray, List.set_cons_zero, List.set_cons_succ, i64_w, i32_w]
      rfl
    refine one_ (i := 9) (N := some 50) #[true, true, true, true, true, true, true, true, true, true, false, false] rfl rfl (by kernel_rfl) (by decide) (fun K hK => ?_)
    refine goes_ Tryd.func49 (by kernel_rfl) rfl #[.agg #[.int .i64 y.op, .string y.col, .int .i64 y.cmp, .bool y.val.nl, .int .i64 y.val.i, .string y.val.s, .int .i64 y.kind, .string y.pat, .slice y.ka y.kids.length y.kc], .bool lb] (by rfl) rfl rfl (by simp only [List.map_toArray, List.map_cons, List.map_nil]; rfl) ?_
    with_reducible refine (hcall _ (HB.out.trans (hK2.mono (by omega)))).mono ?_
    rintro e w3 ⟨rfl, hb3⟩
    refine ⟨_, rfl, ?_⟩
    have hK3 := hK2.trans (hb3.mono (B' := w.heap.size + 1) (by have := hK2.size; simp at this; omega))
    refine hK.out _ _ ⟨(HKEEP.out _ hK3).1, (HKEEP.out _ hK3).2.1, (HKEEP.out _ hK3).2.2.1, (HKEEP.out _ hK3).2.2.2.1, (HKEEP.out _ hK3).2.2.2.2.1, (HKEEP.out _ hK3).2.2.2.2.2.1, (HKEEP.out _ hK3).2.2.2.2.2.2.1, (HKEEP.out _ hK3).2.2.2.2.2.2.2.1, (HKEEP.out _ hK3).2.2.2.2.2.2.2.2.1, (HKEEP.out _ hK3).2.2.2.2.2.2.2.2.2⟩ (fun hHeld => ?_)
    clear hK K
    refine norm_ (a' := ?_) ?_ ?_
    rotate_left
    · show Act.put _ (some 50) _ = _
      simp only [Act.put, List.setIfInBounds_toArray, List.set_cons_zero, List.set_cons_succ, i64_w, i32_w]
      rfl
    refine pure_ (i := 10) (N := some 51) (v := ?_) (a' := ?_) #[true, true, true, true, true, true, true, true, true, true, true, false] rfl rfl (by kernel_rfl) (fun _ _ _ h => h) (Or.inl ⟨by rfl, ?_⟩) ?_ ?_
    rotate_left
    · intro w'
      go_simp
      with_reducible rfl
    rotate_left
    · simp only [Act.put, List.setIfInBounds_toArray, List.set_cons_zero, List.set_cons_succ, i64_w, i32_w]
      rfl
    refine pure_ (i := 11) (N := some 2) (v := ?_) (a' := ?_) #[true, true, true, true, true, true, true, true, true, true, true, true] rfl rfl (by kernel_rfl) (fun _ _ _ h => h) (Or.inl ⟨by rfl, ?_⟩) ?_ ?_
    rotate_left
    · intro w'
      go_simp
      with_reducible rfl
    rotate_left
    · simp only [Act.put, List.setIfInBounds_toArray, List.set_cons_zero, List.set_cons_succ, i64_w, i32_w]
      rfl
    refine done_ (by kernel_rfl) ?_
    go_wp2_with fail
    go_ret
    exact ⟨rfl, HB.out.trans (hK3.mono (by omega))⟩
end Go.Proofs.YthhjhlodgfdlgaaDoor
