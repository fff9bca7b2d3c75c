import Derived.Test.YthhjhlodgfdlgaaDoorTextE
set_option linter.unusedVariables false
set_option linter.unusedSimpArgs false
namespace Go.Proofs.YthhjhlodgfdlgaaDoor
open Go Go.RowKit Go.Proofs.YthhjhlodgfdlgaaDoorW.PrintLast

def RTextPost (d : Nat) : Prop := ∀ (p : Pr) (w : World), InPr w p → TxtOk d p → Calls Tryd.prog 29 #[p.v] w (Ret (.string (textB d p)) w)
theorem joinB_nil (sep : ByteArray) : joinB [] sep = ⟨#[]⟩ := rfl
theorem joinB_one (x sep : ByteArray) : joinB [x] sep = x := by simp [joinB, Lib.join_one]
theorem mkb (a b : ByteArray) : a ++ b = ⟨(a.data.toList ++ b.data.toList).toArray⟩ := by simp [ByteArray.ext_iff, ByteArray.data_append]
theorem joinB_snoc (xs : List ByteArray) (x sep : ByteArray) (h : xs ≠ []) : joinB (xs ++ [x]) sep = (joinB xs sep ++ sep) ++ x := by
  cases xs with
  | nil => exact absurd rfl h
  | cons y r =>
    have e : ∀ r : List (List UInt8), ∀ z, Lib.joinTail sep.data.toList (r ++ [z]) = Lib.joinTail sep.data.toList r ++ (sep.data.toList ++ z) := by
      intro r z; simp [Lib.joinTail]
    simp only [joinB, List.cons_append, List.map_cons, List.map_append, List.map_nil, Lib.join_cons, e]
    rw [mkb, mkb]
    simp
theorem joinB_take (ts : List ByteArray) (sep : ByteArray) (k : Nat) (h : k < ts.length) : joinB (ts.take (k + 1)) sep = if k = 0 then ts[k] else (joinB (ts.take k) sep ++ sep) ++ ts[k] := by
  rw [List.take_succ_eq_append_getElem h]
  split
  · subst k
    simp [joinB_one]
  · rw [joinB_snoc]
    intro h2
    have h3 : (ts.take k).length = 0 := by rw [h2]; rfl
    rw [List.length_take] at h3
    omega
def kidT2 (d : Nat) (op : Int) (k : Pr) : ByteArray := kidT d op k

set_option maxHeartbeats 1000000 in
set_option maxRecDepth 100000 in
theorem rtext_1 (d : Nat) (p : Pr) (w : World) (hp : InPr w p) (ho : p.op = 1) : Calls Tryd.prog 29 #[p.v] w (Ret (.string (textB (d + 1) p)) w) := by
  have hr : textB (d + 1) p = ⟨#[97, 108, 108]⟩ := by rw [textB, if_pos ho]
  rw [hr]
  clear hr hp
  obtain ⟨op, col, cm, ⟨nl, i, str⟩, kd, pat, ka, kc, kids⟩ := p
  simp only [Pr.v, encPr, Pr.op, Pr.col, Pr.cmp, Pr.val, Pr.kind, Pr.pat, Pr.ka, Pr.kc, Pr.kids] at *
  subst ho
  go_enter Tryd.func29, Tryd.ntmps29
  go_wp2_with fail
  go_ret
  exact ⟨rfl, by go_grown⟩

set_option maxHeartbeats 1000000 in
set_option maxRecDepth 100000 in
theorem rtext_3 (d : Nat) (p : Pr) (w : World) (hp : InPr w p) (ho : p.op = 3) (ht : TxtOk (d + 1) p) : Calls Tryd.prog 29 #[p.v] w (Ret (.string (textB (d + 1) p)) w) := by
  have hr : textB (d + 1) p = p.col ++ ⟨#[32, 105, 115, 32, 110, 117, 108, 108]⟩ := by rw [textB, if_neg (by omega), if_neg (by omega), if_pos ho]
  rw [hr]
  have hcz := ht.2.2.2.2.1
  clear hr hp ht
  obtain ⟨op, col, cm, ⟨nl, i, str⟩, kd, pat, ka, kc, kids⟩ := p
  simp only [Pr.v, encPr, Pr.op, Pr.col, Pr.cmp, Pr.val, Pr.kind, Pr.pat, Pr.ka, Pr.kc, Pr.kids] at *
  subst ho
  go_enter Tryd.func29, Tryd.ntmps29
  go_wp2_with fail
  all_goals try (exfalso; omega)
  go_ret
  exact ⟨rfl, by go_grown⟩

set_option maxHeartbeats 2000000 in
set_option maxRecDepth 100000 in
theorem rtext_4 (d : Nat) (p : Pr) (w : World) (hp : InPr w p) (ho : p.op = 4) (ht : TxtOk (d + 1) p) : Calls Tryd.prog 29 #[p.v] w (Ret (.string (textB (d + 1) p)) w) := by
  have hr : textB (d + 1) p = (p.col ++ ⟨#[32, 108, 105, 107, 101, 32]⟩) ++ quoteB p.pat := by rw [textB, if_neg (by omega), if_neg (by omega), if_neg (by omega), if_pos ho]
  rw [hr]
  have hcz := ht.2.2.2.2.1
  have hpz := ht.2.2.2.2.2.1
  have hB1 := (Below.refl w.heap.size w).alloc (Nat.le_refl _) (Obj.cells (encPr p).toArray 26)
  have hq := refQuote_calls p.pat (w.alloc (Obj.cells (encPr p).toArray 26)).drew (by omega)
  have hqz := quoteB_size p.pat
  have hqz2 : (quoteB p.pat).size ≤ 202 := by omega
  clear hr hp ht hqz
  generalize quoteB p.pat = qb at *
  obtain ⟨op, col, cm, ⟨nl, i, str⟩, kd, pat, ka, kc, kids⟩ := p
  simp only [Pr.v, encPr, Pr.op, Pr.col, Pr.cmp, Pr.val, Pr.kind, Pr.pat, Pr.ka, Pr.kc, Pr.kids] at *
  have hkeep : ∀ W, Below (w.alloc (Obj.cells #[Value.int IntKind.i64 op, Value.string col, Value.int IntKind.i64 cm, Value.bool nl, Value.int IntKind.i64 i, Value.string str, Value.int IntKind.i64 kd, Value.string pat, Value.slice ka kids.length kc] 26)).heap.size (w.alloc (Obj.cells #[Value.int IntKind.i64 op, Value.string col, Value.int IntKind.i64 cm, Value.bool nl, Value.int IntKind.i64 i, Value.string str, Value.int IntKind.i64 kd, Value.string pat, Value.slice ka kids.length kc] 26)) W → (W.cell? ⟨w.heap.size, 1, none⟩ = some (.string col) ∧ W.cell? ⟨w.heap.size, 7, none⟩ = some (.string pat)) := by
    intro W hW
    have g2 := fun o => hW.cell (p := ⟨w.heap.size, o, none⟩) (by simp)
    exact ⟨by rw [g2]; simp, by rw [g2]; simp⟩
  have HKEEP := Asd.mk hkeep
  clear hkeep
  subst ho
  have hcat1 : (9223372036854775807 < col.size + 6) = False := by simp; omega
  have hcat2 : (9223372036854775807 < col.size + 6 + qb.size) = False := by simp; omega
  go_enter Tryd.func29, Tryd.ntmps29
  go_wp2_with fail
  refine start_ (n := 8) (S := fun w' => w'.cell? ⟨w.heap.size, 1, none⟩ = some (.string col) ∧ w'.cell? ⟨w.heap.size, 7, none⟩ = some (.string pat)) (ds := []) #[false, false, false, false, false, false, false, false] (by kernel_rfl) rfl rfl ⟨(HKEEP.out _ (Below.refl _ _).drew).1, (HKEEP.out _ (Below.refl _ _).drew).2⟩ (fun hHeld => ?_)
  refine pure_ (i := 0) (N := some 37) (v := ?_) (a' := ?_) #[true, false, false, false, false, false, false, false] rfl rfl (by kernel_rfl) (fun _ _ _ h => h) (Or.inl ⟨by rfl, ?_⟩) ?_ ?_
  rotate_left
  · intro w'
    go_simp
    with_reducible rfl
  rotate_left
  · simp only [Act.put, List.setIfInBounds_toArray, List.set_cons_zero, List.set_cons_succ, i64_w, i32_w]
    rfl
  refine pure_ (i := 3) (N := some 40) (v := ?_) (a' := ?_) #[true, false, false, true, false, false, false, false] rfl rfl (by kernel_rfl) (fun _ _ _ h => h) (Or.inl ⟨by rfl, ?_⟩) ?_ ?_
  rotate_left
  · intro w'
    go_simp
    with_reducible rfl
  rotate_left
  · simp only [Act.put, List.setIfInBounds_toArray, List.set_cons_zero, List.set_cons_succ, i64_w, i32_w]
    rfl
  refine take_ (i := 1) (N := some 38) (v := ?_) (a' := ?_) #[true, true, false, true, false, false, false, false] rfl rfl (by kernel_rfl) (fun _ _ _ h => h) (Or.inl ⟨by rfl, ?_⟩) hHeld ?_ ?_
  rotate_left
  · rintro w' ⟨s0, s1⟩
    go_simp
    with_reducible rfl
  rotate_left
  · simp only [Act.put, List.setIfInBounds_toArray, List.set_cons_zero, List.set_cons_succ, i64_w, i32_w]
    rfl
  refine pure_ (i := 2) (N := some 39) (v := ?_) (a' := ?_) #[true, true, true, true, false, false, false, false] rfl rfl (by kernel_rfl) (fun _ _ _ h => h) (Or.inl ⟨by rfl, ?_⟩) ?_ ?_
  rotate_left
  · intro w'
    go_simp
    with_reducible rfl
  rotate_left
  · simp only [Act.put, List.setIfInBounds_toArray, List.set_cons_zero, List.set_cons_succ, i64_w, i32_w]
    rfl
  refine take_ (i := 4) (N := some 41) (v := ?_) (a' := ?_) #[true, true, true, true, true, false, false, false] rfl rfl (by kernel_rfl) (fun _ _ _ h => h) (Or.inl ⟨by rfl, ?_⟩) hHeld ?_ ?_
  rotate_left
  · rintro w' ⟨s0, s1⟩
    go_simp
    with_reducible rfl
  rotate_left
  · simp only [Act.put, List.setIfInBounds_toArray, List.set_cons_zero, List.set_cons_succ, i64_w, i32_w]
    rfl
  refine one_ (i := 5) (N := some 42) #[true, true, true, true, true, true, false, false] rfl rfl (by kernel_rfl) (by decide) (fun K hK => ?_)
  refine goes_ Tryd.func25 (by kernel_rfl) rfl #[.string pat] (by rfl) rfl rfl (by simp only [List.map_toArray, List.map_cons, List.map_nil]; rfl) ?_
  with_reducible refine (hq).mono ?_
  rintro e w2 ⟨rfl, hb2⟩
  refine ⟨_, rfl, ?_⟩
  refine hK.out _ _ ⟨(HKEEP.out _ (bundrew hb2)).1, (HKEEP.out _ (bundrew hb2)).2⟩ (fun hHeld => ?_)
  clear hK K
  refine norm_ (a' := ?_) ?_ ?_
  rotate_left
  · show Act.put _ (some 42) _ = _
    simp only [Act.put, List.setIfInBounds_toArray, List.set_cons_zero, List.set_cons_succ, i64_w, i32_w]
    rfl
  refine pure_ (i := 6) (N := some 43) (v := ?_) (a' := ?_) #[true, true, true, true, true, true, true, false] rfl rfl (by kernel_rfl) (fun _ _ _ h => h) (Or.inl ⟨by rfl, ?_⟩) ?_ ?_
  rotate_left
  · intro w'
    go_simp
    with_reducible rfl
  rotate_left
  · simp only [Act.put, List.setIfInBounds_toArray, List.set_cons_zero, List.set_cons_succ, i64_w, i32_w]
    rfl
  refine pure_ (i := 7) (N := some 2) (v := ?_) (a' := ?_) #[true, true, true, true, true, true, true, true] rfl rfl (by kernel_rfl) (fun _ _ _ h => h) (Or.inl ⟨by rfl, ?_⟩) ?_ ?_
  rotate_left
  · intro w'
    go_simp
    with_reducible rfl
  rotate_left
  · simp only [Act.put, List.setIfInBounds_toArray, List.set_cons_zero, List.set_cons_succ, i64_w, i32_w]
    rfl
  refine done_ (by kernel_rfl) ?_
  go_wp2_with fail
  go_ret
  exact ⟨rfl, bnext hB1 (bundrew hb2)⟩

set_option maxHeartbeats 4000000 in
set_option maxRecDepth 100000 in
theorem rtext_5 (d : Nat) (H : RTextPost d) (hd : d ≤ 5) (p : Pr) (w : World) (hp : InPr w p) (ho : p.op = 5) (ht : TxtOk (d + 1) p) : Calls Tryd.prog 29 #[p.v] w (Ret (.string (textB (d + 1) p)) w) := by
  have hB1 := (Below.refl w.heap.size w).alloc (Nat.le_refl _) (Obj.cells (encPr p).toArray 26)
  have hlen := hp.row.big
  have hne := ht.2.2.1 (by omega)
  obtain ⟨b, off, hka, hbl, hcs⟩ := hp.row.at_ hne
  have hr : textB (d + 1) p = (match p.kids with | [] => ByteArray.empty | k :: _ => ⟨#[110, 111, 116, 32]⟩ ++ wrapB (textB d k) (listP k)) := by
    rw [textB, if_neg (by omega), if_neg (by omega), if_neg (by omega), if_neg (by omega), if_pos ho]
    generalize p.kids = l
    cases l <;> rfl
  rw [hr]
  have hall := hp.all
  have htk := ht.2.2.2.2.2.2.2
  clear hr hp ht
  obtain ⟨op, col, cm, ⟨nl, i, str⟩, kd, pat, ka, kc, kids⟩ := p
  simp only [Pr.v, encPr, Pr.op, Pr.col, Pr.cmp, Pr.val, Pr.kind, Pr.pat, Pr.ka, Pr.kc, Pr.kids] at *
  subst hka
  cases kids with
  | nil => simp at hne
  | cons y ks =>
    have hcells := prCells (o := off) hB1 hbl (fun i v h => by have := hcs 0 (by simp) i v h; simpa using this)
    have hInY := hall y (by simp)
    have hty := htk y (by simp)
    have hzy := textB_size d y hInY.i64s hty
    have hbd := bnd_le d (by omega)
    have hz : (textB d y).size ≤ 4000000000 := by omega
    have hcall := fun W (hW : Below w.heap.size w W) => H y W (hInY.low hW) hty
    have hy7 : y.op ≤ 7 := by
      cases d with
      | zero => exact hty.elim
      | succ d => exact hty.1.2
    have hli : listP y = decide (6 ≤ y.op) := by
      by_cases h6 : 6 ≤ y.op
      · have : y.op = 6 ∨ y.op = 7 := by omega
        rcases this with h | h <;> simp [listP, h]
      · have h1 : y.op ≠ 6 := by omega
        have h2 : y.op ≠ 7 := by omega
        simp [listP, h1, h2, h6]
    have hks : ks.length + 1 ≤ 9223372036854775807 := by simpa using hlen
    clear hcs hall htk hzy hbd hlen hne hInY hty H hy7
    simp only [List.length_cons] at *
    rw [hli]
    generalize textB d y = t at *
    simp only [Pr.v, encPr] at hcall
    have HC := Asd.mk hcall
    clear hcall hli
    obtain ⟨c0, c1, c2, c3, c4, c5, c6, c7, c8⟩ := hcells
    by_cases h6 : 6 ≤ y.op
    · have h6' : decide (6 ≤ y.op) = true := by simpa using h6
      rw [h6']
      have hw : wrapB t true = (⟨#[40]⟩ ++ t) ++ ⟨#[41]⟩ := rfl
      rw [hw]
      clear hw
      generalize y.op = yo at *
      subst ho
      go_enter Tryd.func29, Tryd.ntmps29
      go_wp2_with fail
      go_call (HC.out _ hB1) as e w1 ⟨rfl, hb1⟩
      obtain ⟨hc1, hf1⟩ := bcell hb1
      have hbl2 : b < w.heap.size + 1 := by omega
      go_wp2_with fail
      all_goals try (exfalso; omega)
      go_ret
      exact ⟨rfl, bnext hB1 hb1⟩
    · have h6' : decide (6 ≤ y.op) = false := by simpa using h6
      rw [h6']
      have hw : wrapB t false = t := rfl
      rw [hw]
      clear hw
      generalize y.op = yo at *
      subst ho
      go_enter Tryd.func29, Tryd.ntmps29
      go_wp2_with fail
      go_call (HC.out _ hB1) as e w1 ⟨rfl, hb1⟩
      obtain ⟨hc1, hf1⟩ := bcell hb1
      have hbl2 : b < w.heap.size + 1 := by omega
      go_wp2_with fail
      all_goals try (exfalso; omega)
      go_ret
      exact ⟨rfl, bnext hB1 hb1⟩
end Go.Proofs.YthhjhlodgfdlgaaDoor
