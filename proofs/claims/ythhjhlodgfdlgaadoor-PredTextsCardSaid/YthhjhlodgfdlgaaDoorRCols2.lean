import Derived.Test.YthhjhlodgfdlgaaDoorRCols
set_option linter.unusedVariables false
set_option linter.unusedSimpArgs false
namespace Go.Proofs.YthhjhlodgfdlgaaDoor
open Go Go.RowKit Go.Proofs.YthhjhlodgfdlgaaDoorW.PrintLast Go.Proofs.YthhjhlodgfdlgaaDoorW.PrintWords

theorem any_take (xs : List ByteArray) (c : ByteArray) (k : Nat) (h : k < xs.length) : (xs.take (k + 1)).any (fun z => z.toList == c.toList) = ((xs.take k).any (fun z => z.toList == c.toList) || (xs[k].toList == c.toList)) := by
  rw [List.take_succ_eq_append_getElem h, List.any_append]
  simp
def RColsPost (B : Nat) (v : Value) (ys : List ByteArray) (W : World) (e : Ending) (W' : World) : Prop := ∃ v', e = .returned v' ∧ OwnS B W' v' ys ∧ Stp v.ownBlock.toList v'.ownBlock.toList W W'

def RColsIH (w0 : World) (B d : Nat) : Prop := ∀ (p : Pr) (xs : List ByteArray) (v : Value) (W : World), InPr w0 p → TxtOk d p → Below w0.heap.size w0 W → OwnS B W v xs → B ≤ W.heap.size → xs.length + cnt d ≤ 100000000 →
    Calls Tryd.prog 15 #[v, p.v] W (RColsPost B v (colsR d p xs) W)

set_option maxHeartbeats 4000000 in
set_option maxRecDepth 100000 in
theorem refCols_calls (w0 : World) (B : Nat) (hB0 : w0.heap.size ≤ B) (d : Nat) : RColsIH w0 B d := by
  induction d with
  | zero => intro p xs v W _ h; exact h.elim
  | succ d ih =>
    intro p xs v W hp ht hBW hown hBs hN
    have hcnt : cnt (d + 1) = 1 + 20 * cnt d := rfl
    have hk20 := ht.2.2.2.1
    have hmul : p.kids.length * cnt d ≤ 20 * cnt d := Nat.mul_le_mul_right _ hk20
    have hal := addC_len xs p.col
    have hMu := Asd.mk (show (addC xs p.col).length + p.kids.length * cnt d ≤ 100000000 by omega)
    have hxl : xs.length < 100000000 := by omega
    have htk := Asd.mk ht.2.2.2.2.2.2.2
    have hr : colsR (d + 1) p xs = colsRK d p.kids (addC xs p.col) := by rw [colsR]
    rw [hr]
    have hrow := Asd.mk hp.row
    have hall := Asd.mk hp.all
    have IH := Asd.mk ih
    clear hr hcnt hmul hal hN ht hp ih
    obtain ⟨a, c, rfl⟩ := hown.shape
    have HO := Asd.mk hown
    have HBW := Asd.mk hBW
    clear hown hBW
    have hadd1 : p.col.toList = [] → addC xs p.col = xs := fun h => by rw [addC, if_pos h]
    have hadd2 : p.col.toList ≠ [] → xs.any (fun z => z.toList == p.col.toList) = true → addC xs p.col = xs := fun h h2 => by rw [addC, if_neg h, if_pos (by rw [containsS_any]; exact h2)]
    have hadd3 : p.col.toList ≠ [] → xs.any (fun z => z.toList == p.col.toList) = false → addC xs p.col = xs ++ [p.col] := fun h h2 => by rw [addC, if_neg h, if_neg (by rw [containsS_any, h2]; simp)]
    have HA1 := Asd.mk hadd1
    have HA2 := Asd.mk hadd2
    have HA3 := Asd.mk hadd3
    clear hadd1 hadd2 hadd3
    have HAT := Asd.mk (any_take xs p.col)
    have hread : Asd (ReadS W a xs) := ⟨by
      obtain ⟨a', c', he, hr⟩ := HO.out.reads
      injection he with h1 h2 h3
      subst h1
      exact hr⟩
    have hS0 := Asd.mk (Stp.of_below (L := (Value.slice a xs.length c).ownBlock.toList) ((Below.refl _ W).alloc (Nat.le_refl _) (Obj.cells (encPr p).toArray 26)))
    have HO1 : Asd (OwnS B (W.alloc (Obj.cells (encPr p).toArray 26)) (.slice a xs.length c) xs) := ⟨World.ownsRow.alloc HO.out _⟩
    have hlowO := Asd.mk (fun g h => World.ownsRow.lt HO.out g h)
    generalize hadv : addC xs p.col = ys at *
    clear hadv
    obtain ⟨op, col, cm, ⟨nl, i, str⟩, kd, pat, ka, kc, kids⟩ := p
    simp only [Pr.v, encPr, Pr.op, Pr.col, Pr.cmp, Pr.val, Pr.kind, Pr.pat, Pr.ka, Pr.kc, Pr.kids] at *
    go_enter Tryd.func15, Tryd.ntmps15
    go_upto_if 10 with fail
    go_cut [0] (fun l wx => ∃ a1 c1, l = .slice a1 ys.length c1 ∧ Asd (OwnS B wx l ys) ∧ Asd (Stp (Value.slice a xs.length c).ownBlock.toList l.ownBlock.toList (W.alloc (Obj.cells #[Value.int IntKind.i64 op, Value.string col, Value.int IntKind.i64 cm, Value.bool nl, Value.int IntKind.i64 i, Value.string str, Value.int IntKind.i64 kd, Value.string pat, Value.slice ka kids.length kc] 26)) wx))
    case first =>
      by_cases h0 : col.toList = []
      · have h0' : col.toList.isEmpty = true := by simpa using h0
        have he := HA1.out h0
        have HE := Asd.mk he
        clear he
        rw [h0', Bool.not_true]
        go_wp2_with fail
        go_meet
        exact ⟨a, c, by rw [HE.out], ⟨by rw [HE.out]; exact HO1.out⟩, ⟨Stp.refl _ _⟩⟩
      · have h0' : col.toList.isEmpty = false := by simpa using h0
        have ha2 := Asd.mk (HA2.out h0)
        have ha3 := Asd.mk (HA3.out h0)
        rw [h0', Bool.not_false]
        go_wp2_with fail
        go_loopw [5, 6] (fun t q wr => ∃ (k : Nat) (b : Bool), t = .bool b ∧ q = .int .i64 k ∧ k ≤ xs.length ∧ Asd (b = (xs.take k).any (fun z => z.toList == col.toList)) ∧ Asd (Below (W.heap.size + 1) (W.alloc (Obj.cells #[Value.int IntKind.i64 op, Value.string col, Value.int IntKind.i64 cm, Value.bool nl, Value.int IntKind.i64 i, Value.string str, Value.int IntKind.i64 kd, Value.string pat, Value.slice ka kids.length kc] 26)) wr)) (fun _ q _ => xs.length - (intOf q).toNat)
        case atStart => exact ⟨0, false, rfl, rfl, by omega, ⟨rfl⟩, ⟨Below.refl _ _⟩⟩
        case round =>
          obtain ⟨k, b, rfl, rfl, hk, hb, hB⟩ := hrel
          have hp1 := fun o => (bcell hB.out).1 W.heap.size o (by omega)
          by_cases hlt : k < xs.length
          · have hat := HAT.out k hlt
            have HK1 : Asd (∀ Y, Below wr.heap.size wr Y → Y.cell? ⟨W.heap.size, 1, none⟩ = some (.string col)) := ⟨fun Y hY => ((hB.out.trans (hY.mono (by have := hB.out.size; simp at this; omega))).cell (p := ⟨W.heap.size, 1, none⟩) (by simp)).trans (by simp)⟩
            rw [← hb.out] at hat
            cases b with
            | true =>
              have HAT2 := Asd.mk hat
              clear hat
              go_wp2_with fail
              refine start_ (n := 11) (S := fun w' => w'.cell? ⟨W.heap.size, 1, none⟩ = some (.string col)) (ds := []) #[false, false, false, false, false, false, false, false, false, false, false] (by kernel_rfl) rfl rfl ((HK1.out _ (Below.refl _ _).drew)) (fun hHeld => ?_)
              refine pure_ (i := 0) (N := some 17) (v := ?_) (a' := ?_) #[true, false, false, false, false, false, false, false, false, false, false] rfl rfl (by kernel_rfl) (fun _ _ _ h => h) (Or.inl ⟨by rfl, ?_⟩) ?_ ?_
              rotate_left
              · intro w'
                go_simp
                with_reducible rfl
              rotate_left
              · simp only [Act.put, List.setIfInBounds_toArray, List.set_cons_zero, List.set_cons_succ, i64_w, i32_w]
                rfl
              refine pure_ (i := 1) (N := some 18) (v := ?_) (a' := ?_) #[true, true, false, false, false, false, false, false, false, false, false] rfl rfl (by kernel_rfl) (fun _ _ _ h => h) (Or.inl ⟨by rfl, ?_⟩) ?_ ?_
              rotate_left
              · intro w'
                go_simp
                with_reducible rfl
              rotate_left
              · simp only [Act.put, List.setIfInBounds_toArray, List.set_cons_zero, List.set_cons_succ, i64_w, i32_w]
                rfl
              refine pure_ (i := 2) (N := some 19) (v := undef) (a' := ?_) #[true, true, true, false, false, false, false, false, false, false, false] rfl rfl (by kernel_rfl) (fun _ _ _ h => h) (Or.inr ⟨by rfl, rfl⟩) ?_ ?_
              rotate_left
              · simp only [Act.put, List.setIfInBounds_toArray, List.set_cons_zero, List.set_cons_succ, i64_w, i32_w]
                rfl
              refine pure_ (i := 3) (N := some 20) (v := undef) (a' := ?_) #[true, true, true, true, false, false, false, false, false, false, false] rfl rfl (by kernel_rfl) (fun _ _ _ h => h) (Or.inr ⟨by rfl, rfl⟩) ?_ ?_
              rotate_left
              · simp only [Act.put, List.setIfInBounds_toArray, List.set_cons_zero, List.set_cons_succ, i64_w, i32_w]
                rfl
              refine pure_ (i := 4) (N := some 21) (v := undef) (a' := ?_) #[true, true, true, true, true, false, false, false, false, false, false] rfl rfl (by kernel_rfl) (fun _ _ _ h => h) (Or.inr ⟨by rfl, rfl⟩) ?_ ?_
              rotate_left
              · simp only [Act.put, List.setIfInBounds_toArray, List.set_cons_zero, List.set_cons_succ, i64_w, i32_w]
                rfl
              refine pure_ (i := 5) (N := some 22) (v := undef) (a' := ?_) #[true, true, true, true, true, true, false, false, false, false, false] rfl rfl (by kernel_rfl) (fun _ _ _ h => h) (Or.inr ⟨by rfl, rfl⟩) ?_ ?_
              rotate_left
              · simp only [Act.put, List.setIfInBounds_toArray, List.set_cons_zero, List.set_cons_succ, i64_w, i32_w]
                rfl
              refine pure_ (i := 6) (N := some 23) (v := undef) (a' := ?_) #[true, true, true, true, true, true, true, false, false, false, false] rfl rfl (by kernel_rfl) (fun _ _ _ h => h) (Or.inr ⟨by rfl, rfl⟩) ?_ ?_
              rotate_left
              · simp only [Act.put, List.setIfInBounds_toArray, List.set_cons_zero, List.set_cons_succ, i64_w, i32_w]
                rfl
              refine pure_ (i := 7) (N := some 24) (v := undef) (a' := ?_) #[true, true, true, true, true, true, true, true, false, false, false] rfl rfl (by kernel_rfl) (fun _ _ _ h => h) (Or.inr ⟨by rfl, rfl⟩) ?_ ?_
              rotate_left
              · simp only [Act.put, List.setIfInBounds_toArray, List.set_cons_zero, List.set_cons_succ, i64_w, i32_w]
                rfl
              refine pure_ (i := 8) (N := some 25) (v := undef) (a' := ?_) #[true, true, true, true, true, true, true, true, true, false, false] rfl rfl (by kernel_rfl) (fun _ _ _ h => h) (Or.inr ⟨by rfl, rfl⟩) ?_ ?_
              rotate_left
              · simp only [Act.put, List.setIfInBounds_toArray, List.set_cons_zero, List.set_cons_succ, i64_w, i32_w]
                rfl
              refine pure_ (i := 9) (N := some 26) (v := ?_) (a' := ?_) #[true, true, true, true, true, true, true, true, true, true, false] rfl rfl (by kernel_rfl) (fun _ _ _ h => h) (Or.inl ⟨by rfl, ?_⟩) ?_ ?_
              rotate_left
              · intro w'
                go_simp
                with_reducible rfl
              rotate_left
              · simp only [Act.put, List.setIfInBounds_toArray, List.set_cons_zero, List.set_cons_succ, i64_w, i32_w]
                rfl
              refine pure_ (i := 10) (N := some 5) (v := ?_) (a' := ?_) #[true, true, true, true, true, true, true, true, true, true, true] rfl rfl (by kernel_rfl) (fun _ _ _ h => h) (Or.inl ⟨by rfl, ?_⟩) ?_ ?_
              rotate_left
              · intro w'
                go_simp
                with_reducible rfl
              rotate_left
              · simp only [Act.put, List.setIfInBounds_toArray, List.set_cons_zero, List.set_cons_succ, i64_w, i32_w]
                rfl
              refine done_ (by kernel_rfl) ?_
              go_wp2_with fail
              go_roundw
              case rel => exact ⟨k + 1, true, rfl, by go_num, by omega, ⟨by rw [HAT2.out]; rfl⟩, ⟨hB.out.drew⟩⟩
              case measure => simp [intOf]; omega
            | false =>
              obtain ⟨g, rfl, hgl, hgc⟩ := hread.out (by omega)
              have h1 := hgc k hlt
              clear hgc
              generalize xs[k] = x at *
              have HK2 : Asd (∀ Y, Below wr.heap.size wr Y → Y.cell? ⟨g, k, none⟩ = some (.string x)) := ⟨fun Y hY => ((hB.out.trans (hY.mono (by have := hB.out.size; simp at this; omega))).cell (p := ⟨g, k, none⟩) (by show g < W.heap.size + 1; omega)).trans ((World.cell?_alloc_lt W _ ⟨g, k, none⟩ hgl).trans h1)⟩
              generalize heb : (x.toList == col.toList) = eb at *
              have HAT2 := Asd.mk hat
              clear hat
              go_wp2_with fail
              refine start_ (n := 11) (S := fun w' => w'.cell? ⟨W.heap.size, 1, none⟩ = some (.string col) ∧ w'.cell? ⟨g, k, none⟩ = some (.string x)) (ds := []) #[false, false, false, false, false, false, false, false, false, false, false] (by kernel_rfl) rfl rfl ⟨(HK1.out _ (Below.refl _ _).drew), (HK2.out _ (Below.refl _ _).drew)⟩ (fun hHeld => ?_)
              refine pure_ (i := 0) (N := some 17) (v := ?_) (a' := ?_) #[true, false, false, false, false, false, false, false, false, false, false] rfl rfl (by kernel_rfl) (fun _ _ _ h => h) (Or.inl ⟨by rfl, ?_⟩) ?_ ?_
              rotate_left
              · intro w'
                go_simp
                with_reducible rfl
              rotate_left
              · simp only [Act.put, List.setIfInBounds_toArray, List.set_cons_zero, List.set_cons_succ, i64_w, i32_w]
                rfl
              refine pure_ (i := 1) (N := some 18) (v := ?_) (a' := ?_) #[true, true, false, false, false, false, false, false, false, false, false] rfl rfl (by kernel_rfl) (fun _ _ _ h => h) (Or.inl ⟨by rfl, ?_⟩) ?_ ?_
              rotate_left
              · intro w'
                go_simp
                with_reducible rfl
              rotate_left
              · simp only [Act.put, List.setIfInBounds_toArray, List.set_cons_zero, List.set_cons_succ, i64_w, i32_w]
                rfl
              refine pure_ (i := 2) (N := some 19) (v := ?_) (a' := ?_) #[true, true, true, false, false, false, false, false, false, false, false] rfl rfl (by kernel_rfl) (fun _ _ _ h => h) (Or.inl ⟨by rfl, ?_⟩) ?_ ?_
              rotate_left
              · intro w'
                go_simp
                with_reducible rfl
              rotate_left
              · simp only [Act.put, List.setIfInBounds_toArray, List.set_cons_zero, List.set_cons_succ, i64_w, i32_w]
                rfl
              refine pure_ (i := 3) (N := some 20) (v := ?_) (a' := ?_) #[true, true, true, true, false, false, false, false, false, false, false] rfl rfl (by kernel_rfl) (fun _ _ _ h => h) (Or.inl ⟨by rfl, ?_⟩) ?_ ?_
              rotate_left
              · intro w'
                go_simp
                with_reducible rfl
              rotate_left
              · simp only [Act.put, List.setIfInBounds_toArray, List.set_cons_zero, List.set_cons_succ, i64_w, i32_w]
                rfl
              refine pure_ (i := 4) (N := some 21) (v := ?_) (a' := ?_) #[true, true, true, true, true, false, false, false, false, false, false] rfl rfl (by kernel_rfl) (fun _ _ _ h => h) (Or.inl ⟨by rfl, ?_⟩) ?_ ?_
              rotate_left
              · intro w'
                go_simp
                with_reducible rfl
              rotate_left
              · simp only [Act.put, List.setIfInBounds_toArray, List.set_cons_zero, List.set_cons_succ, i64_w, i32_w]
                rfl
              refine pure_ (i := 6) (N := some 23) (v := ?_) (a' := ?_) #[true, true, true, true, true, false, true, false, false, false, false] rfl rfl (by kernel_rfl) (fun _ _ _ h => h) (Or.inl ⟨by rfl, ?_⟩) ?_ ?_
              rotate_left
              · intro w'
                go_simp
                with_reducible rfl
              rotate_left
              · simp only [Act.put, List.setIfInBounds_toArray, List.set_cons_zero, List.set_cons_succ, i64_w, i32_w]
                rfl
              refine take_ (i := 5) (N := some 22) (v := ?_) (a' := ?_) #[true, true, true, true, true, true, true, false, false, false, false] rfl rfl (by kernel_rfl) (fun _ _ _ h => h) (Or.inl ⟨by rfl, ?_⟩) hHeld ?_ ?_
              rotate_left
              · rintro w' ⟨s0, s1⟩
                go_simp
                with_reducible rfl
              rotate_left
              · simp only [Act.put, List.setIfInBounds_toArray, List.set_cons_zero, List.set_cons_succ, i64_w, i32_w]
                rfl
              refine take_ (i := 7) (N := some 24) (v := ?_) (a' := ?_) #[true, true, true, true, true, true, true, true, false, false, false] rfl rfl (by kernel_rfl) (fun _ _ _ h => h) (Or.inl ⟨by rfl, ?_⟩) hHeld ?_ ?_
              rotate_left
              · rintro w' ⟨s0, s1⟩
                go_simp
                with_reducible rfl
              rotate_left
              · simp only [Act.put, List.setIfInBounds_toArray, List.set_cons_zero, List.set_cons_succ, i64_w, i32_w]
                rfl
              refine pure_ (i := 8) (N := some 25) (v := ?_) (a' := ?_) #[true, true, true, true, true, true, true, true, true, false, false] rfl rfl (by kernel_rfl) (fun _ _ _ h => h) (Or.inl ⟨by rfl, ?_⟩) ?_ ?_
              rotate_left
              · intro w'
                go_simp
                with_reducible rfl
              rotate_left
              · simp only [Act.put, List.setIfInBounds_toArray, List.set_cons_zero, List.set_cons_succ, i64_w, i32_w]
                rfl
              refine pure_ (i := 9) (N := some 26) (v := ?_) (a' := ?_) #[true, true, true, true, true, true, true, true, true, true, false] rfl rfl (by kernel_rfl) (fun _ _ _ h => h) (Or.inl ⟨by rfl, ?_⟩) ?_ ?_
              rotate_left
              · intro w'
                go_simp
                with_reducible rfl
              rotate_left
              · simp only [Act.put, List.setIfInBounds_toArray, List.set_cons_zero, List.set_cons_succ, i64_w, i32_w]
                rfl
              refine pure_ (i := 10) (N := some 5) (v := ?_) (a' := ?_) #[true, true, true, true, true, true, true, true, true, true, true] rfl rfl (by kernel_rfl) (fun _ _ _ h => h) (Or.inl ⟨by rfl, ?_⟩) ?_ ?_
              rotate_left
              · intro w'
                go_simp
                with_reducible rfl
              rotate_left
              · simp only [Act.put, List.setIfInBounds_toArray, List.set_cons_zero, List.set_cons_succ, i64_w, i32_w]
                rfl
              refine done_ (by kernel_rfl) ?_
              go_wp2_with fail
              go_roundw
              case rel => exact ⟨k + 1, eb, rfl, by go_num, by omega, ⟨by rw [HAT2.out]; rfl⟩, ⟨hB.out.drew⟩⟩
              case measure => simp [intOf]; omega
          · have hkk : k = xs.length := by omega
            have hbx : b = xs.any (fun z => z.toList == col.toList) := by rw [hb.out, hkk, List.take_length]
            have hkd : decide ((k : Int) < (xs.length : Int)) = false := by simp; omega
            have hOw : OwnS B wr (.slice a xs.length c) xs := own_of_block HO1.out (fun g hg => hB.out.block g (by have := (hlowO.out g hg).2; omega))
            have hSt : Stp (Value.slice a xs.length c).ownBlock.toList (Value.slice a xs.length c).ownBlock.toList (W.alloc (Obj.cells #[Value.int IntKind.i64 op, Value.string col, Value.int IntKind.i64 cm, Value.bool nl, Value.int IntKind.i64 i, Value.string str, Value.int IntKind.i64 kd, Value.string pat, Value.slice ka kids.length kc] 26)) wr := Stp.of_below (by simpa using hB.out)
            have hBwr : B ≤ wr.heap.size := by have := hB.out.size; simp at this; omega
            have HOw := Asd.mk hOw
            have HSt := Asd.mk hSt
            clear hOw hSt hkk
            cases b with
            | true =>
              have HE := Asd.mk (ha2.out hbx.symm)
              clear hbx
              go_wp2_with fail
              go_meet
              exact ⟨a, c, by rw [HE.out], ⟨by rw [HE.out]; exact HOw.out⟩, HSt⟩
            | false =>
              have HE := Asd.mk (ha3.out hbx.symm)
              clear hbx
              go_wp2_with (first
                | (at_builtin; refine print_append B rfl (.tmp 29) (.tmp 32) 33 9 (.string ByteArray.empty) 16 rfl Tryd.underlying33 info_str rfl (by decide) (.slice a xs.length c) (xs.map Value.string) (.string col) rfl rfl rfl HOw.out (Below.refl _ _) hBwr (by simp; omega) ?_; intro v1 w2 hown1 _ hg1 hat1; obtain ⟨a1, c1, he1⟩ := own_slice hown1; generalize hn1 : (xs.map Value.string ++ [Value.string col]).length = n1 at he1 hown1; have HN := Asd.mk hn1; clear hn1; subst he1; have HW := Asd.mk hown1; have HG1 := Asd.mk hg1; have HT1 := Asd.mk hat1; clear hown1 hg1 hat1))
              go_meet
              have e : n1 = ys.length := by rw [HE.out, ← HN.out]; simp
              refine ⟨a1, c1, by rw [e], ⟨?_⟩, ⟨?_⟩⟩
              · rw [HE.out]
                have e2 : (List.map Value.string (xs ++ [col])).length = n1 := by rw [← HN.out]; simp
                show w2.ownsRow _ _ _ _ _ _
                rw [e2, List.map_append]
                exact HW.out
              · refine HSt.out.trans (Stp.grown HG1.out (fun k hk => by simp [hk]) ?_)
                intro k hk
                simp at hk
                rcases HT1.out with h | ⟨b, h, hb⟩
                · rw [h] at hk; exact .inl (by simp [hk])
                · rw [h] at hk; cases hk; exact .inr hb
    case rest =>
      obtain ⟨a1, c1, rfl, hO1, hS1⟩ := hcut
      have hS2 := Asd.mk (hS0.out.trans hS1.out)
      have hbox : W.heap.size ∉ (Value.slice a xs.length c).ownBlock.toList := fun hm => by
        simp at hm
        have := (hlowO.out _ hm).2
        omega
      have hbx := fun o => (hS1.out.cell (g := W.heap.size) (by simp) hbox).1 o
      have hS3 := Asd.mk hS1.out
      clear HA1 HA2 HA3 HAT hread hS0 hS1 HO1
      go_wp2_with fail
      go_loopw [0, 7] (fun l q wr => ∃ (k : Nat) (xk : List ByteArray) (ak : Option Addr) (ck : Nat), l = .slice ak xk.length ck ∧ q = .int .i64 k ∧ k ≤ kids.length ∧ Asd (OwnS B wr l xk) ∧ Asd (colsRK d (kids.drop k) xk = colsRK d kids ys) ∧ Asd (xk.length + (kids.length - k) * cnt d ≤ 100000000) ∧ Asd (Stp (Value.slice a xs.length c).ownBlock.toList l.ownBlock.toList W wr) ∧ Asd (Stp (Value.slice a xs.length c).ownBlock.toList l.ownBlock.toList (W.alloc (Obj.cells #[Value.int IntKind.i64 op, Value.string col, Value.int IntKind.i64 cm, Value.bool nl, Value.int IntKind.i64 i, Value.string str, Value.int IntKind.i64 kd, Value.string pat, Value.slice ka kids.length kc] 26)) wr)) (fun _ q _ => kids.length - (intOf q).toNat)
      case atStart => exact ⟨0, ys, a1, c1, rfl, rfl, by omega, hO1, ⟨rfl⟩, hMu, hS2, hS3⟩
      case round =>
        clear hS2 hS3 hbx hMu hO1
        obtain ⟨k, xk, ak, ck, rfl, rfl, hk, hOk, hrk, hlk, hSW, hSX⟩ := hrel
        have hbx := fun o => (hSX.out.cell (g := W.heap.size) (by simp) hbox).1 o
        have hwr : W.heap.size < wr.heap.size := by have := hSX.out.size; simp at this; omega
        by_cases hlt : k < kids.length
        · obtain ⟨b, off, rfl, hbl, hcs⟩ := hrow.out.at_ (by omega)
          have hBk : Below w0.heap.size w0 wr := HBW.out.trans (hSW.out.below HBW.out.size (fun g hg => by
            simp at hg
            have := (hlowO.out g hg).1
            omega))
          obtain ⟨c0, c1, c2, c3, c4, c5, c6, c7, c8⟩ := prCells (o := off + k * 9) hBk hbl (hcs k hlt)
          have hsp : (kids.length - k) * cnt d = (kids.length - (k + 1)) * cnt d + cnt d := by rw [show kids.length - k = (kids.length - (k + 1)) + 1 by omega, Nat.succ_mul]
          have hl2 := colsR_len d kids[k] xk (htk.out _ (List.getElem_mem hlt))
          have hl1 := hlk.out
          rw [hsp] at hl1
          have hcy := IH.out kids[k] xk (.slice ak xk.length ck) wr (hall.out _ (List.getElem_mem hlt)) (htk.out _ (List.getElem_mem hlt)) hBk hOk.out (by omega) (by generalize (kids.length - (k + 1)) * cnt d = zz at *; omega)
          have hl3 : Asd ((colsR d kids[k] xk).length + (kids.length - (k + 1)) * cnt d ≤ 100000000) := ⟨by generalize (kids.length - (k + 1)) * cnt d = zz at *; omega⟩
          have hrk2 : Asd (colsRK d (kids.drop (k + 1)) (colsR d kids[k] xk) = colsRK d kids ys) := ⟨by rw [← hrk.out, colsRK_drop d kids k hlt]⟩
          have hbw : b < wr.heap.size := Nat.lt_of_lt_of_le hbl hBk.size
          clear hcs hsp hl2 hl1 hlk hrk hBk
          generalize kids[k] = y at *
          generalize colsR d y xk = zs at *
          simp only [Pr.v, encPr] at hcy
          go_wp2_with fail
          go_call hcy as e w2 ⟨v2, rfl, hO2, hS2⟩
          obtain ⟨a2, c2', rfl⟩ := hO2.shape
          have hsW := Asd.mk (hSW.out.trans hS2)
          have hsX := Asd.mk (hSX.out.trans hS2)
          have hO3 := Asd.mk hO2
          clear hO2 hS2
          go_wp2_with fail
          go_roundw
          case rel => exact ⟨k + 1, zs, a2, c2', rfl, by go_num, by omega, hO3, hrk2, hl3, hsW, hsX⟩
          case measure => simp [intOf]; omega
        · have hkk : k = kids.length := by omega
          have hfin : xk = colsRK d kids ys := by rw [← hrk.out, hkk, List.drop_length, colsRK]
          have HF := Asd.mk hfin
          clear hfin hkk
          have hkd : decide ((k : Int) < (kids.length : Int)) = false := by simp; omega
          go_wp2_with fail
          go_ret
          exact ⟨_, rfl, by rw [← HF.out]; exact hOk.out, hSW.out⟩
end Go.Proofs.YthhjhlodgfdlgaaDoor
