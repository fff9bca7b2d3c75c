import Derived.Test.YthhjhlodgfdlgaaDoorLive
import Derived.Test.YthhjhlodgfdlgaaDoorRText
import Derived.Test.YthhjhlodgfdlgaaDoorRCols2
set_option linter.unusedVariables false
set_option linter.unusedSimpArgs false
namespace Go.Proofs.YthhjhlodgfdlgaaDoor
open Go Go.RowKit Go.Proofs.YthhjhlodgfdlgaaDoorW.PrintLast

theorem texts_eq (p : Pr) : refTextB p = predTextB p := by rw [refTextB, predTextB, may_eq]
def ColsRet (ys : List ByteArray) (W : World) (e : Ending) (W' : World) : Prop := ∃ a c, e = .returned (.slice a ys.length c) ∧ ReadS W' a ys ∧ Below W.heap.size W W'

set_option maxHeartbeats 4000000 in
set_option maxRecDepth 100000 in
theorem lawTexts_calls (p : Pr) (ty : Int) (ce : Ce) (w : World) (hp : InPr w p) (hci : i64 ce.i) (hcs : ce.s.size ≤ 9223372036854775807) (hs : StdOk w) : Calls Tryd.prog 3 #[p.v, .int .i64 ty, ce.v] w (Ret (.bool true) w) := by
  have hB1 : Below w.heap.size w ((w.alloc (Obj.cells (encPr p).toArray 26)).alloc (Obj.cells (encCe ce).toArray 23)) := ((Below.refl w.heap.size w).alloc (Nat.le_refl _) _).alloc (by simp) _
  have hsm := refSmall_calls 9 p _ (hp.low hB1) (by omega)
  have HL := Asd.mk (fun W (hW : Below w.heap.size w W) => live_calls W (hs.low hW))
  by_cases hcs1 : ce.s.size ≤ 100
  rotate_left
  · obtain ⟨cnl, ci, cs⟩ := ce
    clear hp
    generalize smallF 9 p = b at *
    obtain ⟨op, col, cm, ⟨nl, i, str⟩, kd, pat, ka, kc, kids⟩ := p
    simp only [Pr.v, encPr, Pr.op, Pr.col, Pr.cmp, Pr.val, Pr.kind, Pr.pat, Pr.ka, Pr.kc, Pr.kids, Ce.v, encCe] at *
    have hgt : decide (100 < (cs.size : Int)) = true := by simp; omega
    have hgt2 : 100 < cs.size := by omega
    clear hcs1
    have HB1 := Asd.mk hB1
    clear hB1
    cases b
    all_goals go_enter Tryd.func3, Tryd.ntmps3
    all_goals go_wp2_with fail
    all_goals go_call hsm as e w1 ⟨rfl, hb1⟩
    all_goals have hp1 := fun o => (bcell hb1).1 (w.heap.size + 1) o (by simp)
    all_goals have hB2 := Asd.mk (bnext HB1.out hb1)
    all_goals clear hb1
    all_goals go_wp2_with fail
    all_goals go_call (HL.out _ hB2.out) as e w2 ⟨rfl, hb2⟩
    all_goals go_wp2_with fail
    all_goals go_ret
    all_goals exact ⟨rfl, bnext hB2.out hb2⟩
  cases hsv : smallF 9 p with
  | false =>
    rw [hsv] at hsm
    obtain ⟨cnl, ci, cs⟩ := ce
    clear hp hsv
    obtain ⟨op, col, cm, ⟨nl, i, str⟩, kd, pat, ka, kc, kids⟩ := p
    simp only [Pr.v, encPr, Pr.op, Pr.col, Pr.cmp, Pr.val, Pr.kind, Pr.pat, Pr.ka, Pr.kc, Pr.kids, Ce.v, encCe] at *
    have HB1 := Asd.mk hB1
    clear hB1
    go_enter Tryd.func3, Tryd.ntmps3
    go_wp2_with fail
    go_call hsm as e w1 ⟨rfl, hb1⟩
    have hB2 := Asd.mk (bnext HB1.out hb1)
    clear hb1
    go_wp2_with fail
    go_call (HL.out _ hB2.out) as e w2 ⟨rfl, hb2⟩
    go_wp2_with fail
    go_ret
    exact ⟨rfl, bnext hB2.out hb2⟩
  | true =>
    have hmt := may_txt p hsv
    have hmeq := may_eq p
    have hT := fun W (hW : Below w.heap.size w W) => predText_calls p W (hp.low hW) (hs.low hW) hmt
    have hR := fun W (hW : Below w.heap.size w W) => refText_calls p W (hp.low hW) (fun h => hmt (by rw [hmeq]; exact h))
    have hV := fun W (hW : Below w.heap.size w W) => value_calls ty ce W hci (by omega) (hs.low hW)
    have hU := fun W => refValue_calls ty ce W hci (by omega)
    have hM := fun W (hW : Below w.heap.size w W) => refMay_calls p W (hp.low hW)
    have hC : mayP p = true → ∀ W, Below w.heap.size w W → Calls Tryd.prog 14 #[p.v] W (ColsRet (colsP p) W) := fun h W hW => (predCols_calls p W (hp.low hW) (hmt h)).mono (fun e W' h => by
      obtain ⟨v, rfl, ho, hb⟩ := h
      obtain ⟨a, c, rfl, hr⟩ := ho.reads
      exact ⟨a, c, rfl, hr, hb⟩)
    have hD : mayP p = true → ∀ W, Below w.heap.size w W → Calls Tryd.prog 15 #[.slice none 0 0, p.v] W (ColsRet (colsP p) W) := fun h W hW => by
      rw [colsP_eq p (hmt h)]
      refine (refCols_calls W W.heap.size (Nat.le_refl _) 6 p [] (.slice none 0 0) W (hp.low hW) (hmt h) (Below.refl _ _) (OwnS.nil _ _) (Nat.le_refl _) (by have := cnt_6; simp; omega)).mono (fun e W' h => ?_)
      obtain ⟨v, rfl, ho, hS⟩ := h
      obtain ⟨a, c, rfl, hr⟩ := ho.reads
      exact ⟨a, c, rfl, hr, hS.below (Nat.le_refl _) (by simp [Value.ownBlock])⟩
    have hyl : mayP p = true → (colsP p).length ≤ 9223372036854775807 := fun h => by
      have h1 := colsR_len 6 p [] (hmt h)
      have h2 := cnt_6
      rw [colsP_eq p (hmt h)]
      simp at h1; omega
    rw [hsv] at hsm
    rw [texts_eq] at hR
    rw [← hmeq] at hM
    clear hp hsv hmt hmeq hs
    generalize predTextB p = tx at *
    generalize valueB ty ce = vb at *
    generalize colsP p = ys at *
    generalize mayP p = mb at *
    obtain ⟨cnl, ci, cs⟩ := ce
    obtain ⟨op, col, cm, ⟨nl, i, str⟩, kd, pat, ka, kc, kids⟩ := p
    simp only [Pr.v, encPr, Pr.op, Pr.col, Pr.cmp, Pr.val, Pr.kind, Pr.pat, Pr.ka, Pr.kc, Pr.kids, Ce.v, encCe] at *
    have hgt : decide (100 < (cs.size : Int)) = false := by simp; omega
    have hn1 : (tx.toList != tx.toList) = false := by simp
    have hn2 : (vb.toList != vb.toList) = false := by simp
    have HB1 := Asd.mk hB1
    have HT := Asd.mk hT
    have HR := Asd.mk hR
    have HV := Asd.mk hV
    have HU := Asd.mk hU
    have HM := Asd.mk hM
    have HC := Asd.mk hC
    have HD := Asd.mk hD
    have HY := Asd.mk hyl
    clear hB1 hT hR hV hU hM hC hD hyl
    go_enter Tryd.func3, Tryd.ntmps3
    go_wp2_with fail
    go_call hsm as e w1 ⟨rfl, hb1⟩
    have hp1 := fun o => (bcell hb1).1 (w.heap.size + 1) o (by simp)
    have HKEEP : Asd (∀ W, Below w1.heap.size w1 W → (W.cell? ⟨w.heap.size, 0, none⟩ = some (.int .i64 op) ∧ W.cell? ⟨w.heap.size, 1, none⟩ = some (.string col) ∧ W.cell? ⟨w.heap.size, 2, none⟩ = some (.int .i64 cm) ∧ W.cell? ⟨w.heap.size, 3, none⟩ = some (.bool nl) ∧ W.cell? ⟨w.heap.size, 4, none⟩ = some (.int .i64 i) ∧ W.cell? ⟨w.heap.size, 5, none⟩ = some (.string str) ∧ W.cell? ⟨w.heap.size, 6, none⟩ = some (.int .i64 kd) ∧ W.cell? ⟨w.heap.size, 7, none⟩ = some (.string pat) ∧ W.cell? ⟨w.heap.size, 8, none⟩ = some (.slice ka kids.length kc) ∧ W.cell? ⟨w.heap.size + 1, 0, none⟩ = some (.bool cnl) ∧ W.cell? ⟨w.heap.size + 1, 1, none⟩ = some (.int .i64 ci) ∧ W.cell? ⟨w.heap.size + 1, 2, none⟩ = some (.string cs))) := ⟨fun W hW => by
      have hs1 := hb1.size
      simp at hs1
      have g := fun o => ((hW.cell (p := ⟨w.heap.size, o, none⟩) (by show w.heap.size < w1.heap.size; omega)).trans ((bcell hb1).1 w.heap.size o (by simp; omega)))
      have g2 := fun o => ((hW.cell (p := ⟨w.heap.size + 1, o, none⟩) (by show w.heap.size + 1 < w1.heap.size; omega)).trans ((bcell hb1).1 (w.heap.size + 1) o (by simp)))
      refine ⟨?_, ?_, ?_, ?_, ?_, ?_, ?_, ?_, ?_, ?_, ?_, ?_⟩ <;> first | (rw [g]; simp; done) | (rw [g2]; simp)⟩
    have hB2 := Asd.mk (bnext HB1.out hb1)
    clear hb1
    go_wp2_with fail
    clear hp1
    refine start_ (n := 14) (S := fun w' => w'.cell? ⟨w.heap.size, 0, none⟩ = some (.int .i64 op) ∧ w'.cell? ⟨w.heap.size, 1, none⟩ = some (.string col) ∧ w'.cell? ⟨w.heap.size, 2, none⟩ = some (.int .i64 cm) ∧ w'.cell? ⟨w.heap.size, 3, none⟩ = some (.bool nl) ∧ w'.cell? ⟨w.heap.size, 4, none⟩ = some (.int .i64 i) ∧ w'.cell? ⟨w.heap.size, 5, none⟩ = some (.string str) ∧ w'.cell? ⟨w.heap.size, 6, none⟩ = some (.int .i64 kd) ∧ w'.cell? ⟨w.heap.size, 7, none⟩ = some (.string pat) ∧ w'.cell? ⟨w.heap.size, 8, none⟩ = some (.slice ka kids.length kc) ∧ w'.cell? ⟨w.heap.size + 1, 0, none⟩ = some (.bool cnl) ∧ w'.cell? ⟨w.heap.size + 1, 1, none⟩ = some (.int .i64 ci) ∧ w'.cell? ⟨w.heap.size + 1, 2, none⟩ = some (.string cs)) (ds := []) #[false, false, false, false, false, false, false, false, false, false, false, false, false, false] (by kernel_rfl) rfl rfl ⟨(HKEEP.out _ (Below.refl _ _).drew).1, (HKEEP.out _ (Below.refl _ _).drew).2.1, (HKEEP.out _ (Below.refl _ _).drew).2.2.1, (HKEEP.out _ (Below.refl _ _).drew).2.2.2.1, (HKEEP.out _ (Below.refl _ _).drew).2.2.2.2.1, (HKEEP.out _ (Below.refl _ _).drew).2.2.2.2.2.1, (HKEEP.out _ (Below.refl _ _).drew).2.2.2.2.2.2.1, (HKEEP.out _ (Below.refl _ _).drew).2.2.2.2.2.2.2.1, (HKEEP.out _ (Below.refl _ _).drew).2.2.2.2.2.2.2.2.1, (HKEEP.out _ (Below.refl _ _).drew).2.2.2.2.2.2.2.2.2.1, (HKEEP.out _ (Below.refl _ _).drew).2.2.2.2.2.2.2.2.2.2.1, (HKEEP.out _ (Below.refl _ _).drew).2.2.2.2.2.2.2.2.2.2.2⟩ (fun hHeld => ?_)
    refine take_ (i := 0) (N := some 17) (v := ?_) (a' := ?_) #[true, false, false, false, false, false, false, false, false, false, false, false, false, false] rfl rfl (by kernel_rfl) (fun _ _ _ h => h) (Or.inl ⟨by rfl, ?_⟩) hHeld ?_ ?_
    rotate_left
    · rintro w' ⟨s0, s1, s2, s3, s4, s5, s6, s7, s8, s9, s10, s11⟩
      go_simp
      with_reducible rfl
    rotate_left
    · simp only [Act.put, List.setIfInBounds_toArray, List.set_cons_zero, List.set_cons_succ, i64_w, i32_w]
      rfl
    refine take_ (i := 2) (N := some 19) (v := ?_) (a' := ?_) #[true, false, true, false, false, false, false, false, false, false, false, false, false, false] rfl rfl (by kernel_rfl) (fun _ _ _ h => h) (Or.inl ⟨by rfl, ?_⟩) hHeld ?_ ?_
    rotate_left
    · rintro w' ⟨s0, s1, s2, s3, s4, s5, s6, s7, s8, s9, s10, s11⟩
      go_simp
      with_reducible rfl
    rotate_left
    · simp only [Act.put, List.setIfInBounds_toArray, List.set_cons_zero, List.set_cons_succ, i64_w, i32_w]
      rfl
    refine one_ (i := 1) (N := some 18) #[true, true, true, false, false, false, false, false, false, false, false, false, false, false] rfl rfl (by kernel_rfl) (by decide) (fun K hK => ?_)
    refine goes_ Tryd.func8 (by kernel_rfl) rfl #[Value.agg #[.int .i64 op, .string col, .int .i64 cm, .bool nl, .int .i64 i, .string str, .int .i64 kd, .string pat, .slice ka kids.length kc]] (by rfl) rfl rfl (by simp only [List.map_toArray, List.map_cons, List.map_nil]; rfl) ?_
    with_reducible refine (HT.out _ hB2.out.drew).mono ?_
    rintro e w2 ⟨rfl, hb2⟩
    refine ⟨_, rfl, ?_⟩
    have hK2 : Below w1.heap.size w1 w2 := bundrew hb2
    refine hK.out _ _ ⟨(HKEEP.out _ hK2).1, (HKEEP.out _ hK2).2.1, (HKEEP.out _ hK2).2.2.1, (HKEEP.out _ hK2).2.2.2.1, (HKEEP.out _ hK2).2.2.2.2.1, (HKEEP.out _ hK2).2.2.2.2.2.1, (HKEEP.out _ hK2).2.2.2.2.2.2.1, (HKEEP.out _ hK2).2.2.2.2.2.2.2.1, (HKEEP.out _ hK2).2.2.2.2.2.2.2.2.1, (HKEEP.out _ hK2).2.2.2.2.2.2.2.2.2.1, (HKEEP.out _ hK2).2.2.2.2.2.2.2.2.2.2.1, (HKEEP.out _ hK2).2.2.2.2.2.2.2.2.2.2.2⟩ (fun hHeld => ?_)
    clear hK K
    refine norm_ (a' := ?_) ?_ ?_
    rotate_left
    · show Act.put _ (some 18) _ = _
      simp only [Act.put, List.setIfInBounds_toArray, List.set_cons_zero, List.set_cons_succ, i64_w, i32_w]
      rfl
    refine one_ (i := 3) (N := some 20) #[true, true, true, true, false, false, false, false, false, false, false, false, false, false] rfl rfl (by kernel_rfl) (by decide) (fun K hK => ?_)
    refine goes_ Tryd.func9 (by kernel_rfl) rfl #[Value.agg #[.int .i64 op, .string col, .int .i64 cm, .bool nl, .int .i64 i, .string str, .int .i64 kd, .string pat, .slice ka kids.length kc]] (by rfl) rfl rfl (by simp only [List.map_toArray, List.map_cons, List.map_nil]; rfl) ?_
    with_reducible refine (HR.out _ (hB2.out.trans (hK2.mono hB2.out.size))).mono ?_
    rintro e w3 ⟨rfl, hb3⟩
    refine ⟨_, rfl, ?_⟩
    have hK3 := hK2.trans (hb3.mono hK2.size)
    refine hK.out _ _ ⟨(HKEEP.out _ hK3).1, (HKEEP.out _ hK3).2.1, (HKEEP.out _ hK3).2.2.1, (HKEEP.out _ hK3).2.2.2.1, (HKEEP.out _ hK3).2.2.2.2.1, (HKEEP.out _ hK3).2.2.2.2.2.1, (HKEEP.out _ hK3).2.2.2.2.2.2.1, (HKEEP.out _ hK3).2.2.2.2.2.2.2.1, (HKEEP.out _ hK3).2.2.2.2.2.2.2.2.1, (HKEEP.out _ hK3).2.2.2.2.2.2.2.2.2.1, (HKEEP.out _ hK3).2.2.2.2.2.2.2.2.2.2.1, (HKEEP.out _ hK3).2.2.2.2.2.2.2.2.2.2.2⟩ (fun hHeld => ?_)
    clear hK K
    refine norm_ (a' := ?_) ?_ ?_
    rotate_left
    · show Act.put _ (some 20) _ = _
      simp only [Act.put, List.setIfInBounds_toArray, List.set_cons_zero, List.set_cons_succ, i64_w, i32_w]
      rfl
    refine pure_ (i := 4) (N := some 21) (v := ?_) (a' := ?_) #[true, true, true, true, true, false, false, false, false, false, false, false, false, false] rfl rfl (by kernel_rfl) (fun _ _ _ h => h) (Or.inl ⟨by rfl, ?_⟩) ?_ ?_
    rotate_left
    · intro w'
      go_simp
      with_reducible rfl
    rotate_left
    · simp only [Act.put, List.setIfInBounds_toArray, List.set_cons_zero, List.set_cons_succ, i64_w, i32_w]
      rfl
    refine pure_ (i := 5) (N := some 22) (v := ?_) (a' := ?_) #[true, true, true, true, true, true, false, false, false, false, false, false, false, false] rfl rfl (by kernel_rfl) (fun _ _ _ h => h) (Or.inl ⟨by rfl, ?_⟩) ?_ ?_
    rotate_left
    · intro w'
      go_simp
      with_reducible rfl
    rotate_left
    · simp only [Act.put, List.setIfInBounds_toArray, List.set_cons_zero, List.set_cons_succ, i64_w, i32_w]
      rfl
    refine pure_ (i := 6) (N := some 23) (v := ?_) (a' := ?_) #[true, true, true, true, true, true, true, false, false, false, false, false, false, false] rfl rfl (by kernel_rfl) (fun _ _ _ h => h) (Or.inl ⟨by rfl, ?_⟩) ?_ ?_
    rotate_left
    · intro w'
      go_simp
      with_reducible rfl
    rotate_left
    · simp only [Act.put, List.setIfInBounds_toArray, List.set_cons_zero, List.set_cons_succ, i64_w, i32_w]
      rfl
    refine pure_ (i := 9) (N := some 26) (v := ?_) (a' := ?_) #[true, true, true, true, true, true, true, false, false, true, false, false, false, false] rfl rfl (by kernel_rfl) (fun _ _ _ h => h) (Or.inl ⟨by rfl, ?_⟩) ?_ ?_
    rotate_left
    · intro w'
      go_simp
      with_reducible rfl
    rotate_left
    · simp only [Act.put, List.setIfInBounds_toArray, List.set_cons_zero, List.set_cons_succ, i64_w, i32_w]
      rfl
    refine take_ (i := 7) (N := some 24) (v := ?_) (a' := ?_) #[true, true, true, true, true, true, true, true, false, true, false, false, false, false] rfl rfl (by kernel_rfl) (fun _ _ _ h => h) (Or.inl ⟨by rfl, ?_⟩) hHeld ?_ ?_
    rotate_left
    · rintro w' ⟨s0, s1, s2, s3, s4, s5, s6, s7, s8, s9, s10, s11⟩
      go_simp
      with_reducible rfl
    rotate_left
    · simp only [Act.put, List.setIfInBounds_toArray, List.set_cons_zero, List.set_cons_succ, i64_w, i32_w]
      rfl
    refine take_ (i := 10) (N := some 27) (v := ?_) (a' := ?_) #[true, true, true, true, true, true, true, true, false, true, true, false, false, false] rfl rfl (by kernel_rfl) (fun _ _ _ h => h) (Or.inl ⟨by rfl, ?_⟩) hHeld ?_ ?_
    rotate_left
    · rintro w' ⟨s0, s1, s2, s3, s4, s5, s6, s7, s8, s9, s10, s11⟩
      go_simp
      with_reducible rfl
    rotate_left
    · simp only [Act.put, List.setIfInBounds_toArray, List.set_cons_zero, List.set_cons_succ, i64_w, i32_w]
      rfl
    refine one_ (i := 8) (N := some 25) #[true, true, true, true, true, true, true, true, true, true, true, false, false, false] rfl rfl (by kernel_rfl) (by decide) (fun K hK => ?_)
    refine goes_ Tryd.func10 (by kernel_rfl) rfl #[.int .i64 ty, Value.agg #[.bool cnl, .int .i64 ci, .string cs]] (by rfl) rfl rfl (by simp only [List.map_toArray, List.map_cons, List.map_nil]; rfl) ?_
    with_reducible refine (HV.out _ (hB2.out.trans (hK3.mono hB2.out.size))).mono ?_
    rintro e w4 ⟨rfl, hb4⟩
    refine ⟨_, rfl, ?_⟩
    have hK4 := hK3.trans (hb4.mono hK3.size)
    refine hK.out _ _ ⟨(HKEEP.out _ hK4).1, (HKEEP.out _ hK4).2.1, (HKEEP.out _ hK4).2.2.1, (HKEEP.out _ hK4).2.2.2.1, (HKEEP.out _ hK4).2.2.2.2.1, (HKEEP.out _ hK4).2.2.2.2.2.1, (HKEEP.out _ hK4).2.2.2.2.2.2.1, (HKEEP.out _ hK4).2.2.2.2.2.2.2.1, (HKEEP.out _ hK4).2.2.2.2.2.2.2.2.1, (HKEEP.out _ hK4).2.2.2.2.2.2.2.2.2.1, (HKEEP.out _ hK4).2.2.2.2.2.2.2.2.2.2.1, (HKEEP.out _ hK4).2.2.2.2.2.2.2.2.2.2.2⟩ (fun hHeld => ?_)
    clear hK K
    refine norm_ (a' := ?_) ?_ ?_
    rotate_left
    · show Act.put _ (some 25) _ = _
      simp only [Act.put, List.setIfInBounds_toArray, List.set_cons_zero, List.set_cons_succ, i64_w, i32_w]
      rfl
    refine one_ (i := 11) (N := some 28) #[true, true, true, true, true, true, true, true, true, true, true, true, false, false] rfl rfl (by kernel_rfl) (by decide) (fun K hK => ?_)
    refine goes_ Tryd.func11 (by kernel_rfl) rfl #[.int .i64 ty, Value.agg #[.bool cnl, .int .i64 ci, .string cs]] (by rfl) rfl rfl (by simp only [List.map_toArray, List.map_cons, List.map_nil]; rfl) ?_
    with_reducible refine (HU.out _).mono ?_
    rintro e w5 ⟨rfl, hb5⟩
    refine ⟨_, rfl, ?_⟩
    have hK5 := hK4.trans (hb5.mono hK4.size)
    refine hK.out _ _ ⟨(HKEEP.out _ hK5).1, (HKEEP.out _ hK5).2.1, (HKEEP.out _ hK5).2.2.1, (HKEEP.out _ hK5).2.2.2.1, (HKEEP.out _ hK5).2.2.2.2.1, (HKEEP.out _ hK5).2.2.2.2.2.1, (HKEEP.out _ hK5).2.2.2.2.2.2.1, (HKEEP.out _ hK5).2.2.2.2.2.2.2.1, (HKEEP.out _ hK5).2.2.2.2.2.2.2.2.1, (HKEEP.out _ hK5).2.2.2.2.2.2.2.2.2.1, (HKEEP.out _ hK5).2.2.2.2.2.2.2.2.2.2.1, (HKEEP.out _ hK5).2.2.2.2.2.2.2.2.2.2.2⟩ (fun hHeld => ?_)
    clear hK K
    refine norm_ (a' := ?_) ?_ ?_
    rotate_left
    · show Act.put _ (some 28) _ = _
      simp only [Act.put, List.setIfInBounds_toArray, List.set_cons_zero, List.set_cons_succ, i64_w, i32_w]
      rfl
    refine pure_ (i := 12) (N := some 29) (v := ?_) (a' := ?_) #[true, true, true, true, true, true, true, true, true, true, true, true, true, false] rfl rfl (by kernel_rfl) (fun _ _ _ h => h) (Or.inl ⟨by rfl, ?_⟩) ?_ ?_
    rotate_left
    · intro w'
      go_simp
      with_reducible rfl
    rotate_left
    · simp only [Act.put, List.setIfInBounds_toArray, List.set_cons_zero, List.set_cons_succ, i64_w, i32_w]
      rfl
    refine pure_ (i := 13) (N := some 30) (v := ?_) (a' := ?_) #[true, true, true, true, true, true, true, true, true, true, true, true, true, true] rfl rfl (by kernel_rfl) (fun _ _ _ h => h) (Or.inl ⟨by rfl, ?_⟩) ?_ ?_
    rotate_left
    · intro w'
      go_simp
      with_reducible rfl
    rotate_left
    · simp only [Act.put, List.setIfInBounds_toArray, List.set_cons_zero, List.set_cons_succ, i64_w, i32_w]
      rfl
    refine done_ (by kernel_rfl) ?_
    have HK5 := Asd.mk hK5
    clear hK2 hK3 hK4 hK5 hb2 hb3 hb4 hb5 hHeld
    go_wp2_with fail
    have HBX : Asd (∀ W, Below w1.heap.size w1 W → Below w.heap.size w W) := ⟨fun W h => hB2.out.trans (h.mono hB2.out.size)⟩
    cases mb with
    | true =>
      have hc := Asd.mk (HC.out rfl)
      have hd := Asd.mk (HD.out rfl)
      have hy := Asd.mk (HY.out rfl)
      have hnm : Asd (∀ a b c d W, ReadS W a ys → ReadS W b ys → Calls Tryd.prog 13 #[.slice a ys.length c, .slice b ys.length d] W (Ret (.bool true) W)) := ⟨fun a b c d W h1 h2 => by simpa using names_calls ys ys a b c d W h1 h2 hy.out hy.out⟩
      clear HC HD HY
      refine start_ (n := 14) (S := fun w' => w'.cell? ⟨w.heap.size, 0, none⟩ = some (.int .i64 op) ∧ w'.cell? ⟨w.heap.size, 1, none⟩ = some (.string col) ∧ w'.cell? ⟨w.heap.size, 2, none⟩ = some (.int .i64 cm) ∧ w'.cell? ⟨w.heap.size, 3, none⟩ = some (.bool nl) ∧ w'.cell? ⟨w.heap.size, 4, none⟩ = some (.int .i64 i) ∧ w'.cell? ⟨w.heap.size, 5, none⟩ = some (.string str) ∧ w'.cell? ⟨w.heap.size, 6, none⟩ = some (.int .i64 kd) ∧ w'.cell? ⟨w.heap.size, 7, none⟩ = some (.string pat) ∧ w'.cell? ⟨w.heap.size, 8, none⟩ = some (.slice ka kids.length kc) ∧ w'.cell? ⟨w.heap.size + 1, 0, none⟩ = some (.bool cnl) ∧ w'.cell? ⟨w.heap.size + 1, 1, none⟩ = some (.int .i64 ci) ∧ w'.cell? ⟨w.heap.size + 1, 2, none⟩ = some (.string cs)) (ds := []) #[false, false, false, false, false, false, false, false, false, false, false, false, false, false] (by kernel_rfl) rfl rfl ⟨(HKEEP.out _ (HK5.out.drew)).1, (HKEEP.out _ (HK5.out.drew)).2.1, (HKEEP.out _ (HK5.out.drew)).2.2.1, (HKEEP.out _ (HK5.out.drew)).2.2.2.1, (HKEEP.out _ (HK5.out.drew)).2.2.2.2.1, (HKEEP.out _ (HK5.out.drew)).2.2.2.2.2.1, (HKEEP.out _ (HK5.out.drew)).2.2.2.2.2.2.1, (HKEEP.out _ (HK5.out.drew)).2.2.2.2.2.2.2.1, (HKEEP.out _ (HK5.out.drew)).2.2.2.2.2.2.2.2.1, (HKEEP.out _ (HK5.out.drew)).2.2.2.2.2.2.2.2.2.1, (HKEEP.out _ (HK5.out.drew)).2.2.2.2.2.2.2.2.2.2.1, (HKEEP.out _ (HK5.out.drew)).2.2.2.2.2.2.2.2.2.2.2⟩ (fun hHeld => ?_)
      refine take_ (i := 0) (N := some 31) (v := ?_) (a' := ?_) #[true, false, false, false, false, false, false, false, false, false, false, false, false, false] rfl rfl (by kernel_rfl) (fun _ _ _ h => h) (Or.inl ⟨by rfl, ?_⟩) hHeld ?_ ?_
      rotate_left
      · rintro w' ⟨s0, s1, s2, s3, s4, s5, s6, s7, s8, s9, s10, s11⟩
        go_simp
        with_reducible rfl
      rotate_left
      · simp only [Act.put, List.setIfInBounds_toArray, List.set_cons_zero, List.set_cons_succ, i64_w, i32_w]
        rfl
      refine one_ (i := 1) (N := some 32) #[true, true, false, false, false, false, false, false, false, false, false, false, false, false] rfl rfl (by kernel_rfl) (by decide) (fun K hK => ?_)
      refine goes_ Tryd.func12 (by kernel_rfl) rfl #[Value.agg #[.int .i64 op, .string col, .int .i64 cm, .bool nl, .int .i64 i, .string str, .int .i64 kd, .string pat, .slice ka kids.length kc]] (by rfl) rfl rfl (by simp only [List.map_toArray, List.map_cons, List.map_nil]; rfl) ?_
      with_reducible refine (HM.out _ (HBX.out _ HK5.out.drew)).mono ?_
      rintro e w6 ⟨rfl, hb6⟩
      refine ⟨_, rfl, ?_⟩
      have hK6 := HK5.out.trans ((bundrew hb6).mono HK5.out.size)
      refine hK.out _ _ ⟨(HKEEP.out _ hK6).1, (HKEEP.out _ hK6).2.1, (HKEEP.out _ hK6).2.2.1, (HKEEP.out _ hK6).2.2.2.1, (HKEEP.out _ hK6).2.2.2.2.1, (HKEEP.out _ hK6).2.2.2.2.2.1, (HKEEP.out _ hK6).2.2.2.2.2.2.1, (HKEEP.out _ hK6).2.2.2.2.2.2.2.1, (HKEEP.out _ hK6).2.2.2.2.2.2.2.2.1, (HKEEP.out _ hK6).2.2.2.2.2.2.2.2.2.1, (HKEEP.out _ hK6).2.2.2.2.2.2.2.2.2.2.1, (HKEEP.out _ hK6).2.2.2.2.2.2.2.2.2.2.2⟩ (fun hHeld => ?_)
      clear hK K
      refine norm_ (a' := ?_) ?_ ?_
      rotate_left
      · show Act.put _ (some 32) _ = _
        simp only [Act.put, List.setIfInBounds_toArray, List.set_cons_zero, List.set_cons_succ, i64_w, i32_w]
        rfl
      refine pure_ (i := 2) (N := some 33) (v := ?_) (a' := ?_) #[true, true, true, false, false, false, false, false, false, false, false, false, false, false] rfl rfl (by kernel_rfl) (fun _ _ _ h => h) (Or.inl ⟨by rfl, ?_⟩) ?_ ?_
      rotate_left
      · intro w'
        go_simp
        with_reducible rfl
      rotate_left
      · simp only [Act.put, List.setIfInBounds_toArray, List.set_cons_zero, List.set_cons_succ, i64_w, i32_w]
        rfl
      refine pure_ (i := 3) (N := some 34) (v := ?_) (a' := ?_) #[true, true, true, true, false, false, false, false, false, false, false, false, false, false] rfl rfl (by kernel_rfl) (fun _ _ _ h => h) (Or.inl ⟨by rfl, ?_⟩) ?_ ?_
      rotate_left
      · intro w'
        go_simp
        with_reducible rfl
      rotate_left
      · simp only [Act.put, List.setIfInBounds_toArray, List.set_cons_zero, List.set_cons_succ, i64_w, i32_w]
        rfl
      refine take_ (i := 4) (N := some 35) (v := ?_) (a' := ?_) #[true, true, true, true, true, false, false, false, false, false, false, false, false, false] rfl rfl (by kernel_rfl) (fun _ _ _ h => h) (Or.inl ⟨by rfl, ?_⟩) hHeld ?_ ?_
      rotate_left
      · rintro w' ⟨s0, s1, s2, s3, s4, s5, s6, s7, s8, s9, s10, s11⟩
        go_simp
        with_reducible rfl
      rotate_left
      · simp only [Act.put, List.setIfInBounds_toArray, List.set_cons_zero, List.set_cons_succ, i64_w, i32_w]
        rfl
      refine take_ (i := 6) (N := some 37) (v := ?_) (a' := ?_) #[true, true, true, true, true, false, true, false, false, false, false, false, false, false] rfl rfl (by kernel_rfl) (fun _ _ _ h => h) (Or.inl ⟨by rfl, ?_⟩) hHeld ?_ ?_
      rotate_left
      · rintro w' ⟨s0, s1, s2, s3, s4, s5, s6, s7, s8, s9, s10, s11⟩
        go_simp
        with_reducible rfl
      rotate_left
      · simp only [Act.put, List.setIfInBounds_toArray, List.set_cons_zero, List.set_cons_succ, i64_w, i32_w]
        rfl
      refine one_ (i := 5) (N := some 36) #[true, true, true, true, true, true, true, false, false, false, false, false, false, false] rfl rfl (by kernel_rfl) (by decide) (fun K hK => ?_)
      refine goes_ Tryd.func14 (by kernel_rfl) rfl #[Value.agg #[.int .i64 op, .string col, .int .i64 cm, .bool nl, .int .i64 i, .string str, .int .i64 kd, .string pat, .slice ka kids.length kc]] (by rfl) rfl rfl (by simp only [List.map_toArray, List.map_cons, List.map_nil]; rfl) ?_
      with_reducible refine (hc.out _ (HBX.out _ hK6)).mono ?_
      rintro e w7 ⟨a1, c1, rfl, hr1, hb7⟩
      refine ⟨_, rfl, ?_⟩
      have hK7 := hK6.trans (hb7.mono hK6.size)
      refine hK.out _ _ ⟨(HKEEP.out _ hK7).1, (HKEEP.out _ hK7).2.1, (HKEEP.out _ hK7).2.2.1, (HKEEP.out _ hK7).2.2.2.1, (HKEEP.out _ hK7).2.2.2.2.1, (HKEEP.out _ hK7).2.2.2.2.2.1, (HKEEP.out _ hK7).2.2.2.2.2.2.1, (HKEEP.out _ hK7).2.2.2.2.2.2.2.1, (HKEEP.out _ hK7).2.2.2.2.2.2.2.2.1, (HKEEP.out _ hK7).2.2.2.2.2.2.2.2.2.1, (HKEEP.out _ hK7).2.2.2.2.2.2.2.2.2.2.1, (HKEEP.out _ hK7).2.2.2.2.2.2.2.2.2.2.2⟩ (fun hHeld => ?_)
      clear hK K
      refine norm_ (a' := ?_) ?_ ?_
      rotate_left
      · show Act.put _ (some 36) _ = _
        simp only [Act.put, List.setIfInBounds_toArray, List.set_cons_zero, List.set_cons_succ, i64_w, i32_w]
        rfl
      refine one_ (i := 7) (N := some 38) #[true, true, true, true, true, true, true, true, false, false, false, false, false, false] rfl rfl (by kernel_rfl) (by decide) (fun K hK => ?_)
      refine goes_ Tryd.func15 (by kernel_rfl) rfl #[.slice none 0 0, Value.agg #[.int .i64 op, .string col, .int .i64 cm, .bool nl, .int .i64 i, .string str, .int .i64 kd, .string pat, .slice ka kids.length kc]] (by rfl) rfl rfl (by simp only [List.map_toArray, List.map_cons, List.map_nil]; rfl) ?_
      with_reducible refine (hd.out _ (HBX.out _ hK7)).mono ?_
      rintro e w8 ⟨a2, c2, rfl, hr2, hb8⟩
      refine ⟨_, rfl, ?_⟩
      have hK8 := hK7.trans (hb8.mono hK7.size)
      refine hK.out _ _ ⟨(HKEEP.out _ hK8).1, (HKEEP.out _ hK8).2.1, (HKEEP.out _ hK8).2.2.1, (HKEEP.out _ hK8).2.2.2.1, (HKEEP.out _ hK8).2.2.2.2.1, (HKEEP.out _ hK8).2.2.2.2.2.1, (HKEEP.out _ hK8).2.2.2.2.2.2.1, (HKEEP.out _ hK8).2.2.2.2.2.2.2.1, (HKEEP.out _ hK8).2.2.2.2.2.2.2.2.1, (HKEEP.out _ hK8).2.2.2.2.2.2.2.2.2.1, (HKEEP.out _ hK8).2.2.2.2.2.2.2.2.2.2.1, (HKEEP.out _ hK8).2.2.2.2.2.2.2.2.2.2.2⟩ (fun hHeld => ?_)
      clear hK K
      refine norm_ (a' := ?_) ?_ ?_
      rotate_left
      · show Act.put _ (some 38) _ = _
        simp only [Act.put, List.setIfInBounds_toArray, List.set_cons_zero, List.set_cons_succ, i64_w, i32_w]
        rfl
      refine one_ (i := 8) (N := some 39) #[true, true, true, true, true, true, true, true, true, false, false, false, false, false] rfl rfl (by kernel_rfl) (by decide) (fun K hK => ?_)
      refine goes_ Tryd.func13 (by kernel_rfl) rfl #[.slice a1 ys.length c1, .slice a2 ys.length c2] (by rfl) rfl rfl (by simp only [List.map_toArray, List.map_cons, List.map_nil]; rfl) ?_
      with_reducible refine (hnm.out _ _ _ _ _ (hr1.low hb8) hr2).mono ?_
      rintro e w9 ⟨rfl, hb9⟩
      refine ⟨_, rfl, ?_⟩
      have hK9 := hK8.trans (hb9.mono hK8.size)
      refine hK.out _ _ ⟨(HKEEP.out _ hK9).1, (HKEEP.out _ hK9).2.1, (HKEEP.out _ hK9).2.2.1, (HKEEP.out _ hK9).2.2.2.1, (HKEEP.out _ hK9).2.2.2.2.1, (HKEEP.out _ hK9).2.2.2.2.2.1, (HKEEP.out _ hK9).2.2.2.2.2.2.1, (HKEEP.out _ hK9).2.2.2.2.2.2.2.1, (HKEEP.out _ hK9).2.2.2.2.2.2.2.2.1, (HKEEP.out _ hK9).2.2.2.2.2.2.2.2.2.1, (HKEEP.out _ hK9).2.2.2.2.2.2.2.2.2.2.1, (HKEEP.out _ hK9).2.2.2.2.2.2.2.2.2.2.2⟩ (fun hHeld => ?_)
      clear hK K
      refine norm_ (a' := ?_) ?_ ?_
      rotate_left
      · show Act.put _ (some 39) _ = _
        simp only [Act.put, List.setIfInBounds_toArray, List.set_cons_zero, List.set_cons_succ, i64_w, i32_w]
        rfl
      refine pure_ (i := 9) (N := some 40) (v := ?_) (a' := ?_) #[true, true, true, true, true, true, true, true, true, true, false, false, false, false] rfl rfl (by kernel_rfl) (fun _ _ _ h => h) (Or.inl ⟨by rfl, ?_⟩) ?_ ?_
      rotate_left
      · intro w'
        go_simp
        with_reducible rfl
      rotate_left
      · simp only [Act.put, List.setIfInBounds_toArray, List.set_cons_zero, List.set_cons_succ, i64_w, i32_w]
        rfl
      refine pure_ (i := 10) (N := some 41) (v := ?_) (a' := ?_) #[true, true, true, true, true, true, true, true, true, true, true, false, false, false] rfl rfl (by kernel_rfl) (fun _ _ _ h => h) (Or.inl ⟨by rfl, ?_⟩) ?_ ?_
      rotate_left
      · intro w'
        go_simp
        with_reducible rfl
      rotate_left
      · simp only [Act.put, List.setIfInBounds_toArray, List.set_cons_zero, List.set_cons_succ, i64_w, i32_w]
        rfl
      refine one_ (i := 11) (N := some 42) #[true, true, true, true, true, true, true, true, true, true, true, true, false, false] rfl rfl (by kernel_rfl) (by decide) (fun K hK => ?_)
      refine goes_ Tryd.func7 (by kernel_rfl) rfl #[] (by rfl) rfl rfl (by first | rfl | simp) ?_
      with_reducible refine (HL.out _ (HBX.out _ hK9)).mono ?_
      rintro e w10 ⟨rfl, hb10⟩
      refine ⟨_, rfl, ?_⟩
      have hK10 := hK9.trans (hb10.mono hK9.size)
      refine hK.out _ _ ⟨(HKEEP.out _ hK10).1, (HKEEP.out _ hK10).2.1, (HKEEP.out _ hK10).2.2.1, (HKEEP.out _ hK10).2.2.2.1, (HKEEP.out _ hK10).2.2.2.2.1, (HKEEP.out _ hK10).2.2.2.2.2.1, (HKEEP.out _ hK10).2.2.2.2.2.2.1, (HKEEP.out _ hK10).2.2.2.2.2.2.2.1, (HKEEP.out _ hK10).2.2.2.2.2.2.2.2.1, (HKEEP.out _ hK10).2.2.2.2.2.2.2.2.2.1, (HKEEP.out _ hK10).2.2.2.2.2.2.2.2.2.2.1, (HKEEP.out _ hK10).2.2.2.2.2.2.2.2.2.2.2⟩ (fun hHeld => ?_)
      clear hK K
      refine norm_ (a' := ?_) ?_ ?_
      rotate_left
      · show Act.put _ (some 42) _ = _
        simp only [Act.put, List.setIfInBounds_toArray, List.set_cons_zero, List.set_cons_succ, i64_w, i32_w]
        rfl
      refine pure_ (i := 12) (N := some 43) (v := ?_) (a' := ?_) #[true, true, true, true, true, true, true, true, true, true, true, true, true, false] rfl rfl (by kernel_rfl) (fun _ _ _ h => h) (Or.inl ⟨by rfl, ?_⟩) ?_ ?_
      rotate_left
      · intro w'
        go_simp
        with_reducible rfl
      rotate_left
      · simp only [Act.put, List.setIfInBounds_toArray, List.set_cons_zero, List.set_cons_succ, i64_w, i32_w]
        rfl
      refine pure_ (i := 13) (N := some 6) (v := ?_) (a' := ?_) #[true, true, true, true, true, true, true, true, true, true, true, true, true, true] rfl rfl (by kernel_rfl) (fun _ _ _ h => h) (Or.inl ⟨by rfl, ?_⟩) ?_ ?_
      rotate_left
      · intro w'
        go_simp
        with_reducible rfl
      rotate_left
      · simp only [Act.put, List.setIfInBounds_toArray, List.set_cons_zero, List.set_cons_succ, i64_w, i32_w]
        rfl
      refine done_ (by kernel_rfl) ?_
      have HF := Asd.mk (HBX.out _ hK10)
      go_wp2_with fail
      go_ret
      exact ⟨rfl, HF.out⟩
    | false =>
      clear HC HD HY
      refine start_ (n := 14) (S := fun w' => w'.cell? ⟨w.heap.size, 0, none⟩ = some (.int .i64 op) ∧ w'.cell? ⟨w.heap.size, 1, none⟩ = some (.string col) ∧ w'.cell? ⟨w.heap.size, 2, none⟩ = some (.int .i64 cm) ∧ w'.cell? ⟨w.heap.size, 3, none⟩ = some (.bool nl) ∧ w'.cell? ⟨w.heap.size, 4, none⟩ = some (.int .i64 i) ∧ w'.cell? ⟨w.heap.size, 5, none⟩ = some (.string str) ∧ w'.cell? ⟨w.heap.size, 6, none⟩ = some (.int .i64 kd) ∧ w'.cell? ⟨w.heap.size, 7, none⟩ = some (.string pat) ∧ w'.cell? ⟨w.heap.size, 8, none⟩ = some (.slice ka kids.length kc) ∧ w'.cell? ⟨w.heap.size + 1, 0, none⟩ = some (.bool cnl) ∧ w'.cell? ⟨w.heap.size + 1, 1, none⟩ = some (.int .i64 ci) ∧ w'.cell? ⟨w.heap.size + 1, 2, none⟩ = some (.string cs)) (ds := []) #[false, false, false, false, false, false, false, false, false, false, false, false, false, false] (by kernel_rfl) rfl rfl ⟨(HKEEP.out _ (HK5.out.drew)).1, (HKEEP.out _ (HK5.out.drew)).2.1, (HKEEP.out _ (HK5.out.drew)).2.2.1, (HKEEP.out _ (HK5.out.drew)).2.2.2.1, (HKEEP.out _ (HK5.out.drew)).2.2.2.2.1, (HKEEP.out _ (HK5.out.drew)).2.2.2.2.2.1, (HKEEP.out _ (HK5.out.drew)).2.2.2.2.2.2.1, (HKEEP.out _ (HK5.out.drew)).2.2.2.2.2.2.2.1, (HKEEP.out _ (HK5.out.drew)).2.2.2.2.2.2.2.2.1, (HKEEP.out _ (HK5.out.drew)).2.2.2.2.2.2.2.2.2.1, (HKEEP.out _ (HK5.out.drew)).2.2.2.2.2.2.2.2.2.2.1, (HKEEP.out _ (HK5.out.drew)).2.2.2.2.2.2.2.2.2.2.2⟩ (fun hHeld => ?_)
      refine take_ (i := 0) (N := some 31) (v := ?_) (a' := ?_) #[true, false, false, false, false, false, false, false, false, false, false, false, false, false] rfl rfl (by kernel_rfl) (fun _ _ _ h => h) (Or.inl ⟨by rfl, ?_⟩) hHeld ?_ ?_
      rotate_left
      · rintro w' ⟨s0, s1, s2, s3, s4, s5, s6, s7, s8, s9, s10, s11⟩
        go_simp
        with_reducible rfl
      rotate_left
      · simp only [Act.put, List.setIfInBounds_toArray, List.set_cons_zero, List.set_cons_succ, i64_w, i32_w]
        rfl
      refine one_ (i := 1) (N := some 32) #[true, true, false, false, false, false, false, false, false, false, false, false, false, false] rfl rfl (by kernel_rfl) (by decide) (fun K hK => ?_)
      refine goes_ Tryd.func12 (by kernel_rfl) rfl #[Value.agg #[.int .i64 op, .string col, .int .i64 cm, .bool nl, .int .i64 i, .string str, .int .i64 kd, .string pat, .slice ka kids.length kc]] (by rfl) rfl rfl (by simp only [List.map_toArray, List.map_cons, List.map_nil]; rfl) ?_
      with_reducible refine (HM.out _ (HBX.out _ HK5.out.drew)).mono ?_
      rintro e w6 ⟨rfl, hb6⟩
      refine ⟨_, rfl, ?_⟩
      have hK6 := HK5.out.trans ((bundrew hb6).mono HK5.out.size)
      refine hK.out _ _ ⟨(HKEEP.out _ hK6).1, (HKEEP.out _ hK6).2.1, (HKEEP.out _ hK6).2.2.1, (HKEEP.out _ hK6).2.2.2.1, (HKEEP.out _ hK6).2.2.2.2.1, (HKEEP.out _ hK6).2.2.2.2.2.1, (HKEEP.out _ hK6).2.2.2.2.2.2.1, (HKEEP.out _ hK6).2.2.2.2.2.2.2.1, (HKEEP.out _ hK6).2.2.2.2.2.2.2.2.1, (HKEEP.out _ hK6).2.2.2.2.2.2.2.2.2.1, (HKEEP.out _ hK6).2.2.2.2.2.2.2.2.2.2.1, (HKEEP.out _ hK6).2.2.2.2.2.2.2.2.2.2.2⟩ (fun hHeld => ?_)
      clear hK K
      refine norm_ (a' := ?_) ?_ ?_
      rotate_left
      · show Act.put _ (some 32) _ = _
        simp only [Act.put, List.setIfInBounds_toArray, List.set_cons_zero, List.set_cons_succ, i64_w, i32_w]
        rfl
      refine pure_ (i := 2) (N := some 33) (v := ?_) (a' := ?_) #[true, true, true, false, false, false, false, false, false, false, false, false, false, false] rfl rfl (by kernel_rfl) (fun _ _ _ h => h) (Or.inl ⟨by rfl, ?_⟩) ?_ ?_
      rotate_left
      · intro w'
        go_simp
        with_reducible rfl
      rotate_left
      · simp only [Act.put, List.setIfInBounds_toArray, List.set_cons_zero, List.set_cons_succ, i64_w, i32_w]
        rfl
      refine pure_ (i := 3) (N := some 34) (v := ?_) (a' := ?_) #[true, true, true, true, false, false, false, false, false, false, false, false, false, false] rfl rfl (by kernel_rfl) (fun _ _ _ h => h) (Or.inl ⟨by rfl, ?_⟩) ?_ ?_
      rotate_left
      · intro w'
        go_simp
        with_reducible rfl
      rotate_left
      · simp only [Act.put, List.setIfInBounds_toArray, List.set_cons_zero, List.set_cons_succ, i64_w, i32_w]
        rfl
      refine pure_ (i := 4) (N := some 35) (v := undef) (a' := ?_) #[true, true, true, true, true, false, false, false, false, false, false, false, false, false] rfl rfl (by kernel_rfl) (fun _ _ _ h => h) (Or.inr ⟨by rfl, rfl⟩) ?_ ?_
      rotate_left
      · simp only [Act.put, List.setIfInBounds_toArray, List.set_cons_zero, List.set_cons_succ, i64_w, i32_w]
        rfl
      refine pure_ (i := 5) (N := some 36) (v := undef) (a' := ?_) #[true, true, true, true, true, true, false, false, false, false, false, false, false, false] rfl rfl (by kernel_rfl) (fun _ _ _ h => h) (Or.inr ⟨by rfl, rfl⟩) ?_ ?_
      rotate_left
      · simp only [Act.put, List.setIfInBounds_toArray, List.set_cons_zero, List.set_cons_succ, i64_w, i32_w]
        rfl
      refine pure_ (i := 6) (N := some 37) (v := undef) (a' := ?_) #[true, true, true, true, true, true, true, false, false, false, false, false, false, false] rfl rfl (by kernel_rfl) (fun _ _ _ h => h) (Or.inr ⟨by rfl, rfl⟩) ?_ ?_
      rotate_left
      · simp only [Act.put, List.setIfInBounds_toArray, List.set_cons_zero, List.set_cons_succ, i64_w, i32_w]
        rfl
      refine pure_ (i := 7) (N := some 38) (v := undef) (a' := ?_) #[true, true, true, true, true, true, true, true, false, false, false, false, false, false] rfl rfl (by kernel_rfl) (fun _ _ _ h => h) (Or.inr ⟨by rfl, rfl⟩) ?_ ?_
      rotate_left
      · simp only [Act.put, List.setIfInBounds_toArray, List.set_cons_zero, List.set_cons_succ, i64_w, i32_w]
        rfl
      refine pure_ (i := 8) (N := some 39) (v := undef) (a' := ?_) #[true, true, true, true, true, true, true, true, true, false, false, false, false, false] rfl rfl (by kernel_rfl) (fun _ _ _ h => h) (Or.inr ⟨by rfl, rfl⟩) ?_ ?_
      rotate_left
      · simp only [Act.put, List.setIfInBounds_toArray, List.set_cons_zero, List.set_cons_succ, i64_w, i32_w]
        rfl
      refine pure_ (i := 9) (N := some 40) (v := ?_) (a' := ?_) #[true, true, true, true, true, true, true, true, true, true, false, false, false, false] rfl rfl (by kernel_rfl) (fun _ _ _ h => h) (Or.inl ⟨by rfl, ?_⟩) ?_ ?_
      rotate_left
      · intro w'
        go_simp
        with_reducible rfl
      rotate_left
      · simp only [Act.put, List.setIfInBounds_toArray, List.set_cons_zero, List.set_cons_succ, i64_w, i32_w]
        rfl
      refine pure_ (i := 10) (N := some 41) (v := ?_) (a' := ?_) #[true, true, true, true, true, true, true, true, true, true, true, false, false, false] rfl rfl (by kernel_rfl) (fun _ _ _ h => h) (Or.inl ⟨by rfl, ?_⟩) ?_ ?_
      rotate_left
      · intro w'
        go_simp
        with_reducible rfl
      rotate_left
      · simp only [Act.put, List.setIfInBounds_toArray, List.set_cons_zero, List.set_cons_succ, i64_w, i32_w]
        rfl
      refine one_ (i := 11) (N := some 42) #[true, true, true, true, true, true, true, true, true, true, true, true, false, false] rfl rfl (by kernel_rfl) (by decide) (fun K hK => ?_)
      refine goes_ Tryd.func7 (by kernel_rfl) rfl #[] (by rfl) rfl rfl (by first | rfl | simp) ?_
      with_reducible refine (HL.out _ (HBX.out _ hK6)).mono ?_
      rintro e w10 ⟨rfl, hb10⟩
      refine ⟨_, rfl, ?_⟩
      have hK10 := hK6.trans (hb10.mono hK6.size)
      refine hK.out _ _ ⟨(HKEEP.out _ hK10).1, (HKEEP.out _ hK10).2.1, (HKEEP.out _ hK10).2.2.1, (HKEEP.out _ hK10).2.2.2.1, (HKEEP.out _ hK10).2.2.2.2.1, (HKEEP.out _ hK10).2.2.2.2.2.1, (HKEEP.out _ hK10).2.2.2.2.2.2.1, (HKEEP.out _ hK10).2.2.2.2.2.2.2.1, (HKEEP.out _ hK10).2.2.2.2.2.2.2.2.1, (HKEEP.out _ hK10).2.2.2.2.2.2.2.2.2.1, (HKEEP.out _ hK10).2.2.2.2.2.2.2.2.2.2.1, (HKEEP.out _ hK10).2.2.2.2.2.2.2.2.2.2.2⟩ (fun hHeld => ?_)
      clear hK K
      refine norm_ (a' := ?_) ?_ ?_
      rotate_left
      · show Act.put _ (some 42) _ = _
        simp only [Act.put, List.setIfInBounds_toArray, List.set_cons_zero, List.set_cons_succ, i64_w, i32_w]
        rfl
      refine pure_ (i := 12) (N := some 43) (v := ?_) (a' := ?_) #[true, true, true, true, true, true, true, true, true, true, true, true, true, false] rfl rfl (by kernel_rfl) (fun _ _ _ h => h) (Or.inl ⟨by rfl, ?_⟩) ?_ ?_
      rotate_left
      · intro w'
        go_simp
        with_reducible rfl
      rotate_left
      · simp only [Act.put, List.setIfInBounds_toArray, List.set_cons_zero, List.set_cons_succ, i64_w, i32_w]
        rfl
      refine pure_ (i := 13) (N := some 6) (v := ?_) (a' := ?_) #[true, true, true, true, true, true, true, true, true, true, true, true, true, true] rfl rfl (by kernel_rfl) (fun _ _ _ h => h) (Or.inl ⟨by rfl, ?_⟩) ?_ ?_
      rotate_left
      · intro w'
        go_simp
        with_reducible rfl
      rotate_left
      · simp only [Act.put, List.setIfInBounds_toArray, List.set_cons_zero, List.set_cons_succ, i64_w, i32_w]
        rfl
      refine done_ (by kernel_rfl) ?_
      have HF := Asd.mk (HBX.out _ hK10)
      go_wp2_with fail
      go_ret
      exact ⟨rfl, HF.out⟩
end Go.Proofs.YthhjhlodgfdlgaaDoor
