import Derived.Test.YthhjhlodgfdlgaaDoorFits
import Derived.Test.YthhjhlodgfdlgaaDoorLive
set_option linter.unusedVariables false
set_option linter.unusedSimpArgs false
namespace Go.Proofs.YthhjhlodgfdlgaaDoor
open Go Go.RowKit Go.Proofs.YthhjhlodgfdlgaaDoorW.PrintLast

set_option maxHeartbeats 4000000 in
set_option maxRecDepth 100000 in
theorem lawMay_calls (cols : List Co) (ad : Option Addr) (cap : Nat) (p : Pr) (w : World) (hr : RowAt w ad cols) (hcap : cols.length ≤ cap) (hcm : cap ≤ 9223372036854775807) (hfine : ∀ c ∈ cols, c.name.size ≤ 9223372036854775807) (hp : InPr w p) (hs : StdOk w) :
    Calls Tryd.prog 4 #[.slice ad cols.length cap, p.v] w (Ret (.bool true) w) := by
  have hB1 := (Below.refl w.heap.size w).alloc (Nat.le_refl _) (Obj.cells (encPr p).toArray 26)
  have hls := lawSmall_calls cols ad cap _ (hr.low hB1) hfine
  have HL := Asd.mk (fun W (hW : Below w.heap.size w W) => live_calls W (hs.low hW))
  have HS := Asd.mk (fun W (hW : Below w.heap.size w W) => refSmall_calls 9 p W (hp.low hW) (by omega))
  have HM := Asd.mk (fun W (hW : Below w.heap.size w W) => predMay_calls p W (hp.low hW))
  have HN := Asd.mk (fun W (hW : Below w.heap.size w W) => refMay_calls p W (hp.low hW))
  have HF := Asd.mk (fun W (hW : Below w.heap.size w W) => predFits_calls cols p ad cap W (hr.low hW) hcap hcm hfine (hp.low hW))
  have HG := Asd.mk (fun W (hW : Below w.heap.size w W) => refFits_calls cols p ad cap W (hr.low hW) hfine (hp.low hW))
  have hfe : fitsI cols p = fitsV (mayR p) (errC cols) (typedN cols 6 p) := by rw [fitsI, may_eq]
  rw [hfe] at HF
  rw [may_eq p] at HM
  clear hr hfine hp hs hfe
  generalize fitsV (mayR p) (errC cols) (typedN cols 6 p) = fv at *
  generalize mayR p = mb at *
  generalize smallL cols = sl at *
  generalize smallF 9 p = sp at *
  have HB1 := Asd.mk hB1
  clear hB1
  obtain ⟨op, col, cm, ⟨nl, i, str⟩, kd, pat, ka, kc, kids⟩ := p
  simp only [Pr.v, encPr, Pr.op, Pr.col, Pr.cmp, Pr.val, Pr.kind, Pr.pat, Pr.ka, Pr.kc, Pr.kids] at *
  have hm1 : (mb == mb) = true := by simp
  have hf1 : (fv == fv) = true := by simp
  cases sl with
  | false =>
    go_enter Tryd.func4, Tryd.ntmps4
    go_wp2_with fail
    go_call hls as e w1 ⟨rfl, hb1⟩
    have hB2 := Asd.mk (bnext HB1.out hb1)
    clear hb1
    go_wp2_with fail
    go_call (HL.out _ hB2.out) as e w2 ⟨rfl, hb2⟩
    go_wp2_with fail
    go_ret
    exact ⟨rfl, bnext hB2.out hb2⟩
  | true =>
    cases sp with
    | false =>
      go_enter Tryd.func4, Tryd.ntmps4
      go_wp2_with fail
      go_call hls as e w1 ⟨rfl, hb1⟩
      have hp1 := fun o => (bcell hb1).1 w.heap.size o (by simp)
      have hB2 := Asd.mk (bnext HB1.out hb1)
      clear hb1
      have hsm := HS.out _ hB2.out
      go_wp2_with fail
      go_call hsm as e w2 ⟨rfl, hb2⟩
      have hB3 := Asd.mk (bnext hB2.out hb2)
      clear hb2
      go_wp2_with fail
      go_call (HL.out _ hB3.out) as e w3 ⟨rfl, hb3⟩
      go_wp2_with fail
      go_ret
      exact ⟨rfl, bnext hB3.out hb3⟩
    | true =>
      go_enter Tryd.func4, Tryd.ntmps4
      go_wp2_with fail
      go_call hls as e w1 ⟨rfl, hb1⟩
      have hp1 := fun o => (bcell hb1).1 w.heap.size o (by simp)
      have hB2 := Asd.mk (bnext HB1.out hb1)
      have hHb1 := Asd.mk hb1
      clear hb1
      have hsm := HS.out _ hB2.out
      go_wp2_with fail
      go_call hsm as e w2 ⟨rfl, hb2⟩
      have HKEEP : Asd (∀ W, Below w2.heap.size w2 W → W.cell? ⟨w.heap.size, 0, none⟩ = some (.int .i64 op) ∧ W.cell? ⟨w.heap.size, 1, none⟩ = some (.string col) ∧ W.cell? ⟨w.heap.size, 2, none⟩ = some (.int .i64 cm) ∧ W.cell? ⟨w.heap.size, 3, none⟩ = some (.bool nl) ∧ W.cell? ⟨w.heap.size, 4, none⟩ = some (.int .i64 i) ∧ W.cell? ⟨w.heap.size, 5, none⟩ = some (.string str) ∧ W.cell? ⟨w.heap.size, 6, none⟩ = some (.int .i64 kd) ∧ W.cell? ⟨w.heap.size, 7, none⟩ = some (.string pat) ∧ W.cell? ⟨w.heap.size, 8, none⟩ = some (.slice ka kids.length kc)) := ⟨fun W hW => by
        have hX := hHb1.out.trans ((hb2.trans (hW.mono hb2.size)).mono hHb1.out.size)
        have g := fun o => (bcell hX).1 w.heap.size o (by simp)
        refine ⟨?_, ?_, ?_, ?_, ?_, ?_, ?_, ?_, ?_⟩ <;> (rw [g]; simp)⟩
      have hB3 := Asd.mk (bnext hB2.out hb2)
      clear hb2 hp1 hsm
      go_wp2_with fail
      refine start_ (n := 19) (S := fun w' => w'.cell? ⟨w.heap.size, 0, none⟩ = some (.int .i64 op) ∧ w'.cell? ⟨w.heap.size, 1, none⟩ = some (.string col) ∧ w'.cell? ⟨w.heap.size, 2, none⟩ = some (.int .i64 cm) ∧ w'.cell? ⟨w.heap.size, 3, none⟩ = some (.bool nl) ∧ w'.cell? ⟨w.heap.size, 4, none⟩ = some (.int .i64 i) ∧ w'.cell? ⟨w.heap.size, 5, none⟩ = some (.string str) ∧ w'.cell? ⟨w.heap.size, 6, none⟩ = some (.int .i64 kd) ∧ w'.cell? ⟨w.heap.size, 7, none⟩ = some (.string pat) ∧ w'.cell? ⟨w.heap.size, 8, none⟩ = some (.slice ka kids.length kc)) (ds := []) #[false, false, false, false, false, false, false, false, false, false, false, false, false, false, false, false, false, false, false] (by kernel_rfl) rfl rfl ⟨(HKEEP.out _ (Below.refl _ _).drew).1, (HKEEP.out _ (Below.refl _ _).drew).2.1, (HKEEP.out _ (Below.refl _ _).drew).2.2.1, (HKEEP.out _ (Below.refl _ _).drew).2.2.2.1, (HKEEP.out _ (Below.refl _ _).drew).2.2.2.2.1, (HKEEP.out _ (Below.refl _ _).drew).2.2.2.2.2.1, (HKEEP.out _ (Below.refl _ _).drew).2.2.2.2.2.2.1, (HKEEP.out _ (Below.refl _ _).drew).2.2.2.2.2.2.2.1, (HKEEP.out _ (Below.refl _ _).drew).2.2.2.2.2.2.2.2⟩ (fun hHeld => ?_)
      refine take_ (i := 0) (N := some 14) (v := ?_) (a' := ?_) #[true, false, false, false, false, false, false, false, false, false, false, false, false, false, false, false, false, false, false] rfl rfl (by kernel_rfl) (fun _ _ _ h => h) (Or.inl ⟨by rfl, ?_⟩) hHeld ?_ ?_
      rotate_left
      · rintro w' ⟨s0, s1, s2, s3, s4, s5, s6, s7, s8⟩
        go_simp
        with_reducible rfl
      rotate_left
      · simp only [Act.put, List.setIfInBounds_toArray, List.set_cons_zero, List.set_cons_succ, i64_w, i32_w]
        rfl
      refine take_ (i := 2) (N := some 16) (v := ?_) (a' := ?_) #[true, false, true, false, false, false, false, false, false, false, false, false, false, false, false, false, false, false, false] rfl rfl (by kernel_rfl) (fun _ _ _ h => h) (Or.inl ⟨by rfl, ?_⟩) hHeld ?_ ?_
      rotate_left
      · rintro w' ⟨s0, s1, s2, s3, s4, s5, s6, s7, s8⟩
        go_simp
        with_reducible rfl
      rotate_left
      · simp only [Act.put, List.setIfInBounds_toArray, List.set_cons_zero, List.set_cons_succ, i64_w, i32_w]
        rfl
      refine one_ (i := 1) (N := some 15) #[true, true, true, false, false, false, false, false, false, false, false, false, false, false, false, false, false, false, false] rfl rfl (by kernel_rfl) (by decide) (fun K hK => ?_)
      refine goes_ Tryd.func17 (by kernel_rfl) rfl #[Value.agg #[.int .i64 op, .string col, .int .i64 cm, .bool nl, .int .i64 i, .string str, .int .i64 kd, .string pat, .slice ka kids.length kc]] (by rfl) rfl rfl (by simp only [List.map_toArray, List.map_cons, List.map_nil]; rfl) ?_
      with_reducible refine (HM.out _ hB3.out.drew).mono ?_
      rintro e w3 ⟨rfl, hb3⟩
      refine ⟨_, rfl, ?_⟩
      have hK3 : Below w2.heap.size w2 w3 := bundrew hb3
      refine hK.out _ _ ⟨(HKEEP.out _ hK3).1, (HKEEP.out _ hK3).2.1, (HKEEP.out _ hK3).2.2.1, (HKEEP.out _ hK3).2.2.2.1, (HKEEP.out _ hK3).2.2.2.2.1, (HKEEP.out _ hK3).2.2.2.2.2.1, (HKEEP.out _ hK3).2.2.2.2.2.2.1, (HKEEP.out _ hK3).2.2.2.2.2.2.2.1, (HKEEP.out _ hK3).2.2.2.2.2.2.2.2⟩ (fun hHeld => ?_)
      clear hK K
      refine norm_ (a' := ?_) ?_ ?_
      rotate_left
      · show Act.put _ (some 15) _ = _
        simp only [Act.put, List.setIfInBounds_toArray, List.set_cons_zero, List.set_cons_succ, i64_w, i32_w]
        rfl
      refine one_ (i := 3) (N := some 17) #[true, true, true, true, false, false, false, false, false, false, false, false, false, false, false, false, false, false, false] rfl rfl (by kernel_rfl) (by decide) (fun K hK => ?_)
      refine goes_ Tryd.func12 (by kernel_rfl) rfl #[Value.agg #[.int .i64 op, .string col, .int .i64 cm, .bool nl, .int .i64 i, .string str, .int .i64 kd, .string pat, .slice ka kids.length kc]] (by rfl) rfl rfl (by simp only [List.map_toArray, List.map_cons, List.map_nil]; rfl) ?_
      with_reducible refine (HN.out _ (hB3.out.trans (hK3.mono hB3.out.size))).mono ?_
      rintro e w4 ⟨rfl, hb4⟩
      refine ⟨_, rfl, ?_⟩
      have hK4 := hK3.trans (hb4.mono hK3.size)
      refine hK.out _ _ ⟨(HKEEP.out _ hK4).1, (HKEEP.out _ hK4).2.1, (HKEEP.out _ hK4).2.2.1, (HKEEP.out _ hK4).2.2.2.1, (HKEEP.out _ hK4).2.2.2.2.1, (HKEEP.out _ hK4).2.2.2.2.2.1, (HKEEP.out _ hK4).2.2.2.2.2.2.1, (HKEEP.out _ hK4).2.2.2.2.2.2.2.1, (HKEEP.out _ hK4).2.2.2.2.2.2.2.2⟩ (fun hHeld => ?_)
      clear hK K
      refine norm_ (a' := ?_) ?_ ?_
      rotate_left
      · show Act.put _ (some 17) _ = _
        simp only [Act.put, List.setIfInBounds_toArray, List.set_cons_zero, List.set_cons_succ, i64_w, i32_w]
        rfl
      refine pure_ (i := 4) (N := some 18) (v := ?_) (a' := ?_) #[true, true, true, true, true, false, false, false, false, false, false, false, false, false, false, false, false, false, false] rfl rfl (by kernel_rfl) (fun _ _ _ h => h) (Or.inl ⟨by rfl, ?_⟩) ?_ ?_
      rotate_left
      · intro w'
        go_simp
        with_reducible rfl
      rotate_left
      · simp only [Act.put, List.setIfInBounds_toArray, List.set_cons_zero, List.set_cons_succ, i64_w, i32_w]
        rfl
      refine pure_ (i := 5) (N := some 19) (v := ?_) (a' := ?_) #[true, true, true, true, true, true, false, false, false, false, false, false, false, false, false, false, false, false, false] rfl rfl (by kernel_rfl) (fun _ _ _ h => h) (Or.inl ⟨by rfl, ?_⟩) ?_ ?_
      rotate_left
      · intro w'
        go_simp
        with_reducible rfl
      rotate_left
      · simp only [Act.put, List.setIfInBounds_toArray, List.set_cons_zero, List.set_cons_succ, i64_w, i32_w]
        rfl
      refine pure_ (i := 6) (N := some 20) (v := ?_) (a' := ?_) #[true, true, true, true, true, true, true, false, false, false, false, false, false, false, false, false, false, false, false] rfl rfl (by kernel_rfl) (fun _ _ _ h => h) (Or.inl ⟨by rfl, ?_⟩) ?_ ?_
      rotate_left
      · intro w'
        go_simp
        with_reducible rfl
      rotate_left
      · simp only [Act.put, List.setIfInBounds_toArray, List.set_cons_zero, List.set_cons_succ, i64_w, i32_w]
        rfl
      refine pure_ (i := 10) (N := some 24) (v := ?_) (a' := ?_) #[true, true, true, true, true, true, true, false, false, false, true, false, false, false, false, false, false, false, false] rfl rfl (by kernel_rfl) (fun _ _ _ h => h) (Or.inl ⟨by rfl, ?_⟩) ?_ ?_
      rotate_left
      · intro w'
        go_simp
        with_reducible rfl
      rotate_left
      · simp only [Act.put, List.setIfInBounds_toArray, List.set_cons_zero, List.set_cons_succ, i64_w, i32_w]
        rfl
      refine take_ (i := 7) (N := some 21) (v := ?_) (a' := ?_) #[true, true, true, true, true, true, true, true, false, false, true, false, false, false, false, false, false, false, false] rfl rfl (by kernel_rfl) (fun _ _ _ h => h) (Or.inl ⟨by rfl, ?_⟩) hHeld ?_ ?_
      rotate_left
      · rintro w' ⟨s0, s1, s2, s3, s4, s5, s6, s7, s8⟩
        go_simp
        with_reducible rfl
      rotate_left
      · simp only [Act.put, List.setIfInBounds_toArray, List.set_cons_zero, List.set_cons_succ, i64_w, i32_w]
        rfl
      refine take_ (i := 11) (N := some 25) (v := ?_) (a' := ?_) #[true, true, true, true, true, true, true, true, false, false, true, true, false, false, false, false, false, false, false] rfl rfl (by kernel_rfl) (fun _ _ _ h => h) (Or.inl ⟨by rfl, ?_⟩) hHeld ?_ ?_
      rotate_left
      · rintro w' ⟨s0, s1, s2, s3, s4, s5, s6, s7, s8⟩
        go_simp
        with_reducible rfl
      rotate_left
      · simp only [Act.put, List.setIfInBounds_toArray, List.set_cons_zero, List.set_cons_succ, i64_w, i32_w]
        rfl
      refine one_ (i := 8) (N := some 22) #[true, true, true, true, true, true, true, true, true, false, true, true, false, false, false, false, false, false, false] rfl rfl (by kernel_rfl) (by decide) (fun K hK => ?_)
      refine goes_ Tryd.func19 (by kernel_rfl) rfl #[Value.slice ad cols.length cap, Value.agg #[.int .i64 op, .string col, .int .i64 cm, .bool nl, .int .i64 i, .string str, .int .i64 kd, .string pat, .slice ka kids.length kc]] (by rfl) rfl rfl (by simp only [List.map_toArray, List.map_cons, List.map_nil]; rfl) ?_
      with_reducible refine (HF.out _ (hB3.out.trans (hK4.mono hB3.out.size))).mono ?_
      rintro e w5 ⟨rfl, hb5⟩
      refine ⟨_, rfl, ?_⟩
      have hK5 := hK4.trans (hb5.mono hK4.size)
      refine hK.out _ _ ⟨(HKEEP.out _ hK5).1, (HKEEP.out _ hK5).2.1, (HKEEP.out _ hK5).2.2.1, (HKEEP.out _ hK5).2.2.2.1, (HKEEP.out _ hK5).2.2.2.2.1, (HKEEP.out _ hK5).2.2.2.2.2.1, (HKEEP.out _ hK5).2.2.2.2.2.2.1, (HKEEP.out _ hK5).2.2.2.2.2.2.2.1, (HKEEP.out _ hK5).2.2.2.2.2.2.2.2⟩ (fun hHeld => ?_)
      clear hK K
      refine norm_ (a' := ?_) ?_ ?_
      rotate_left
      · show Act.put _ (some 22) _ = _
        simp only [Act.put, List.setIfInBounds_toArray, List.set_cons_zero, List.set_cons_succ, i64_w, i32_w]
        rfl
      refine one_ (i := 9) (N := some 23) #[true, true, true, true, true, true, true, true, true, true, true, true, false, false, false, false, false, false, false] rfl rfl (by kernel_rfl) (by decide) (fun K hK => ?_)
      refine goes_ Tryd.func18 (by kernel_rfl) rfl #[.int .i64 fv] (by rfl) rfl rfl (by simp only [List.map_toArray, List.map_cons, List.map_nil]; rfl) ?_
      with_reducible refine (num17_calls _ _).mono ?_
      rintro e w6 ⟨rfl, hb6⟩
      refine ⟨_, rfl, ?_⟩
      have hK6 := hK5.trans (hb6.mono hK5.size)
      refine hK.out _ _ ⟨(HKEEP.out _ hK6).1, (HKEEP.out _ hK6).2.1, (HKEEP.out _ hK6).2.2.1, (HKEEP.out _ hK6).2.2.2.1, (HKEEP.out _ hK6).2.2.2.2.1, (HKEEP.out _ hK6).2.2.2.2.2.1, (HKEEP.out _ hK6).2.2.2.2.2.2.1, (HKEEP.out _ hK6).2.2.2.2.2.2.2.1, (HKEEP.out _ hK6).2.2.2.2.2.2.2.2⟩ (fun hHeld => ?_)
      clear hK K
      refine norm_ (a' := ?_) ?_ ?_
      rotate_left
      · show Act.put _ (some 23) _ = _
        simp only [Act.put, List.setIfInBounds_toArray, List.set_cons_zero, List.set_cons_succ, i64_w, i32_w]
        rfl
      refine one_ (i := 12) (N := some 26) #[true, true, true, true, true, true, true, true, true, true, true, true, true, false, false, false, false, false, false] rfl rfl (by kernel_rfl) (by decide) (fun K hK => ?_)
      refine goes_ Tryd.func20 (by kernel_rfl) rfl #[Value.slice ad cols.length cap, Value.agg #[.int .i64 op, .string col, .int .i64 cm, .bool nl, .int .i64 i, .string str, .int .i64 kd, .string pat, .slice ka kids.length kc]] (by rfl) rfl rfl (by simp only [List.map_toArray, List.map_cons, List.map_nil]; rfl) ?_
      with_reducible refine (HG.out _ (hB3.out.trans (hK6.mono hB3.out.size))).mono ?_
      rintro e w7 ⟨rfl, hb7⟩
      refine ⟨_, rfl, ?_⟩
      have hK7 := hK6.trans (hb7.mono hK6.size)
      refine hK.out _ _ ⟨(HKEEP.out _ hK7).1, (HKEEP.out _ hK7).2.1, (HKEEP.out _ hK7).2.2.1, (HKEEP.out _ hK7).2.2.2.1, (HKEEP.out _ hK7).2.2.2.2.1, (HKEEP.out _ hK7).2.2.2.2.2.1, (HKEEP.out _ hK7).2.2.2.2.2.2.1, (HKEEP.out _ hK7).2.2.2.2.2.2.2.1, (HKEEP.out _ hK7).2.2.2.2.2.2.2.2⟩ (fun hHeld => ?_)
      clear hK K
      refine norm_ (a' := ?_) ?_ ?_
      rotate_left
      · show Act.put _ (some 26) _ = _
        simp only [Act.put, List.setIfInBounds_toArray, List.set_cons_zero, List.set_cons_succ, i64_w, i32_w]
        rfl
      refine pure_ (i := 13) (N := some 27) (v := ?_) (a' := ?_) #[true, true, true, true, true, true, true, true, true, true, true, true, true, true, false, false, false, false, false] rfl rfl (by kernel_rfl) (fun _ _ _ h => h) (Or.inl ⟨by rfl, ?_⟩) ?_ ?_
      rotate_left
      · intro w'
        go_simp
        with_reducible rfl
      rotate_left
      · simp only [Act.put, List.setIfInBounds_toArray, List.set_cons_zero, List.set_cons_succ, i64_w, i32_w]
        rfl
      refine pure_ (i := 14) (N := some 28) (v := ?_) (a' := ?_) #[true, true, true, true, true, true, true, true, true, true, true, true, true, true, true, false, false, false, false] rfl rfl (by kernel_rfl) (fun _ _ _ h => h) (Or.inl ⟨by rfl, ?_⟩) ?_ ?_
      rotate_left
      · intro w'
        go_simp
        with_reducible rfl
      rotate_left
      · simp only [Act.put, List.setIfInBounds_toArray, List.set_cons_zero, List.set_cons_succ, i64_w, i32_w]
        rfl
      refine pure_ (i := 15) (N := some 29) (v := ?_) (a' := ?_) #[true, true, true, true, true, true, true, true, true, true, true, true, true, true, true, true, false, false, false] rfl rfl (by kernel_rfl) (fun _ _ _ h => h) (Or.inl ⟨by rfl, ?_⟩) ?_ ?_
      rotate_left
      · intro w'
        go_simp
        with_reducible rfl
      rotate_left
      · simp only [Act.put, List.setIfInBounds_toArray, List.set_cons_zero, List.set_cons_succ, i64_w, i32_w]
        rfl
      refine one_ (i := 16) (N := some 30) #[true, true, true, true, true, true, true, true, true, true, true, true, true, true, true, true, true, false, false] rfl rfl (by kernel_rfl) (by decide) (fun K hK => ?_)
      refine goes_ Tryd.func7 (by kernel_rfl) rfl #[] (by rfl) rfl rfl (by first | rfl | simp) ?_
      with_reducible refine (HL.out _ (hB3.out.trans (hK7.mono hB3.out.size))).mono ?_
      rintro e w8 ⟨rfl, hb8⟩
      refine ⟨_, rfl, ?_⟩
      have hK8 := hK7.trans (hb8.mono hK7.size)
      refine hK.out _ _ ⟨(HKEEP.out _ hK8).1, (HKEEP.out _ hK8).2.1, (HKEEP.out _ hK8).2.2.1, (HKEEP.out _ hK8).2.2.2.1, (HKEEP.out _ hK8).2.2.2.2.1, (HKEEP.out _ hK8).2.2.2.2.2.1, (HKEEP.out _ hK8).2.2.2.2.2.2.1, (HKEEP.out _ hK8).2.2.2.2.2.2.2.1, (HKEEP.out _ hK8).2.2.2.2.2.2.2.2⟩ (fun hHeld => ?_)
      clear hK K
      refine norm_ (a' := ?_) ?_ ?_
      rotate_left
      · show Act.put _ (some 30) _ = _
        simp only [Act.put, List.setIfInBounds_toArray, List.set_cons_zero, List.set_cons_succ, i64_w, i32_w]
        rfl
      refine pure_ (i := 17) (N := some 31) (v := ?_) (a' := ?_) #[true, true, true, true, true, true, true, true, true, true, true, true, true, true, true, true, true, true, false] rfl rfl (by kernel_rfl) (fun _ _ _ h => h) (Or.inl ⟨by rfl, ?_⟩) ?_ ?_
      rotate_left
      · intro w'
        go_simp
        with_reducible rfl
      rotate_left
      · simp only [Act.put, List.setIfInBounds_toArray, List.set_cons_zero, List.set_cons_succ, i64_w, i32_w]
        rfl
      refine pure_ (i := 18) (N := some 4) (v := ?_) (a' := ?_) #[true, true, true, true, true, true, true, true, true, true, true, true, true, true, true, true, true, true, true] rfl rfl (by kernel_rfl) (fun _ _ _ h => h) (Or.inl ⟨by rfl, ?_⟩) ?_ ?_
      rotate_left
      · intro w'
        go_simp
        with_reducible rfl
      rotate_left
      · simp only [Act.put, List.setIfInBounds_toArray, List.set_cons_zero, List.set_cons_succ, i64_w, i32_w]
        rfl
      refine done_ (by kernel_rfl) ?_
      have HFin := Asd.mk (hB3.out.trans (hK8.mono hB3.out.size))
      go_wp2_with fail
      go_ret
      exact ⟨rfl, HFin.out⟩
end Go.Proofs.YthhjhlodgfdlgaaDoor
