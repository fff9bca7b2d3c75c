import Derived.Test.YthhjhlodgfdlgaaDoorTyped2
set_option linter.unusedVariables false
set_option linter.unusedSimpArgs false
namespace Go.Proofs.YthhjhlodgfdlgaaDoor
open Go Go.RowKit

/-- Why a predicate does not fit columns. -/
def fitsV (m : Bool) (e : Int) (t : Bool) : Int := if m = false ∨ e ≠ 0 then 1 else if t = false then 10 else 0
def fitsI (cols : List Co) (p : Pr) : Int := fitsV (mayP p) (errC cols) (typedN cols 6 p)

set_option maxHeartbeats 1000000 in
set_option maxRecDepth 100000 in
theorem predFits_calls (cols : List Co) (p : Pr) (ad : Option Addr) (cap : Nat) (w : World) (hr : RowAt w ad cols) (hcap : cols.length ≤ cap) (hcm : cap ≤ 9223372036854775807) (hfine : ∀ c ∈ cols, c.name.size ≤ 9223372036854775807) (hp : InPr w p) :
    Calls Tryd.prog 19 #[.slice ad cols.length cap, p.v] w (Ret (.int .i64 (fitsI cols p)) w) := by
  have eg := enters_of Tryd.func39 (by kernel_rfl) rfl
  have hB1 := ((Below.refl w.heap.size w).alloc (Nat.le_refl _) (Obj.cells #[.slice ad cols.length cap] 37)).alloc (by simp) (Obj.cells (encPr p).toArray 26)
  have hM := fun W (hW : Below w.heap.size w W) => predMay_calls p W (hp.low hW)
  have hC := fun W (hW : Below w.heap.size w W) => schemaCheck_calls cols ad cap W (hr.low hW) hcap hcm hfine
  have hE : Asd (∀ W, Below w.heap.size w W → w.heap.size < W.heap.size → W.cell? ⟨w.heap.size, 0, none⟩ = some (.slice ad cols.length cap) → Calls Tryd.prog 32 #[p.v, .int .i64 6, .func (.func 39) #[] #[.pointer (some ⟨w.heap.size, 0, none⟩)]] W (Ret (.bool (typedN cols 6 p)) W)) :=
    ⟨fun W hW hlt hc => by
      have hHeld : Held (fun (_ : Unit) (L : List Nat) (W : World) => L = []) := ⟨fun s L W W' h _ _ => h, fun s L W h k hk => by subst h; simp at hk⟩
      refine (every_calls (typedF cols) (fun _ L _ => L = []) hHeld 39 #[.pointer (some ⟨w.heap.size, 0, none⟩)] W eg ⟨?_⟩ 6 p () [] W (hp.low hW) (Below.refl _ _) (by simp) rfl (by decide)).mono ?_
      · rintro s L W2 q hB _ _ rfl
        refine (fits1_calls cols q ad cap w.heap.size W2 ((hr.low hW).low hB) (Nat.lt_of_lt_of_le hlt hB.size) ((hB.cell (p := ⟨_, _, none⟩) hlt).trans hc)).mono ?_
        rintro e W3 ⟨rfl, hb⟩
        exact ⟨rfl, [], Stp.of_below hb, rfl⟩
      · rintro e W3 ⟨he, L', hS, _⟩
        rw [typedN_every] at he
        exact ⟨he, hS.below (Nat.le_refl _) (by simp)⟩⟩
  have hdef : fitsI cols p = fitsV (mayP p) (errC cols) (typedN cols 6 p) := rfl
  rw [hdef]
  clear hr hfine hp hdef eg
  generalize mayP p = m at *
  generalize errC cols = er at *
  generalize typedN cols 6 p = t at *
  generalize cols.length = n at *
  have HM := Asd.mk hM
  have HC := Asd.mk hC
  have HB1 := Asd.mk hB1
  clear hM hC hB1
  obtain ⟨op, col, cm, ⟨nl, i, str⟩, kd, pat, ka, kc, kids⟩ := p
  simp only [Pr.v, encPr, Pr.op, Pr.col, Pr.cmp, Pr.val, Pr.kind, Pr.pat, Pr.ka, Pr.kc, Pr.kids] at *
  cases m with
  | false =>
    rw [show fitsV false er t = 1 by simp [fitsV]]
    have hm := HM.out _ HB1.out
    clear HM HC
    go_enter Tryd.func19, Tryd.ntmps19
    go_wp2_with fail
    go_call hm as e w1 ⟨rfl, hb1⟩
    go_wp2_with fail
    go_ret
    exact ⟨rfl, bnext HB1.out hb1⟩
  | true =>
    by_cases he : er = 0
    rotate_left
    · rw [show fitsV true er t = 1 by simp [fitsV, he]]
      have he' : (er != 0) = true := by simpa using he
      have hm := HM.out _ HB1.out
      go_enter Tryd.func19, Tryd.ntmps19
      go_wp2_with fail
      go_call hm as e w1 ⟨rfl, hb1⟩
      have hc1 := (bcell hb1).1 w.heap.size 0 (by simp; omega)
      have hB2 := bnext HB1.out hb1
      have hc := HC.out _ hB2
      clear HM HC hm
      go_wp2_with fail
      go_call hc as e w2 ⟨rfl, hb2⟩
      go_wp2_with fail
      go_ret
      exact ⟨rfl, bnext hB2 hb2⟩
    subst he
    cases t with
    | false =>
      rw [show fitsV true 0 false = 10 by simp [fitsV]]
      have hm := HM.out _ HB1.out
      go_enter Tryd.func19, Tryd.ntmps19
      go_wp2_with fail
      go_call hm as e w1 ⟨rfl, hb1⟩
      have hc1 := (bcell hb1).1 w.heap.size 0 (by simp; omega)
      have hp1 := fun o => (bcell hb1).1 (w.heap.size + 1) o (by simp)
      have hB2 := bnext HB1.out hb1
      have hc := HC.out _ hB2
      clear hm
      go_wp2_with fail
      go_call hc as e w2 ⟨rfl, hb2⟩
      have hs1 := hb1.size
      simp at hs1
      have hc2 := (bcell hb2).1 w.heap.size 0 (by omega)
      have hp2 := fun o => (bcell hb2).1 (w.heap.size + 1) o (by omega)
      have hB3 := bnext hB2 hb2
      have hs2 := hb2.size
      have hev := hE.out _ hB3 (by omega) (by rw [hc2, hc1]; simp)
      clear HM HC hE hc
      go_wp2_with fail
      go_call hev as e w3 ⟨rfl, hb3⟩
      go_wp2_with fail
      go_ret
      exact ⟨rfl, bnext hB3 hb3⟩
    | true =>
      rw [show fitsV true 0 true = 0 by simp [fitsV]]
      have hm := HM.out _ HB1.out
      go_enter Tryd.func19, Tryd.ntmps19
      go_wp2_with fail
      go_call hm as e w1 ⟨rfl, hb1⟩
      have hc1 := (bcell hb1).1 w.heap.size 0 (by simp; omega)
      have hp1 := fun o => (bcell hb1).1 (w.heap.size + 1) o (by simp)
      have hB2 := bnext HB1.out hb1
      have hc := HC.out _ hB2
      clear hm
      go_wp2_with fail
      go_call hc as e w2 ⟨rfl, hb2⟩
      have hs1 := hb1.size
      simp at hs1
      have hc2 := (bcell hb2).1 w.heap.size 0 (by omega)
      have hp2 := fun o => (bcell hb2).1 (w.heap.size + 1) o (by omega)
      have hB3 := bnext hB2 hb2
      have hs2 := hb2.size
      have hev := hE.out _ hB3 (by omega) (by rw [hc2, hc1]; simp)
      clear HM HC hE hc
      go_wp2_with fail
      go_call hev as e w3 ⟨rfl, hb3⟩
      go_wp2_with fail
      go_ret
      exact ⟨rfl, bnext hB3 hb3⟩

theorem deep_of_may (p : Pr) (h : mayR p = true) : deepB 6 p = true := by
  rw [mayR, Bool.and_eq_true, decide_eq_true_eq] at h
  exact deep_of_size 6 16 p h.1
theorem fits_ref (m : Bool) (e : Int) (t : Bool) : fitsV m e t = fitsV m e t := rfl

set_option maxHeartbeats 1000000 in
set_option maxRecDepth 100000 in
theorem refFits_calls (cols : List Co) (p : Pr) (ad : Option Addr) (cap : Nat) (w : World) (hr : RowAt w ad cols) (hfine : ∀ c ∈ cols, c.name.size ≤ 9223372036854775807) (hp : InPr w p) :
    Calls Tryd.prog 20 #[.slice ad cols.length cap, p.v] w (Ret (.int .i64 (fitsV (mayR p) (errC cols) (typedN cols 6 p))) w) := by
  have hB1 := (Below.refl w.heap.size w).alloc (Nat.le_refl _) (Obj.cells (encPr p).toArray 26)
  have hM := fun W (hW : Below w.heap.size w W) => refMay_calls p W (hp.low hW)
  have hC := fun W (hW : Below w.heap.size w W) => refCheck_calls cols ad cap W (hr.low hW) hfine
  have hT := fun W (hW : Below w.heap.size w W) (h : mayR p = true) => refTyped_calls cols ad cap w hr 6 p W hW (hp.low hW) (deep_of_may p h)
  clear hr hfine hp
  generalize mayR p = m at *
  generalize errC cols = er at *
  generalize typedN cols 6 p = t at *
  generalize cols.length = n at *
  have HM := Asd.mk hM
  have HC := Asd.mk hC
  have HT := Asd.mk hT
  have HB1 := Asd.mk hB1
  clear hM hC hT hB1
  obtain ⟨op, col, cm, ⟨nl, i, str⟩, kd, pat, ka, kc, kids⟩ := p
  simp only [Pr.v, encPr, Pr.op, Pr.col, Pr.cmp, Pr.val, Pr.kind, Pr.pat, Pr.ka, Pr.kc, Pr.kids] at *
  cases m with
  | false =>
    rw [show fitsV false er t = 1 by simp [fitsV]]
    have hm := HM.out _ HB1.out
    clear HM HC HT
    go_enter Tryd.func20, Tryd.ntmps20
    go_wp2_with fail
    go_call hm as e w1 ⟨rfl, hb1⟩
    go_wp2_with fail
    go_ret
    exact ⟨rfl, bnext HB1.out hb1⟩
  | true =>
    by_cases he : er = 0
    rotate_left
    · rw [show fitsV true er t = 1 by simp [fitsV, he]]
      have he' : (er != 0) = true := by simpa using he
      have hm := HM.out _ HB1.out
      go_enter Tryd.func20, Tryd.ntmps20
      go_wp2_with fail
      go_call hm as e w1 ⟨rfl, hb1⟩
      have hB2 := bnext HB1.out hb1
      have hc := HC.out _ hB2
      clear HM HC HT hm
      go_wp2_with fail
      go_call hc as e w2 ⟨rfl, hb2⟩
      go_wp2_with fail
      go_ret
      exact ⟨rfl, bnext hB2 hb2⟩
    subst he
    cases t
    all_goals first | rw [show fitsV true 0 false = 10 by simp [fitsV]] | rw [show fitsV true 0 true = 0 by simp [fitsV]]
    all_goals have hm := HM.out _ HB1.out
    all_goals go_enter Tryd.func20, Tryd.ntmps20
    all_goals go_wp2_with fail
    all_goals go_call hm as e w1 ⟨rfl, hb1⟩
    all_goals have hp1 := fun o => (bcell hb1).1 w.heap.size o (by simp)
    all_goals have hB2 := bnext HB1.out hb1
    all_goals have hc := HC.out _ hB2
    all_goals clear hm
    all_goals go_wp2_with fail
    all_goals go_call hc as e w2 ⟨rfl, hb2⟩
    all_goals have hs1 := hb1.size
    all_goals simp at hs1
    all_goals have hp2 := fun o => (bcell hb2).1 w.heap.size o (by omega)
    all_goals have hB3 := bnext hB2 hb2
    all_goals have ht := HT.out _ hB3 (by first | rfl | trivial)
    all_goals clear HM HC HT hc
    all_goals go_wp2_with fail
    all_goals go_call ht as e w3 ⟨rfl, hb3⟩
    all_goals go_wp2_with fail
    all_goals go_ret
    all_goals exact ⟨rfl, bnext hB3 hb3⟩

theorem num17_calls (n : Int) (w : World) : Calls Tryd.prog 18 #[.int .i64 n] w (Ret (.int .i64 n) w) := by
  go_enter Tryd.func18, Tryd.ntmps18
  go_wp2_with fail
  go_ret
  exact ⟨rfl, Below.refl _ _⟩
end Go.Proofs.YthhjhlodgfdlgaaDoor
