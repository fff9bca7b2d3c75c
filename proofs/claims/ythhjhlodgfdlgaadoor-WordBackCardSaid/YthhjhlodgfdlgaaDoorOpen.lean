import Derived.Test.YthhjhlodgfdlgaaDoorBase
import Derived.Test.YthhjhlodgfdlgaaDoorProg
import Derived.Deep.Slices
set_option linter.unusedVariables false
set_option linter.unusedSimpArgs false
namespace Go.Proofs.YthhjhlodgfdlgaaDoor
open Go Go.RowKit Go.ChangeShapes Go.WideShapes

variable {H : Type} {enc : TypeId × Value → H} {W : World} {base : Nat} {spare : Nat → Bool} {held : Bool}
theorem cof : Tryd.prog.cellsOf 3 = 1 ∧ Tryd.prog.cellsOf 2 = 1 ∧ Tryd.prog.cellsOf 9 = 1 ∧ Tryd.prog.cellsOf 4 = 1 ∧ Tryd.prog.cellsOf 23 = 3 ∧ Tryd.prog.cellsOf 24 = 1 ∧ Tryd.prog.cellsOf 26 = 9 := ⟨by kernel_rfl, by kernel_rfl, by kernel_rfl, by kernel_rfl, by kernel_rfl, by kernel_rfl, by kernel_rfl⟩
theorem wf_i64 {n : Int} (h : (Lit.int .i64 n).wf = true) : i64 n := by
  have h1 : IntKind.i64.min = -9223372036854775808 := by kernel_rfl
  have h2 : IntKind.i64.max = 9223372036854775807 := by kernel_rfl
  simp [Lit.wf, h1, h2] at h
  exact h
set_option maxRecDepth 100000 in
theorem open_ce {fuel : Nat} {cs : List Value} {x : DataW H × List MemPlace} (h : DataW.trod enc Tryd.prog W base spare held fuel 23 cs = some x) : ∃ c : Ce, cs = encCe c ∧ i64 c.i ∧ c.s.size ≤ 9223372036854775807 := by
  obtain ⟨k3, k2, k9, k4, k23, k24, k26⟩ := cof
  obtain ⟨xs, n, rfl, rfl, hl, hlen, hf⟩ := DataW.trod_struct Tryd.underlying23 h
  rw [k23] at hl
  have hx : xs.length = 3 := hlen
  match cs, hl with
  | [a, b, c], _ =>
    match xs, hx with
    | [x0, x1, x2], _ =>
      have h0 : DataW.trod enc Tryd.prog W base spare held n 4 (([a, b, c].drop 0).take (Tryd.prog.cellsOf 4)) = some x0 := hf 0 _ rfl
      have h1 : DataW.trod enc Tryd.prog W base spare held n 2 (([a, b, c].drop 1).take (Tryd.prog.cellsOf 2)) = some x1 := hf 1 _ rfl
      have h2 : DataW.trod enc Tryd.prog W base spare held n 9 (([a, b, c].drop 2).take (Tryd.prog.cellsOf 9)) = some x2 := hf 2 _ rfl
      rw [k4] at h0
      rw [k2] at h1
      rw [k9] at h2
      obtain ⟨bb, e0, _⟩ := DataW.trod_bool Tryd.underlying4 h0
      obtain ⟨ni, e1, _, w1⟩ := DataW.trod_int Tryd.underlying2 h1
      obtain ⟨s, e2, _, w2⟩ := DataW.trod_string Tryd.underlying9 h2
      simp at e0 e1 e2
      subst e0 e1 e2
      exact ⟨⟨bb, ni, s⟩, rfl, wf_i64 w1, w2⟩

instance : Inhabited Pr := ⟨.mk 0 ByteArray.empty 0 ⟨false, 0, ByteArray.empty⟩ 0 ByteArray.empty none 0 []⟩
theorem spot_none {a : Addr} {v : Value} (h : W.cell? a = some v) : ∃ b off, a = ⟨b, off, none⟩ := by
  obtain ⟨b, off, sp⟩ := a
  cases sp with
  | none => exact ⟨b, off, rfl⟩
  | some s =>
    exfalso
    unfold World.cell? at h
    split at h <;> simp at h
theorem add_plain2 (b off i : Nat) : (⟨b, off, none⟩ : Addr).add i = ⟨b, off + i, none⟩ := by
  unfold Addr.add
  split
  · subst i; rfl
  · rfl
set_option maxRecDepth 100000 in
theorem open_pr : ∀ (fuel : Nat) (cs : List Value) (x : DataW H × List MemPlace), DataW.trod enc Tryd.prog W base spare held fuel 26 cs = some x → ∃ p : Pr, cs = encPr p ∧ InPr W p := by
  intro fuel
  induction fuel using Nat.strongRecOn with
  | _ fuel IH =>
  intro cs x h
  obtain ⟨k3, k2, k9, k4, k23, k24, k26⟩ := cof
  obtain ⟨xs, n, rfl, rfl, hl, hlen, hf⟩ := DataW.trod_struct Tryd.underlying26 h
  rw [k26] at hl
  have hx : xs.length = 7 := hlen
  match cs, hl with
  | [a0, a1, a2, a3, a4, a5, a6, a7, a8], _ =>
    match xs, hx with
    | [x0, x1, x2, x3, x4, x5, x6], _ =>
      have h0 : DataW.trod enc Tryd.prog W base spare held n 3 (([a0, a1, a2, a3, a4, a5, a6, a7, a8].drop 0).take (Tryd.prog.cellsOf 3)) = some x0 := hf 0 _ rfl
      have h1 : DataW.trod enc Tryd.prog W base spare held n 9 (([a0, a1, a2, a3, a4, a5, a6, a7, a8].drop 1).take (Tryd.prog.cellsOf 9)) = some x1 := hf 1 _ rfl
      have h2 : DataW.trod enc Tryd.prog W base spare held n 3 (([a0, a1, a2, a3, a4, a5, a6, a7, a8].drop 2).take (Tryd.prog.cellsOf 3)) = some x2 := hf 2 _ rfl
      have h3 : DataW.trod enc Tryd.prog W base spare held n 23 (([a0, a1, a2, a3, a4, a5, a6, a7, a8].drop 3).take (Tryd.prog.cellsOf 23)) = some x3 := hf 3 _ rfl
      have h4 : DataW.trod enc Tryd.prog W base spare held n 3 (([a0, a1, a2, a3, a4, a5, a6, a7, a8].drop 6).take (Tryd.prog.cellsOf 3)) = some x4 := hf 4 _ rfl
      have h5 : DataW.trod enc Tryd.prog W base spare held n 9 (([a0, a1, a2, a3, a4, a5, a6, a7, a8].drop 7).take (Tryd.prog.cellsOf 9)) = some x5 := hf 5 _ rfl
      have h6 : DataW.trod enc Tryd.prog W base spare held n 24 (([a0, a1, a2, a3, a4, a5, a6, a7, a8].drop 8).take (Tryd.prog.cellsOf 24)) = some x6 := hf 6 _ rfl
      rw [k3] at h0 h2 h4
      rw [k9] at h1 h5
      rw [k23] at h3
      rw [k24] at h6
      obtain ⟨op, e0, _, w0⟩ := DataW.trod_int Tryd.underlying3 h0
      obtain ⟨col, e1, _, w1⟩ := DataW.trod_string Tryd.underlying9 h1
      obtain ⟨cm, e2, _, w2⟩ := DataW.trod_int Tryd.underlying3 h2
      obtain ⟨c, e3, hci, hcs⟩ := open_ce h3
      obtain ⟨kd, e4, _, w4⟩ := DataW.trod_int Tryd.underlying3 h4
      obtain ⟨pat, e5, _, w5⟩ := DataW.trod_string Tryd.underlying9 h5
      simp [encCe] at e0 e1 e2 e3 e4 e5
      obtain ⟨e31, e32, e33⟩ := e3
      subst e0 e1 e2 e31 e32 e33 e4 e5
      have fine : ∀ ka kc ks, Fine (.mk op col cm c kd pat ka kc ks) := fun ka kc ks => ⟨wf_i64 w0, wf_i64 w2, wf_i64 w4, hci, w1, hcs, w5⟩
      rcases DataW.trod_slice Tryd.underlying24 h6 with ⟨e6, _⟩ | ⟨a, len, cap, elems, rest, m, rfl, e6, _, hb, hlc, hcap, hel, hget, _, _⟩
      · simp at e6
        subst e6
        exact ⟨.mk op col cm c kd pat none 0 [], rfl, .mk _ (fine _ _ _) ⟨by simp [Pr.kids], fun h => by simp [Pr.kids] at h⟩ (by intro k hk; simp [Pr.kids] at hk)⟩
      · simp at e6
        subst e6
        have hk : ∀ i, i < len → ∃ q : Pr, W.cells? base (a.add (i * 9)) 9 = some (encPr q) ∧ InPr W q := by
          intro i hi
          have h7 := hget i hi
          rw [List.getElem?_eq_getElem (by omega), k26] at h7
          obtain ⟨cs', h8, h9⟩ := Option.bind_eq_some_iff.1 h7
          obtain ⟨q, rfl, hq⟩ := IH m (by omega) cs' _ h9
          exact ⟨q, h8, hq⟩
        obtain ⟨f, hf2⟩ := Go.Deep.choose_lt hk
        have hkl : ((List.range len).map f).length = len := by simp
        refine ⟨.mk op col cm c kd pat (some a) cap ((List.range len).map f), by simp [encPr, Pr.op, Pr.col, Pr.cmp, Pr.val, Pr.kind, Pr.pat, Pr.ka, Pr.kc, Pr.kids], .mk _ (fine _ _ _) ⟨?_, ?_⟩ ?_⟩
        · simp only [Pr.kids, hkl]
          simp only [maxLen] at hcap
          omega
        · intro hp
          simp only [Pr.kids, hkl] at hp
          obtain ⟨_, _, hc0⟩ := World.cells?_some (hf2 0 hp).1
          have hc00 := hc0 0 (by omega)
          obtain ⟨b, off, rfl⟩ := spot_none (a := a) (v := .int .i64 (f 0).op) (by
            have h := hc00
            rw [show (a.add (0 * 9)).add 0 = a from by simp [Addr.add]] at h
            exact h)
          refine ⟨b, off, rfl, ?_, ?_⟩
          · have := World.block_lt_of_cell? W _ hc00
            simpa [Addr.add] using this
          · intro j hj i v hv
            simp only [Pr.kids, hkl] at hj
            have hi : i < 9 := (List.getElem?_eq_some_iff.1 hv).1
            obtain ⟨_, _, hcj⟩ := World.cells?_some (hf2 j hj).1
            have h10 := hcj i hi
            rw [add_plain2, add_plain2] at h10
            simp only [Pr.kids, List.getElem_map, List.getElem_range] at hv
            exact h10.trans hv
        · intro k hk
          simp only [Pr.kids, List.mem_map, List.mem_range] at hk
          obtain ⟨i, hi, rfl⟩ := hk
          exact (hf2 i hi).2
end Go.Proofs.YthhjhlodgfdlgaaDoor
