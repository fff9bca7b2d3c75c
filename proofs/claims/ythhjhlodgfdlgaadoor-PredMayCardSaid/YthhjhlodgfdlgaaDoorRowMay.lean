import Derived.Test.YthhjhlodgfdlgaaDoorRow
import Derived.Test.YthhjhlodgfdlgaaDoorLawMay
import Derived.Deep.DeepHandedRow
import Derived.Deep.DeepWitnessRowRef
import Derived.ChangeMaps5
set_option linter.unusedVariables false
set_option linter.unusedSimpArgs false
namespace Go.Proofs.YthhjhlodgfdlgaaDoor
open Go Go.ChangeShapes Go.WideShapes Go.ChangeAt Go.RowKit

section
variable {H : Type} {enc : TypeId × Value → H} {W : World} {base : Nat} {spare : Nat → Bool} {held : Bool}
theorem cofCo : Tryd.prog.cellsOf 3 = 1 ∧ Tryd.prog.cellsOf 9 = 1 ∧ Tryd.prog.cellsOf 4 = 1 ∧ Tryd.prog.cellsOf 37 = 1 ∧ Tryd.prog.cellsOf 56 = 3 := ⟨by kernel_rfl, by kernel_rfl, by kernel_rfl, by kernel_rfl, by kernel_rfl⟩
set_option maxRecDepth 100000 in
theorem open_co {fuel : Nat} {cs : List Value} {x : DataW H × List MemPlace} (h : DataW.trod enc Tryd.prog W base spare held fuel 56 cs = some x) : ∃ c : Co, cs = encCo c ∧ c.name.size ≤ 9223372036854775807 := by
  obtain ⟨k3, k9, k4, k37, k56⟩ := cofCo
  obtain ⟨xs, n, rfl, rfl, hl, hlen, hf⟩ := DataW.trod_struct Tryd.underlying56 h
  rw [k56] at hl
  have hx : xs.length = 3 := hlen
  match cs, hl with
  | [a, b, c], _ =>
    match xs, hx with
    | [x0, x1, x2], _ =>
      have h0 : DataW.trod enc Tryd.prog W base spare held n 9 (([a, b, c].drop 0).take (Tryd.prog.cellsOf 9)) = some x0 := hf 0 _ rfl
      have h1 : DataW.trod enc Tryd.prog W base spare held n 3 (([a, b, c].drop 1).take (Tryd.prog.cellsOf 3)) = some x1 := hf 1 _ rfl
      have h2 : DataW.trod enc Tryd.prog W base spare held n 4 (([a, b, c].drop 2).take (Tryd.prog.cellsOf 4)) = some x2 := hf 2 _ rfl
      rw [k9] at h0
      rw [k3] at h1
      rw [k4] at h2
      obtain ⟨s, e0, _, w0⟩ := DataW.trod_string Tryd.underlying9 h0
      obtain ⟨ni, e1, _, w1⟩ := DataW.trod_int Tryd.underlying3 h1
      obtain ⟨bb, e2, _⟩ := DataW.trod_bool Tryd.underlying4 h2
      simp at e0 e1 e2
      subst e0 e1 e2
      exact ⟨⟨s, ni, bb⟩, rfl, w0⟩
set_option maxRecDepth 100000 in
theorem open_cols {fuel : Nat} {a : Option Addr} {len cap : Nat} {x : DataW H × List MemPlace} (h : DataW.trod enc Tryd.prog W base spare held fuel 37 [.slice a len cap] = some x) :
    ∃ cols : List Co, cols.length = len ∧ len ≤ cap ∧ cap ≤ 9223372036854775807 ∧ RowAt W a cols ∧ ∀ c ∈ cols, c.name.size ≤ 9223372036854775807 := by
  obtain ⟨k3, k9, k4, k37, k56⟩ := cofCo
  rcases DataW.trod_slice Tryd.underlying37 h with ⟨e6, _⟩ | ⟨a', len', cap', elems, rest, m, rfl, e6, _, hb, hlc, hcap, hel, hget, _, _⟩
  · simp at e6
    obtain ⟨rfl, rfl, rfl⟩ := e6
    exact ⟨[], rfl, Nat.le_refl _, by omega, ⟨by simp, fun h => by simp at h⟩, fun c hc => by simp at hc⟩
  · simp at e6
    obtain ⟨rfl, rfl, rfl⟩ := e6
    have hk : ∀ i, i < len → ∃ q : Co, W.cells? base (a'.add (i * 3)) 3 = some (encCo q) ∧ q.name.size ≤ 9223372036854775807 := by
      intro i hi
      have h7 := hget i hi
      rw [List.getElem?_eq_getElem (by omega), k56] at h7
      obtain ⟨cs', h8, h9⟩ := Option.bind_eq_some_iff.1 h7
      obtain ⟨q, rfl, hq⟩ := open_co h9
      exact ⟨q, h8, hq⟩
    obtain ⟨f, hf2⟩ := Go.Deep.choose_lt hk
    have hkl : ((List.range len).map f).length = len := by simp
    refine ⟨(List.range len).map f, hkl, hlc, by simp only [maxLen] at hcap; omega, ⟨by rw [hkl]; simp only [maxLen] at hcap; omega, ?_⟩, ?_⟩
    · intro hp
      rw [hkl] at hp
      obtain ⟨_, _, hc0⟩ := World.cells?_some (hf2 0 hp).1
      have hc00 := hc0 0 (by omega)
      obtain ⟨b, off, rfl⟩ := spot_none (a := a') (v := .string (f 0).name) (by
        have h := hc00
        rw [show (a'.add (0 * 3)).add 0 = a' from by simp [Addr.add]] at h
        exact h)
      refine ⟨b, off, rfl, ?_, ?_⟩
      · have := World.block_lt_of_cell? W _ hc00
        simpa [Addr.add] using this
      · intro j hj i v hv
        rw [hkl] at hj
        have hi : i < 3 := (List.getElem?_eq_some_iff.1 hv).1
        obtain ⟨_, _, hcj⟩ := World.cells?_some (hf2 j hj).1
        have h10 := hcj i hi
        rw [add_plain2, add_plain2] at h10
        simp only [List.getElem_map, List.getElem_range] at hv
        exact h10.trans hv
    · intro c hc
      simp only [List.mem_map, List.mem_range] at hc
      obtain ⟨i, hi, rfl⟩ := hc
      exact (hf2 i hi).2
end

def argMay0 : Value := .slice none 0 0
def argMay1 : Value := .agg #[.int .i64 0, .string ByteArray.empty, .int .i64 0, .bool false, .int .i64 0, .string ByteArray.empty, .int .i64 0, .string ByteArray.empty, .slice none 0 0]
set_option maxRecDepth 100000 in
theorem witness_rowMay (os : Os) {H : Type} (enc : TypeId × Value → H) :
    (OpenSpec.ofChange Rows.predMaySpec).preRow enc Tryd.prog Tryd.f4 Rows.predMayRow.domain false Rows.predMayRow.laid ((startW os).forCall (fun _ _ => 0) ⟨#[], #[argMay0, argMay1], []⟩).memory #[argMay0, argMay1] := by
  have hw : (DataW.whole enc Tryd.prog ((startW os).forCall (fun _ _ => 0) ⟨#[], #[argMay0, argMay1], []⟩).memory Tryd.f4.params.toList (OpenSpec.ofChange Rows.predMaySpec).vars false #[argMay0, argMay1].toList 8).map (fun x => (x.1, x.2.1)) =
      some ([.nil, .agg [.lit (.int .i64 0), .lit (.string []), .lit (.int .i64 0), .agg [.lit (.bool false), .lit (.int .i64 0), .lit (.string [])], .lit (.int .i64 0), .lit (.string []), .nil]], []) := by kernel_rfl
  obtain ⟨⟨x1, x2, x3⟩, hx, hx1⟩ := Option.map_eq_some_iff.1 hw
  simp only [Prod.mk.injEq] at hx1
  obtain ⟨rfl, rfl⟩ := hx1
  exact OpenSpec.preRow_of_cond 8 hx (by kernel_rfl) (fun k hk => by cases hk) (by kernel_rfl) (start_met os _)

set_option maxRecDepth 100000 in
set_option maxHeartbeats 2000000 in
theorem liftedMay (os : Os) (started : os.Started) (H : Type) (enc : TypeId × Value → H) (F : Stop.Interp) :
    ReturnsInHanded {} Tryd.checked os 4 .any ((OpenSpec.ofChange Rows.predMaySpec).preRow enc Tryd.prog Tryd.f4 Rows.predMayRow.domain false Rows.predMayRow.laid) (((OpenSpec.ofChange Rows.predMaySpec).at F).post enc Tryd.prog Tryd.f4 false true false false) := by
  refine returnsInHanded_of_row (C := Tryd.checked) (s := OpenSpec.ofChange Rows.predMaySpec) own started (by kernel_rfl) Tryd.func4
    (witness_row_at (enc := enc) (C := Tryd.checked) false (startW os) #[argMay0, argMay1] rfl (by kernel_rfl) (by kernel_rfl) (by kernel_rfl) (witness_rowMay os enc)) ?_
  intro W base args ds gs before hval0 hW _ hcond0 hsz0 hL hsh _
  have hval : ∀ (j : Nat) t v, Tryd.f4.params[j]? = some t → args[j]? = some v → Value.okWide Tryd.prog W .any base t v := hval0
  have hW' := hW
  obtain ⟨pl, ql, hA0, hV0, rfl, _, _⟩ := hW
  have hA : DataW.TrodAll enc Tryd.prog W 0 (fun _ => true) true Tryd.f4.params.toList args.toList ds pl := hA0
  rw [Tryd.params4] at hA hval
  obtain ⟨v0, v1, d0, d1, p0, p1, rfl, rfl, rfl, h0, h1⟩ := trodAll_two hA
  obtain ⟨rfl, rfl⟩ := trodVars_none hV0
  have hstd := std_of hL hsh
  obtain ⟨a0, l0, c0, rfl⟩ := okWide_slice Tryd.underlying37 (hval 0 37 v0 rfl rfl)
  obtain ⟨cs1, rfl, _⟩ := okWide_struct Tryd.underlying26 (hval 1 26 v1 rfl rfl)
  have h0k := h0
  have h1k := h1
  obtain ⟨fuel0, hf0⟩ := h0
  obtain ⟨fuel1, hf1⟩ := h1
  obtain ⟨cols, rfl, hlc, hcm, hrow, hfine⟩ := open_cols hf0
  obtain ⟨p, hp, hin⟩ := open_pr _ _ _ hf1
  obtain rfl : cs1 = (encPr p).toArray := by
    have : cs1.toList = encPr p := hp
    rw [← this]
  clear hA0 hV0 hval0
  simp only [List.append_nil] at hW'
  have hlt : ∀ x ∈ p0 ++ p1, x.block < W.heap.size := fun x hx => hW'.lt x (by simpa using hx)
  refine (lawMay_calls cols a0 c0 p W hrow hlc hcm hfine hin hstd).mono ?_
  rintro e W' ⟨rfl, bel⟩
  refine ⟨_, rfl, _, _, _, [], p0 ++ p1, [], hW', ?_, ?_, ?_, bel.frame _, fun h => by cases h⟩
  · exact trodAll_mk1 (shut_bool Tryd.underlying4 _)
  · exact trodAll_mk2 (Below.trod laidOut (by kernel_rfl) (of_decide_eq_true (by kernel_rfl)) h0k bel (fun x hx => hlt x (by simp [hx]))) (Below.trod laidOut (by kernel_rfl) (of_decide_eq_true (by kernel_rfl)) h1k bel (fun x hx => hlt x (by simp [hx])))
  · rfl
end Go.Proofs.YthhjhlodgfdlgaaDoor
