import Derived.Test.YthhjhlodgfdlgaaDoorRow
import Derived.Test.YthhjhlodgfdlgaaDoorLawBack
import Derived.Stop.LaidErr
import Derived.Deep.DeepHandedRow
import Derived.Deep.DeepWitnessRowRef
import Derived.ChangeMaps5
import Derived.ShutString
set_option linter.unusedVariables false
set_option linter.unusedSimpArgs false
namespace Go.Proofs.YthhjhlodgfdlgaaDoor
open Go Go.ChangeShapes Go.WideShapes Go.ChangeAt Go.RowKit
open Go.ChangeMaps (open_string shut_string)

theorem gSyn : Tryd.prog.globalNamed "strconv.ErrSyntax" = some 6 := by kernel_rfl
theorem gRan : Tryd.prog.globalNamed "strconv.ErrRange" = some 7 := by kernel_rfl
theorem tSyn : (Tryd.prog.globals[6]?).map (·.type) = some 88 := by kernel_rfl
theorem tRan : (Tryd.prog.globals[7]?).map (·.type) = some 88 := by kernel_rfl
theorem cells_es : Tryd.prog.cellsOf 143 = 1 := by kernel_rfl
theorem cells_st : Tryd.prog.cellsOf 9 = 1 := by kernel_rfl
theorem star_es : "*" ++ "errors.errorString" = "*errors.errorString" := by decide
theorem row_es (u : TypeId) (h : Tryd.prog.typeName? 3 u = some "*errors.errorString") : u = 141 :=
  typeName_ptr_named (nm := "errors.errorString") (by rw [star_es]; kernel_rfl) (by kernel_rfl) (by decide) u (by rw [star_es]; exact h)
theorem numok_of {W : World} (hL : laidMetH Tryd.prog Rows.wordBackRow.laid W) (hsh : W.ShapedOpen Tryd.prog) : NumOk W := by
  rw [MakeChecks.laidMetH_plain _ _ _ (by kernel_rfl)] at hL
  have h4 := (((laidMet.tail hL).tail).tail).tail
  have h5 := h4.tail
  obtain ⟨a0, s0, hv0, _⟩ := laid_sentinel h4 gRan tRan Tryd.underlying88 row_es Tryd.underlying141 Tryd.underlying143 rfl rfl Tryd.underlying9 cells_es cells_st
  obtain ⟨a1, s1, hv1, _⟩ := laid_sentinel h5 gSyn tSyn Tryd.underlying88 row_es Tryd.underlying141 Tryd.underlying143 rfl rfl Tryd.underlying9 cells_es cells_st
  refine ⟨⟨?_, Tryd.laysM155.s1_3 W hsh⟩, ⟨_, (World.var?_cell gSyn hv1 0).trans rfl, .inr ⟨_, _, rfl⟩⟩, ⟨_, (World.var?_cell gRan hv0 0).trans rfl, .inr ⟨_, _, rfl⟩⟩⟩
  obtain ⟨ps, ⟨g2, t2, cs2, f2, p2, q2, hg2, ht2, hv2, hd2, _⟩, _⟩ := (laidMet.tail hL).tail
  obtain rfl := Option.some.inj (gPow.symm.trans hg2)
  obtain rfl := Option.some.inj (tPow.symm.trans ht2)
  have h := Lib.cells_of_tab (zs := Lib.pow10Tab) (k := .u64) Tryd.underlying112 Tryd.underlying65 (by kernel_rfl) (by kernel_rfl) hd2
  unfold Lib.TabIs
  rw [hv2, ← h]

theorem start_metB (os : Os) (args : Array Value) : laidMetH Tryd.prog Rows.wordBackRow.laid ((startW os).forCall (fun _ _ => 0) ⟨#[], args, []⟩).memory :=
  laidMetH_of_parts3 (fuel := 8) (laidMet_of_run' 8 (by kernel_rfl) (by kernel_rfl)) (by kernel_rfl) (by kernel_rfl)
set_option maxRecDepth 100000 in
theorem witness_rowB (os : Os) {H : Type} (enc : TypeId × Value → H) :
    (OpenSpec.ofChange Rows.wordBackSpec).preRow enc Tryd.prog Tryd.f5 Rows.wordBackRow.domain false Rows.wordBackRow.laid ((startW os).forCall (fun _ _ => 0) ⟨#[], #[.string ByteArray.empty, .int .i64 0], []⟩).memory #[.string ByteArray.empty, .int .i64 0] := by
  have hw : (DataW.whole enc Tryd.prog ((startW os).forCall (fun _ _ => 0) ⟨#[], #[.string ByteArray.empty, .int .i64 0], []⟩).memory Tryd.f5.params.toList (OpenSpec.ofChange Rows.wordBackSpec).vars false #[Value.string ByteArray.empty, Value.int .i64 0].toList 8).map (fun x => (x.1, x.2.1)) =
      some ([.lit (.string []), .lit (.int .i64 0)], []) := by kernel_rfl
  obtain ⟨⟨x1, x2, x3⟩, hx, hx1⟩ := Option.map_eq_some_iff.1 hw
  simp only [Prod.mk.injEq] at hx1
  obtain ⟨rfl, rfl⟩ := hx1
  exact OpenSpec.preRow_of_cond 8 hx (by kernel_rfl) (fun k hk => by cases hk) (by kernel_rfl) (start_metB os _)

set_option maxRecDepth 100000 in
set_option maxHeartbeats 2000000 in
theorem liftedBack (os : Os) (started : os.Started) (H : Type) (enc : TypeId × Value → H) (F : Stop.Interp) :
    ReturnsInHanded {} Tryd.checked os 5 .any ((OpenSpec.ofChange Rows.wordBackSpec).preRow enc Tryd.prog Tryd.f5 Rows.wordBackRow.domain false Rows.wordBackRow.laid) (((OpenSpec.ofChange Rows.wordBackSpec).at F).post enc Tryd.prog Tryd.f5 false true false false) := by
  refine returnsInHanded_of_row (C := Tryd.checked) (s := OpenSpec.ofChange Rows.wordBackSpec) own started (by kernel_rfl) Tryd.func5
    (witness_row_at (enc := enc) (C := Tryd.checked) false (startW os) #[.string ByteArray.empty, .int .i64 0] rfl (by kernel_rfl) (by kernel_rfl) (by kernel_rfl) (witness_rowB os enc)) ?_
  intro W base args ds gs before hval0 hW _ hcond0 hsz0 hL hsh _
  have hval : ∀ (j : Nat) t v, Tryd.f5.params[j]? = some t → args[j]? = some v → Value.okWide Tryd.prog W .any base t v := hval0
  have hW' := hW
  obtain ⟨pl, ql, hA0, hV0, rfl, _, _⟩ := hW
  have hA : DataW.TrodAll enc Tryd.prog W 0 (fun _ => true) true Tryd.f5.params.toList args.toList ds pl := hA0
  rw [Tryd.params5] at hA hval
  obtain ⟨v0, v1, d0, d1, p0, p1, rfl, rfl, rfl, h0, h1⟩ := trodAll_two hA
  obtain ⟨rfl, rfl⟩ := trodVars_none hV0
  have hnum := numok_of hL hsh
  obtain ⟨s, rfl, rfl, rfl, y0⟩ := open_string Tryd.underlying9 (hval 0 9 v0 rfl rfl) h0
  obtain ⟨n, rfl, rfl, rfl, w1⟩ := open_int Tryd.underlying2 (hval 1 2 v1 rfl rfl) h1
  clear hA0 hV0 hval0
  simp only [List.append_nil] at hW'
  have hs : s.size ≤ 9223372036854775807 := by simp only [maxLen] at y0; omega
  refine (lawBack_calls s n W hs (wf_i64 w1) hnum).mono ?_
  rintro e W' ⟨rfl, bel⟩
  refine ⟨_, rfl, _, _, _, [], [] ++ [], [], hW', ?_, ?_, ?_, bel.frame _, fun h => by cases h⟩
  · exact trodAll_mk1 (shut_bool Tryd.underlying4 _)
  · exact trodAll_mk2 (shut_string Tryd.underlying9 y0) (shut_int Tryd.underlying2 w1)
  · rfl
end Go.Proofs.YthhjhlodgfdlgaaDoor
