import Derived.Test.YthhjhlodgfdlgaaDoorTokQ
import Derived.Test.YthhjhlodgfdlgaaDoorVal
import Derived.Test.YthhjhlodgfdlgaaDoorWLast
import Derived.Lib.ParseIntBTie
import Derived.Lib.AtoiErrMem
set_option linter.unusedVariables false
set_option linter.unusedSimpArgs false
namespace Go.Proofs.YthhjhlodgfdlgaaDoor
open Go Go.RowKit Go.Proofs.YthhjhlodgfdlgaaDoorW.PrintLast

/-- What reading a number leans on: the tables, and that the two errors' variables hold something. -/
structure NumOk (w : World) : Prop where
  std : StdOk w
  syn : ∃ ev, w.cell? ⟨6, 0, none⟩ = some ev ∧ (ev = .nilIface ∨ ∃ te pe, ev = .iface te pe)
  ran : ∃ ev, w.cell? ⟨7, 0, none⟩ = some ev ∧ (ev = .nilIface ∨ ∃ te pe, ev = .iface te pe)
theorem NumOk.low {w w' : World} (h : NumOk w) (hb : Below w.heap.size w w') : NumOk w' := by
  obtain ⟨h1, ⟨e1, h2, h3⟩, ⟨e2, h4, h5⟩⟩ := h
  exact ⟨h1.low hb, ⟨e1, (hb.cell (World.block_lt_of_cell? w _ h2)).trans h2, h3⟩, ⟨e2, (hb.cell (World.block_lt_of_cell? w _ h4)).trans h4, h5⟩⟩
def parseO (l : List UInt8) : Option Int := match Lib.parseIntB 64 l with | .ok v => some v | _ => none
def ParseRet (r : Option Int) (w : World) (e : Ending) (w' : World) : Prop :=
  Below w.heap.size w w' ∧ match r with
    | some v => e = .returned (.tuple #[.int .i64 v, .nilIface])
    | none => ∃ (v : Int) (t : TypeId) (p : Addr), e = .returned (.tuple #[.int .i64 v, .iface t (.pointer (some p))])
theorem parseO_i64 {l : List UInt8} {v : Int} (h : parseO l = some v) : i64 v := by
  unfold parseO at h
  split at h
  · rename_i u hu
    injection h with h
    subst h
    have := Lib.parseIntB_bounds hu
    simp at this
    exact ⟨by omega, by omega⟩
  · cases h
theorem parse_calls (s : ByteArray) (w : World) (h : s.size ≤ 1000000) (hw : NumOk w) : Calls Tryd.prog 89 #[.string s, .int .i64 10, .int .i64 64] w (ParseRet (parseO s.data.toList) w) := by
  unfold parseO
  cases hp : Lib.parseIntB 64 s.data.toList with
  | ok v =>
    refine (Any.strconv_ParseInt_10_at64_ok Tryd.laysC174 s (by omega) v hp w).mono ?_
    rintro e w' ⟨rfl, hw' | ⟨t, hw'⟩⟩
    · subst hw'; exact ⟨Below.refl _ _, rfl⟩
    · subst hw'; exact ⟨Lib.bytesWorld_below _ _ _, rfl⟩
  | range =>
    obtain ⟨ev, h1, h2⟩ := hw.ran
    refine (Any.strconv_ParseInt_10_at64_range Tryd.laysC174 s (by omega) hp ev w h1 h2).mono ?_
    rintro e w' ⟨N, rfl, _, _, hb⟩
    exact ⟨hb, _, _, _, rfl⟩
  | _ =>
    obtain ⟨ev, h1, h2⟩ := hw.syn
    refine (Any.strconv_ParseInt_10_at64_syntax Tryd.laysC174 s (by omega) hp ev w h1 h2).mono ?_
    rintro e w' ⟨N, rfl, _, _, hb⟩
    exact ⟨hb, _, _, _, rfl⟩

def numL (l : List UInt8) : Nat := ((l.drop 1).takeWhile (fun b => digN b.toNat)).length + 1
def numV (l : List UInt8) (n : Nat) : Option Int → Option (Tk × Nat)
  | some v => if (digB v).data.toList = l.take n then some (⟨2, ByteArray.empty, v, 0⟩, n) else none
  | none => none
def numT (l : List UInt8) : Option (Tk × Nat) := numV l (numL l) (parseO (l.take (numL l)))
theorem extr_to (s : ByteArray) (n : Nat) : (s.extract 0 n).data.toList = s.data.toList.take n := by
  rw [Lib.extract_eq]
  show (List.take (n - 0) (List.drop 0 s.data.toList)) = _
  simp

set_option maxHeartbeats 1000000 in
set_option maxRecDepth 100000 in
theorem number_calls (s : ByteArray) (w : World) (h1 : 1 ≤ s.size) (h2 : s.size ≤ 1000000) (hw : NumOk w) : Calls Tryd.prog 71 #[.string s] w (TokRet (numT s.data.toList) w) := by
  have eg := enters_of Tryd.func70 (by kernel_rfl) rfl
  have hB1 := (Below.refl w.heap.size w).alloc (Nat.le_refl _) (.cells #[Value.int .i64 0, Value.string ⟨#[]⟩, Value.int .i64 0, Value.int .i64 0] 50)
  have hwh := while_calls 70 eg digN digit_calls (fun c h => digN_hi h) (s.extract 1 s.size) (w.alloc (.cells #[Value.int .i64 0, Value.string ⟨#[]⟩, Value.int .i64 0, Value.int .i64 0] 50)) (by rw [ByteArray.size_extract]; omega)
  have hwn : whileN digN (s.extract 1 s.size) + 1 = numL s.data.toList := by rw [whileN, numL, extr_from]
  have hwl := whileN_le digN (s.extract 1 s.size)
  rw [ByteArray.size_extract] at hwl
  generalize whileN digN (s.extract 1 s.size) = k at *
  have hkl : k + 1 ≤ s.size := by omega
  have hpa := fun W (hW : Below w.heap.size w W) => parse_calls (s.extract 0 (k + 1)) W (by rw [ByteArray.size_extract]; omega) (hw.low hW)
  rw [extr_to] at hpa
  have hT : numT s.data.toList = numV s.data.toList (k + 1) (parseO (s.data.toList.take (k + 1))) := by rw [numT, hwn]
  rw [hT]
  have hdi := fun v (hv : parseO (s.data.toList.take (k + 1)) = some v) W (hW : Below w.heap.size w W) => digits_calls v W (parseO_i64 hv) (hw.std.low hW)
  have HX : Asd ((s.extract 0 (k + 1)).toList = s.data.toList.take (k + 1)) := ⟨by rw [Go.Lib.toList_data]; exact extr_to s (k + 1)⟩
  clear hT hwn hwl
  generalize hpo : parseO (s.data.toList.take (k + 1)) = po at *
  clear hpo hw eg
  have hsl : ∀ W, (Instr.slice 9 (.string s) none (some (.int .i64 (1 + (k : Int)))) none).run Tryd.prog W = .ok (.string (s.extract 0 (k + 1))) W := fun W => by
    have h := run_slice_string_h (P := Tryd.prog) (w := W) (t := 9) (s := s) Tryd.underlying9 .i64 (1 + (k : Int)) (by omega) (by omega)
    have e1 : (1 + (k : Int)).toNat = k + 1 := by omega
    rw [h, e1]
  have k4 : (s.size : Int) ≤ 1000000 := by omega
  have k5 : (k : Int) + 1 ≤ (s.size : Int) := by omega
  have k6 : (1 : Int) ≤ (s.size : Int) := by omega
  have HB1 := Asd.mk hB1
  clear hB1
  cases po with
  | none =>
    clear hdi
    go_enter Tryd.func71, Tryd.ntmps71
    go_wp2_with fail
    go_call hwh as e w1 ⟨rfl, hb1⟩
    have hc1 := fun o => (bcell hb1).1 w.heap.size o (by simp)
    have hp1 := hpa w1 (bnext HB1.out hb1)
    go_wp2_with fail
    go_call hp1 as e w2 ⟨hb2, v, t, p, rfl⟩
    have hBw : Below w.heap.size w w2 := bnext (bnext HB1.out hb1) hb2
    have hs1 := hb1.size
    simp at hs1
    have hc2 := fun o => (bcell (hb1.trans (hb2.mono hb1.size))).1 w.heap.size o (by simp)
    have hf2 := fun o => (bcell (hb1.trans (hb2.mono hb1.size))).2 w.heap.size o (by simp)
    go_wp2_with fail
    refine start_ (n := 10) (S := fun w' => True) (ds := []) #[false, false, false, false, false, false, false, false, false, false] (by kernel_rfl) rfl rfl trivial (fun hHeld => ?_)
    refine pure_ (i := 0) (N := some 18) (v := ?_) (a' := ?_) #[true, false, false, false, false, false, false, false, false, false] rfl rfl (by kernel_rfl) (fun _ _ _ h => h) (Or.inl ⟨by rfl, ?_⟩) ?_ ?_
    rotate_left
    · intro w'
      go_simp
      with_reducible rfl
    rotate_left
    · simp only [Act.put, List.setIfInBounds_toArray, List.set_cons_zero, List.set_cons_succ, i64_w, i32_w]
      rfl
    refine pure_ (i := 1) (N := some 19) (v := ?_) (a' := ?_) #[true, true, false, false, false, false, false, false, false, false] rfl rfl (by kernel_rfl) (fun _ _ _ h => h) (Or.inl ⟨by rfl, ?_⟩) ?_ ?_
    rotate_left
    · intro w'
      go_simp
      with_reducible rfl
    rotate_left
    · simp only [Act.put, List.setIfInBounds_toArray, List.set_cons_zero, List.set_cons_succ, i64_w, i32_w]
      rfl
    refine pure_ (i := 2) (N := some 20) (v := ?_) (a' := ?_) #[true, true, true, false, false, false, false, false, false, false] rfl rfl (by kernel_rfl) (fun _ _ _ h => h) (Or.inl ⟨by rfl, ?_⟩) ?_ ?_
    rotate_left
    · intro w'
      go_simp
      with_reducible rfl
    rotate_left
    · simp only [Act.put, List.setIfInBounds_toArray, List.set_cons_zero, List.set_cons_succ, i64_w, i32_w]
      rfl
    refine pure_ (i := 3) (N := some 21) (v := undef) (a' := ?_) #[true, true, true, true, false, false, false, false, false, false] rfl rfl (by kernel_rfl) (fun _ _ _ h => h) (Or.inr ⟨by rfl, rfl⟩) ?_ ?_
    rotate_left
    · simp only [Act.put, List.setIfInBounds_toArray, List.set_cons_zero, List.set_cons_succ, i64_w, i32_w]
      rfl
    refine pure_ (i := 4) (N := some 22) (v := undef) (a' := ?_) #[true, true, true, true, true, false, false, false, false, false] rfl rfl (by kernel_rfl) (fun _ _ _ h => h) (Or.inr ⟨by rfl, rfl⟩) ?_ ?_
    rotate_left
    · simp only [Act.put, List.setIfInBounds_toArray, List.set_cons_zero, List.set_cons_succ, i64_w, i32_w]
      rfl
    refine pure_ (i := 5) (N := some 23) (v := undef) (a' := ?_) #[true, true, true, true, true, true, false, false, false, false] rfl rfl (by kernel_rfl) (fun _ _ _ h => h) (Or.inr ⟨by rfl, rfl⟩) ?_ ?_
    rotate_left
    · simp only [Act.put, List.setIfInBounds_toArray, List.set_cons_zero, List.set_cons_succ, i64_w, i32_w]
      rfl
    refine pure_ (i := 6) (N := some 24) (v := undef) (a' := ?_) #[true, true, true, true, true, true, true, false, false, false] rfl rfl (by kernel_rfl) (fun _ _ _ h => h) (Or.inr ⟨by rfl, rfl⟩) ?_ ?_
    rotate_left
    · simp only [Act.put, List.setIfInBounds_toArray, List.set_cons_zero, List.set_cons_succ, i64_w, i32_w]
      rfl
    refine pure_ (i := 7) (N := some 25) (v := undef) (a' := ?_) #[true, true, true, true, true, true, true, true, false, false] rfl rfl (by kernel_rfl) (fun _ _ _ h => h) (Or.inr ⟨by rfl, rfl⟩) ?_ ?_
    rotate_left
    · simp only [Act.put, List.setIfInBounds_toArray, List.set_cons_zero, List.set_cons_succ, i64_w, i32_w]
      rfl
    refine pure_ (i := 8) (N := some 26) (v := undef) (a' := ?_) #[true, true, true, true, true, true, true, true, true, false] rfl rfl (by kernel_rfl) (fun _ _ _ h => h) (Or.inr ⟨by rfl, rfl⟩) ?_ ?_
    rotate_left
    · simp only [Act.put, List.setIfInBounds_toArray, List.set_cons_zero, List.set_cons_succ, i64_w, i32_w]
      rfl
    refine pure_ (i := 9) (N := some 27) (v := ?_) (a' := ?_) #[true, true, true, true, true, true, true, true, true, true] rfl rfl (by kernel_rfl) (fun _ _ _ h => h) (Or.inl ⟨by rfl, ?_⟩) ?_ ?_
    rotate_left
    · intro w'
      go_simp
      with_reducible rfl
    rotate_left
    · simp only [Act.put, List.setIfInBounds_toArray, List.set_cons_zero, List.set_cons_succ, i64_w, i32_w]
      rfl
    refine done_ (by kernel_rfl) ?_
    have HBw := Asd.mk hBw
    go_wp2_with fail
    refine bodyPost_ret (v := .tuple #[.agg #[.int .i64 0, .string ⟨#[]⟩, .int .i64 0, .int .i64 0], .int .i64 0]) (by simp [results, Tryd.results71, go_sem, hc2]) rfl ?_
    exact ⟨(((HBw.out.drew.setCell (by simp) _).setCell (by simp) _).setCell (by simp) _).setCell (by simp) _, zeroTk, rfl⟩
  | some v =>
    have hdg := hdi v rfl
    clear hdi
    simp only [numV]
    have HD : ∃ d, digB v = d := ⟨_, rfl⟩
    obtain ⟨d, hd⟩ := HD
    rw [hd] at hdg ⊢
    clear hd
    by_cases hq : d.data.toList = s.data.toList.take (k + 1)
    · rw [if_pos hq]
      have hq' : (d.toList == (s.extract 0 (k + 1)).toList) = true := by rw [HX.out, Go.Lib.toList_data, hq]; simp
      clear hq
      go_enter Tryd.func71, Tryd.ntmps71
      go_wp2_with fail
      go_call hwh as e w1 ⟨rfl, hb1⟩
      have hB2 := Asd.mk (bnext HB1.out hb1)
      have hp1 := hpa w1 hB2.out
      go_wp2_with fail
      go_call hp1 as e w2 ⟨hb2, rfl⟩
      have hB3 := Asd.mk (bnext hB2.out hb2)
      go_wp2_with fail
      refine start_ (n := 10) (S := fun w' => True) (ds := []) #[false, false, false, false, false, false, false, false, false, false] (by kernel_rfl) rfl rfl trivial (fun hHeld => ?_)
      refine pure_ (i := 0) (N := some 18) (v := ?_) (a' := ?_) #[true, false, false, false, false, false, false, false, false, false] rfl rfl (by kernel_rfl) (fun _ _ _ h => h) (Or.inl ⟨by rfl, ?_⟩) ?_ ?_
      rotate_left
      · intro w'
        go_simp
        with_reducible rfl
      rotate_left
      · simp only [Act.put, List.setIfInBounds_toArray, List.set_cons_zero, List.set_cons_succ, i64_w, i32_w]
        rfl
      refine pure_ (i := 1) (N := some 19) (v := ?_) (a' := ?_) #[true, true, false, false, false, false, false, false, false, false] rfl rfl (by kernel_rfl) (fun _ _ _ h => h) (Or.inl ⟨by rfl, ?_⟩) ?_ ?_
      rotate_left
      · intro w'
        go_simp
        with_reducible rfl
      rotate_left
      · simp only [Act.put, List.setIfInBounds_toArray, List.set_cons_zero, List.set_cons_succ, i64_w, i32_w]
        rfl
      refine pure_ (i := 2) (N := some 20) (v := ?_) (a' := ?_) #[true, true, true, false, false, false, false, false, false, false] rfl rfl (by kernel_rfl) (fun _ _ _ h => h) (Or.inl ⟨by rfl, ?_⟩) ?_ ?_
      rotate_left
      · intro w'
        go_simp
        with_reducible rfl
      rotate_left
      · simp only [Act.put, List.setIfInBounds_toArray, List.set_cons_zero, List.set_cons_succ, i64_w, i32_w]
        rfl
      refine pure_ (i := 3) (N := some 21) (v := ?_) (a' := ?_) #[true, true, true, true, false, false, false, false, false, false] rfl rfl (by kernel_rfl) (fun _ _ _ h => h) (Or.inl ⟨by rfl, ?_⟩) ?_ ?_
      rotate_left
      · intro w'
        go_simp
        with_reducible rfl
      rotate_left
      · simp only [Act.put, List.setIfInBounds_toArray, List.set_cons_zero, List.set_cons_succ, i64_w, i32_w]
        rfl
      refine pure_ (i := 5) (N := some 23) (v := ?_) (a' := ?_) #[true, true, true, true, false, true, false, false, false, false] rfl rfl (by kernel_rfl) (fun _ _ _ h => h) (Or.inl ⟨by rfl, ?_⟩) ?_ ?_
      rotate_left
      · intro w'
        go_simp
        with_reducible rfl
      rotate_left
      · simp only [Act.put, List.setIfInBounds_toArray, List.set_cons_zero, List.set_cons_succ, i64_w, i32_w]
        rfl
      refine pure_ (i := 6) (N := some 24) (v := ?_) (a' := ?_) #[true, true, true, true, false, true, true, false, false, false] rfl rfl (by kernel_rfl) (fun _ _ _ h => h) (Or.inl ⟨by rfl, ?_⟩) ?_ ?_
      rotate_left
      · intro w'
        go_simp
        with_reducible rfl
      rotate_left
      · simp only [Act.put, List.setIfInBounds_toArray, List.set_cons_zero, List.set_cons_succ, i64_w, i32_w]
        rfl
      refine pure_ (i := 7) (N := some 25) (v := ?_) (a' := ?_) #[true, true, true, true, false, true, true, true, false, false] rfl rfl (by kernel_rfl) (fun _ _ _ h => h) (Or.inl ⟨by rfl, ?_⟩) ?_ ?_
      rotate_left
      · intro w'
        go_simp
        with_reducible rfl
      rotate_left
      · simp only [Act.put, List.setIfInBounds_toArray, List.set_cons_zero, List.set_cons_succ, i64_w, i32_w]
        rfl
      refine one_ (i := 4) (N := some 22) #[true, true, true, true, true, true, true, true, false, false] rfl rfl (by kernel_rfl) (by decide) (fun K hK => ?_)
      refine goes_ Tryd.func23 (by kernel_rfl) rfl #[.int .i64 v] (by rfl) rfl rfl (by simp only [List.map_toArray, List.map_cons, List.map_nil]; rfl) ?_
      with_reducible refine (hdg _ hB3.out.drew).mono ?_
      rintro e w3 ⟨rfl, hb3⟩
      refine ⟨_, rfl, ?_⟩
      have hK3 : Below w2.heap.size w2 w3 := bundrew hb3
      refine hK.out _ _ trivial (fun hHeld => ?_)
      clear hK K
      refine norm_ (a' := ?_) ?_ ?_
      rotate_left
      · show Act.put _ (some 22) _ = _
        simp only [Act.put, List.setIfInBounds_toArray, List.set_cons_zero, List.set_cons_succ, i64_w, i32_w]
        rfl
      refine pure_ (i := 8) (N := some 26) (v := ?_) (a' := ?_) #[true, true, true, true, true, true, true, true, true, false] rfl rfl (by kernel_rfl) (fun _ _ _ h => h) (Or.inl ⟨by rfl, ?_⟩) ?_ ?_
      rotate_left
      · intro w'
        go_simp
        with_reducible rfl
      rotate_left
      · simp only [Act.put, List.setIfInBounds_toArray, List.set_cons_zero, List.set_cons_succ, i64_w, i32_w]
        rfl
      refine pure_ (i := 9) (N := some 27) (v := ?_) (a' := ?_) #[true, true, true, true, true, true, true, true, true, true] rfl rfl (by kernel_rfl) (fun _ _ _ h => h) (Or.inl ⟨by rfl, ?_⟩) ?_ ?_
      rotate_left
      · intro w'
        go_simp
        with_reducible rfl
      rotate_left
      · simp only [Act.put, List.setIfInBounds_toArray, List.set_cons_zero, List.set_cons_succ, i64_w, i32_w]
        rfl
      refine done_ (by kernel_rfl) ?_
      have hX := (hb1.trans ((hb2.trans (hK3.mono hb2.size)).mono hb1.size))
      have hc2 := fun o => (bcell hX).1 w.heap.size o (by simp)
      have hf2 := fun o => (bcell hX).2 w.heap.size o (by simp)
      have hBw : Below w.heap.size w w3 := bnext hB3.out hK3
      clear hX hK3 hb3 hHeld
      go_wp2_with fail
      refine bodyPost_ret (v := .tuple #[.agg #[.int .i64 2, .string ⟨#[]⟩, .int .i64 v, .int .i64 0], .int .i64 (1 + (k : Int))]) (by simp [results, Tryd.results71, go_sem, hc2]) rfl ?_
      refine ⟨(((hBw.setCell (by simp) _).setCell (by simp) _).setCell (by simp) _).setCell (by simp) _, ?_, by omega⟩
      rw [show ((k + 1 : Nat) : Int) = 1 + (k : Int) by omega]
      rfl
    · rw [if_neg hq]
      have hq' : (d.toList == (s.extract 0 (k + 1)).toList) = false := by rw [HX.out, Go.Lib.toList_data]; simpa using hq
      clear hq
      go_enter Tryd.func71, Tryd.ntmps71
      go_wp2_with fail
      go_call hwh as e w1 ⟨rfl, hb1⟩
      have hB2 := Asd.mk (bnext HB1.out hb1)
      have hp1 := hpa w1 hB2.out
      go_wp2_with fail
      go_call hp1 as e w2 ⟨hb2, rfl⟩
      have hB3 := Asd.mk (bnext hB2.out hb2)
      go_wp2_with fail
      refine start_ (n := 10) (S := fun w' => True) (ds := []) #[false, false, false, false, false, false, false, false, false, false] (by kernel_rfl) rfl rfl trivial (fun hHeld => ?_)
      refine pure_ (i := 0) (N := some 18) (v := ?_) (a' := ?_) #[true, false, false, false, false, false, false, false, false, false] rfl rfl (by kernel_rfl) (fun _ _ _ h => h) (Or.inl ⟨by rfl, ?_⟩) ?_ ?_
      rotate_left
      · intro w'
        go_simp
        with_reducible rfl
      rotate_left
      · simp only [Act.put, List.setIfInBounds_toArray, List.set_cons_zero, List.set_cons_succ, i64_w, i32_w]
        rfl
      refine pure_ (i := 1) (N := some 19) (v := ?_) (a' := ?_) #[true, true, false, false, false, false, false, false, false, false] rfl rfl (by kernel_rfl) (fun _ _ _ h => h) (Or.inl ⟨by rfl, ?_⟩) ?_ ?_
      rotate_left
      · intro w'
        go_simp
        with_reducible rfl
      rotate_left
      · simp only [Act.put, List.setIfInBounds_toArray, List.set_cons_zero, List.set_cons_succ, i64_w, i32_w]
        rfl
      refine pure_ (i := 2) (N := some 20) (v := ?_) (a' := ?_) #[true, true, true, false, false, false, false, false, false, false] rfl rfl (by kernel_rfl) (fun _ _ _ h => h) (Or.inl ⟨by rfl, ?_⟩) ?_ ?_
      rotate_left
      · intro w'
        go_simp
        with_reducible rfl
      rotate_left
      · simp only [Act.put, List.setIfInBounds_toArray, List.set_cons_zero, List.set_cons_succ, i64_w, i32_w]
        rfl
      refine pure_ (i := 3) (N := some 21) (v := ?_) (a' := ?_) #[true, true, true, true, false, false, false, false, false, false] rfl rfl (by kernel_rfl) (fun _ _ _ h => h) (Or.inl ⟨by rfl, ?_⟩) ?_ ?_
      rotate_left
      · intro w'
        go_simp
        with_reducible rfl
      rotate_left
      · simp only [Act.put, List.setIfInBounds_toArray, List.set_cons_zero, List.set_cons_succ, i64_w, i32_w]
        rfl
      refine pure_ (i := 5) (N := some 23) (v := ?_) (a' := ?_) #[true, true, true, true, false, true, false, false, false, false] rfl rfl (by kernel_rfl) (fun _ _ _ h => h) (Or.inl ⟨by rfl, ?_⟩) ?_ ?_
      rotate_left
      · intro w'
        go_simp
        with_reducible rfl
      rotate_left
      · simp only [Act.put, List.setIfInBounds_toArray, List.set_cons_zero, List.set_cons_succ, i64_w, i32_w]
        rfl
      refine pure_ (i := 6) (N := some 24) (v := ?_) (a' := ?_) #[true, true, true, true, false, true, true, false, false, false] rfl rfl (by kernel_rfl) (fun _ _ _ h => h) (Or.inl ⟨by rfl, ?_⟩) ?_ ?_
      rotate_left
      · intro w'
        go_simp
        with_reducible rfl
      rotate_left
      · simp only [Act.put, List.setIfInBounds_toArray, List.set_cons_zero, List.set_cons_succ, i64_w, i32_w]
        rfl
      refine pure_ (i := 7) (N := some 25) (v := ?_) (a' := ?_) #[true, true, true, true, false, true, true, true, false, false] rfl rfl (by kernel_rfl) (fun _ _ _ h => h) (Or.inl ⟨by rfl, ?_⟩) ?_ ?_
      rotate_left
      · intro w'
        go_simp
        with_reducible rfl
      rotate_left
      · simp only [Act.put, List.setIfInBounds_toArray, List.set_cons_zero, List.set_cons_succ, i64_w, i32_w]
        rfl
      refine one_ (i := 4) (N := some 22) #[true, true, true, true, true, true, true, true, false, false] rfl rfl (by kernel_rfl) (by decide) (fun K hK => ?_)
      refine goes_ Tryd.func23 (by kernel_rfl) rfl #[.int .i64 v] (by rfl) rfl rfl (by simp only [List.map_toArray, List.map_cons, List.map_nil]; rfl) ?_
      with_reducible refine (hdg _ hB3.out.drew).mono ?_
      rintro e w3 ⟨rfl, hb3⟩
      refine ⟨_, rfl, ?_⟩
      have hK3 : Below w2.heap.size w2 w3 := bundrew hb3
      refine hK.out _ _ trivial (fun hHeld => ?_)
      clear hK K
      refine norm_ (a' := ?_) ?_ ?_
      rotate_left
      · show Act.put _ (some 22) _ = _
        simp only [Act.put, List.setIfInBounds_toArray, List.set_cons_zero, List.set_cons_succ, i64_w, i32_w]
        rfl
      refine pure_ (i := 8) (N := some 26) (v := ?_) (a' := ?_) #[true, true, true, true, true, true, true, true, true, false] rfl rfl (by kernel_rfl) (fun _ _ _ h => h) (Or.inl ⟨by rfl, ?_⟩) ?_ ?_
      rotate_left
      · intro w'
        go_simp
        with_reducible rfl
      rotate_left
      · simp only [Act.put, List.setIfInBounds_toArray, List.set_cons_zero, List.set_cons_succ, i64_w, i32_w]
        rfl
      refine pure_ (i := 9) (N := some 27) (v := ?_) (a' := ?_) #[true, true, true, true, true, true, true, true, true, true] rfl rfl (by kernel_rfl) (fun _ _ _ h => h) (Or.inl ⟨by rfl, ?_⟩) ?_ ?_
      rotate_left
      · intro w'
        go_simp
        with_reducible rfl
      rotate_left
      · simp only [Act.put, List.setIfInBounds_toArray, List.set_cons_zero, List.set_cons_succ, i64_w, i32_w]
        rfl
      refine done_ (by kernel_rfl) ?_
      have hX := (hb1.trans ((hb2.trans (hK3.mono hb2.size)).mono hb1.size))
      have hc2 := fun o => (bcell hX).1 w.heap.size o (by simp)
      have hf2 := fun o => (bcell hX).2 w.heap.size o (by simp)
      have hBw : Below w.heap.size w w3 := bnext hB3.out hK3
      clear hX hK3 hb3 hHeld
      go_wp2_with fail
      refine bodyPost_ret (v := .tuple #[.agg #[.int .i64 0, .string ⟨#[]⟩, .int .i64 0, .int .i64 0], .int .i64 0]) (by simp [results, Tryd.results71, go_sem, hc2]) rfl ?_
      exact ⟨(((hBw.setCell (by simp) _).setCell (by simp) _).setCell (by simp) _).setCell (by simp) _, zeroTk, rfl⟩
end Go.Proofs.YthhjhlodgfdlgaaDoor
