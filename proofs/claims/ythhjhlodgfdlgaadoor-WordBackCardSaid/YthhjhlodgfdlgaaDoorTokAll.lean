import Derived.Test.YthhjhlodgfdlgaaDoorTokP
import Derived.Test.YthhjhlodgfdlgaaDoorWWords
set_option linter.unusedVariables false
set_option linter.unusedSimpArgs false
namespace Go.Proofs.YthhjhlodgfdlgaaDoor
open Go Go.RowKit Go.Proofs.YthhjhlodgfdlgaaDoorW.PrintWords

theorem own_of_block2 {w w' : World} {base : Nat} {e : TypeId} {size n : Nat} {v : Value} {xs : List Value} (h : w.ownsRow base e size v n xs) (hb : ∀ g, base ≤ g → g < w.heap.size → w'.heap[g]? = w.heap[g]?) : w'.ownsRow base e size v n xs := by
  refine ⟨h.1, ?_⟩
  have hlt := World.ownsRow.lt h
  rcases h.2 with h1 | ⟨g, cap, cur, rfl, h2, h3, h4⟩
  · exact .inl h1
  · obtain ⟨a, b⟩ := hlt g rfl
    exact .inr ⟨g, cap, cur, rfl, h2, (hb g a b).trans h3, h4⟩
/-- A row of tokens of the call's own. -/
def OwnT (B : Nat) (w : World) (v : Value) (ts : List Tk) : Prop := w.ownsRow B 50 4 v ts.length (ts.flatMap encTk)
theorem OwnT.nil (B : Nat) (w : World) : OwnT B w (.slice none 0 0) [] := World.ownsRow_nil _ _ _ _
theorem flat_at : ∀ (ts : List Tk) (j : Nat) (hj : j < ts.length) (i : Nat) (v : Value), (encTk ts[j])[i]? = some v → (ts.flatMap encTk)[j * 4 + i]? = some v := by
  intro ts
  induction ts with
  | nil => intro j hj; simp at hj
  | cons t r ih =>
    intro j hj i v hv
    rw [List.flatMap_cons]
    cases j with
    | zero =>
      have hi : i < (encTk t).length := (List.getElem?_eq_some_iff.1 hv).1
      rw [Nat.zero_mul, Nat.zero_add, List.getElem?_append_left hi]
      exact hv
    | succ j =>
      have hl : (encTk t).length = 4 := rfl
      rw [List.getElem?_append_right (by rw [hl]; omega), hl, show (j + 1) * 4 + i - 4 = j * 4 + i by omega]
      exact ih j (by simpa using hj) i v (by simpa using hv)
theorem OwnT.row {B : Nat} {w : World} {v : Value} {ts : List Tk} (h : OwnT B w v ts) (hl : ts.length ≤ 9223372036854775807) : ∃ a c, v = .slice a ts.length c ∧ RowAt w a ts ∧ ts.length ≤ c := by
  have hlt := World.ownsRow.lt h
  have hcells := @World.ownsRow.cells _ _ _ _ _ _ _ h
  rcases h.2 with ⟨rfl, h0⟩ | ⟨g, cap, cur, rfl, hb, hg, hnc, hrest⟩
  · refine ⟨none, 0, by rw [h0], ⟨hl, fun hp => by omega⟩, by omega⟩
  · refine ⟨some ⟨g, 0, none⟩, cap, rfl, ⟨hl, fun hp => ⟨g, 0, rfl, (hlt g rfl).2, fun j hj i u hu => ?_⟩⟩, hnc⟩
    have h2 := hcells (g := g) rfl (j * 4 + i) u (flat_at ts j hj i u hu)
    have ha : (⟨g, 0, none⟩ : Addr).add (j * 4 + i) = ⟨g, 0 + j * Enc.sz Tk + i, none⟩ := by
      have e : Enc.sz Tk = 4 := rfl
      unfold Addr.add
      split <;> simp_all
    rwa [ha] at h2
theorem info_tok : (Tryd.prog.info? 50).map (fun i => (i.zero, i.size, i.bytes)) = some (some (.agg #[.int .i64 0, .string ⟨#[]⟩, .int .i64 0, .int .i64 0]), 4, 40) := by kernel_rfl

theorem tok_ones {a c d : Int} {b : ByteArray} : ∀ u ∈ [Value.int .i64 a, Value.string b, Value.int .i64 c, Value.int .i64 d], u.oneCell' = true := by
  intro u hu
  simp at hu
  rcases hu with rfl | rfl | rfl | rfl <;> rfl

theorem toks_len : ∀ (n : Nat) (l : List UInt8) (p : Nat), l.length ≤ n → (toks l p).1.length ≤ l.length := by
  intro n
  induction n with
  | zero =>
    intro l p h
    obtain rfl := List.eq_nil_of_length_eq_zero (by omega : l.length = 0)
    rw [toks_nil]
    exact Nat.le_refl _
  | succ n ih =>
    intro l p h
    cases l with
    | nil => rw [toks_nil]; exact Nat.le_refl _
    | cons b r =>
      simp only [List.length_cons] at h ⊢
      cases hb : blankN b.toNat with
      | true =>
        rw [toks_blank _ _ _ hb]
        have := ih r (p + 1) (by omega)
        omega
      | false =>
        cases ho : oneC b.toNat (b :: r) with
        | none => rw [toks_none _ _ _ hb ho]; simp
        | some x =>
          have hc : (b.toNat < 128 ∧ b.toNat = b.toNat) ∨ (128 ≤ b.toNat ∧ 128 ≤ b.toNat) := by omega
          have hf := oneC_fit (t := x.1) (n := x.2) b rfl hc ho
          rw [toks_some _ _ _ x.1 x.2 hb ho hf.2.2.1]
          have := ih ((b :: r).drop x.2) (p + x.2) (by simp; omega)
          simp at this ⊢
          omega

/-- What All answers of a text that is not too long. -/
def AllOut (n : Nat) (x : List Tk × Option Nat) (e : Ending) (w' : World) : Prop := match x.2 with
  | some p => e = .returned (.tuple #[.slice none 0 0, .int .i64 p, .int .i64 2])
  | none => ∃ a c, e = .returned (.tuple #[.slice a (x.1.length + 1) c, .int .i64 n, .int .i64 0]) ∧ RowAt w' a (x.1 ++ [⟨0, ByteArray.empty, 0, n⟩]) ∧ x.1.length + 1 ≤ c

theorem list_at (s : ByteArray) (p : Nat) (h : p < s.size) : s.data.toList[p]? = some (s[p]'h) := by
  rw [List.getElem?_eq_getElem (by exact h)]
  rfl
theorem drop_at (s : ByteArray) (p : Nat) (h : p < s.size) : s.data.toList.drop p = (s[p]'h) :: s.data.toList.drop (p + 1) := List.drop_eq_getElem_cons (l := s.data.toList) (i := p) h

/-- The state of All's loop: where the iterator stands, where the next token may begin, the tokens so far. -/
structure AllSt (s : ByteArray) (w : World) (pos nx : Nat) (ts : List Tk) (v : Value) (wr : World) : Prop where
  it : wr.heap[w.heap.size]? = some (.stringIter s pos)
  low : Below w.heap.size w wr
  own : OwnT (w.heap.size + 1) wr v ts
  nxle : nx ≤ s.size
  edge : pos < nx → ∃ h : nx - 1 < s.size, (s[nx - 1]'h).toNat < 128
  spec : toks s.data.toList 0 = (ts ++ (toks (s.data.toList.drop (max pos nx)) (max pos nx)).1, (toks (s.data.toList.drop (max pos nx)) (max pos nx)).2)
  few : ts.length ≤ max pos nx

theorem AllSt.start (s : ByteArray) (w : World) : AllSt s w 0 0 [] (.slice none 0 0) (w.iter s 0) :=
  ⟨World.iter_heap w s 0, (Below.refl _ w).alloc (Nat.le_refl _) _, OwnT.nil _ _, Nat.zero_le _, fun h => absurd h (by omega), by simp, Nat.zero_le _⟩
theorem AllSt.moved {s : ByteArray} {w : World} {pos nx : Nat} {ts : List Tk} {v : Value} {wr : World} (h : AllSt s w pos nx ts v wr) (q : Nat) :
    (wr.iterAt w.heap.size s q).heap[w.heap.size]? = some (.stringIter s q) ∧ Below w.heap.size w (wr.iterAt w.heap.size s q) ∧ OwnT (w.heap.size + 1) (wr.iterAt w.heap.size s q) v ts :=
  ⟨Lib.iterAt_heap wr _ s pos q h.it, Lib.below_iterAt h.low (Nat.le_refl _) s q, own_of_block2 h.own (fun g hg _ => Lib.iterAt_other wr _ g s q (by omega))⟩
/-- Within a token already read. -/
theorem AllSt.skip {s : ByteArray} {w : World} {pos nx : Nat} {ts : List Tk} {v : Value} {wr : World} (h : AllSt s w pos nx ts v wr) (hlt : pos < nx) : AllSt s w (pos + (Utf8.decode s pos).2) nx ts v (wr.iterAt w.heap.size s (pos + (Utf8.decode s pos).2)) := by
  obtain ⟨h1, h2, h3⟩ := h.moved (pos + (Utf8.decode s pos).2)
  obtain ⟨e1, e2⟩ := h.edge hlt
  have hle := decode_upto s pos nx hlt h.nxle e2
  have hw := h.spec
  have hf := h.few
  rw [Nat.max_eq_right (by omega)] at hw hf
  exact ⟨h1, h2, h3, h.nxle, fun _ => ⟨e1, e2⟩, by rw [Nat.max_eq_right hle]; exact hw, by rw [Nat.max_eq_right hle]; exact hf⟩
/-- A blank. -/
theorem AllSt.blank {s : ByteArray} {w : World} {pos nx : Nat} {ts : List Tk} {v : Value} {wr : World} (h : AllSt s w pos nx ts v wr) (hle : nx ≤ pos) (hlt : pos < s.size) (hb : blankN (s[pos]'hlt).toNat = true) : AllSt s w (pos + 1) nx ts v (wr.iterAt w.heap.size s (pos + 1)) := by
  obtain ⟨h1, h2, h3⟩ := h.moved (pos + 1)
  have hw := h.spec
  have hf := h.few
  rw [Nat.max_eq_left hle] at hw hf
  rw [drop_at s pos hlt, toks_blank _ _ _ hb] at hw
  exact ⟨h1, h2, h3, h.nxle, fun h4 => absurd h4 (by omega), by rw [Nat.max_eq_left (by omega)]; exact hw, by rw [Nat.max_eq_left (by omega)]; omega⟩
/-- No token begins here. -/
theorem AllSt.bad {s : ByteArray} {w : World} {pos nx : Nat} {ts : List Tk} {v : Value} {wr : World} (h : AllSt s w pos nx ts v wr) (hle : nx ≤ pos) (hlt : pos < s.size) (hb : blankN (s[pos]'hlt).toNat = false) (hn : oneC (s[pos]'hlt).toNat (s.data.toList.drop pos) = none) : (toks s.data.toList 0).2 = some pos := by
  have hw := h.spec
  rw [Nat.max_eq_left hle] at hw
  rw [drop_at s pos hlt] at hw hn
  rw [toks_none _ _ _ hb hn] at hw
  rw [hw]
/-- A token. -/
theorem AllSt.token {s : ByteArray} {w : World} {pos nx : Nat} {ts : List Tk} {v : Value} {wr : World} (h : AllSt s w pos nx ts v wr) (hle : nx ≤ pos) (hlt : pos < s.size) (hb : blankN (s[pos]'hlt).toNat = false) (t : Tk) (n : Nat)
    (hn : oneC (s[pos]'hlt).toNat (s.data.toList.drop pos) = some (t, n)) (v' : Value) (w' : World) (h1 : w'.heap[w.heap.size]? = some (.stringIter s (pos + 1))) (h2 : Below w.heap.size w w') (h3 : OwnT (w.heap.size + 1) w' v' (ts ++ [⟨t.kind, t.s, t.n, pos⟩])) : AllSt s w (pos + 1) (pos + n) (ts ++ [⟨t.kind, t.s, t.n, pos⟩]) v' w' := by
  have hw := h.spec
  have hf := h.few
  rw [Nat.max_eq_left hle] at hw hf
  have h0 : (s.data.toList.drop pos)[0]? = some (s[pos]'hlt) := by rw [List.getElem?_drop, Nat.add_zero]; exact list_at s pos hlt
  have hc : ((s[pos]'hlt).toNat < 128 ∧ (s[pos]'hlt).toNat = (s[pos]'hlt).toNat) ∨ (128 ≤ (s[pos]'hlt).toNat ∧ 128 ≤ (s[pos]'hlt).toNat) := by
    rcases Nat.lt_or_ge (s[pos]'hlt).toNat 128 with h | h
    · exact .inl ⟨h, rfl⟩
    · exact .inr ⟨h, h⟩
  obtain ⟨hlo, hnl, hn0, b, hb1, hb2⟩ := oneC_fit (s[pos]'hlt) h0 hc hn
  rw [List.length_drop, ← Lib.size_eq] at hnl
  rw [List.getElem?_drop, show pos + (n - 1) = pos + n - 1 by omega, list_at s (pos + n - 1) (by omega)] at hb1
  simp only [Option.some.injEq] at hb1
  have hn2 := hn
  rw [drop_at s pos hlt] at hn2
  have hts := toks_some _ _ pos t n hb hn2 hn0
  rw [← drop_at s pos hlt, List.drop_drop] at hts
  rw [hts] at hw
  refine ⟨h1, h2, h3, by omega, fun _ => ⟨by omega, by rw [hb1]; exact hb2⟩, ?_, by rw [Nat.max_eq_right (by omega)]; simp; omega⟩
  rw [Nat.max_eq_right (by omega), hw]
  simp
theorem tok_len {s : ByteArray} {pos : Nat} (hlt : pos < s.size) {t : Tk} {n : Nat} (hn : oneC (s[pos]'hlt).toNat (s.data.toList.drop pos) = some (t, n)) : pos + n ≤ s.size := by
  have h0 : (s.data.toList.drop pos)[0]? = some (s[pos]'hlt) := by rw [List.getElem?_drop, Nat.add_zero]; exact list_at s pos hlt
  have hc : ((s[pos]'hlt).toNat < 128 ∧ (s[pos]'hlt).toNat = (s[pos]'hlt).toNat) ∨ (128 ≤ (s[pos]'hlt).toNat ∧ 128 ≤ (s[pos]'hlt).toNat) := by
    rcases Nat.lt_or_ge (s[pos]'hlt).toNat 128 with h | h
    · exact .inl ⟨h, rfl⟩
    · exact .inr ⟨h, h⟩
  obtain ⟨_, hnl, _⟩ := oneC_fit (s[pos]'hlt) h0 hc hn
  rw [List.length_drop, ← Lib.size_eq] at hnl
  omega
/-- The text's end. -/
theorem AllSt.done {s : ByteArray} {w : World} {pos nx : Nat} {ts : List Tk} {v : Value} {wr : World} (h : AllSt s w pos nx ts v wr) (hge : ¬ pos < s.size) : toks s.data.toList 0 = (ts, none) := by
  have hw := h.spec
  have hd : s.data.toList.drop (max pos nx) = [] := by
    rw [List.drop_eq_nil_iff, ← Lib.size_eq]
    exact Nat.le_trans (by omega) (Nat.le_max_left pos nx)
  rw [hd, toks_nil] at hw
  rw [hw]
  simp

set_option maxHeartbeats 2000000 in
set_option maxRecDepth 100000 in
theorem all_calls (s : ByteArray) (w : World) (h2 : s.size ≤ 400) (hw : NumOk w) :
    Calls Tryd.prog 24 #[.string s] w (fun e w' => AllOut s.size (toks s.data.toList 0) e w' ∧ Below w.heap.size w w') := by
  have hgt : decide (400 < (s.size : Int)) = false := by simp; omega
  have hSt := Asd.mk (AllSt.start s w)
  have HNum := Asd.mk (fun W (h : Below w.heap.size w W) => hw.low h)
  have hbl := fun c W => blank_calls c W
  generalize hx : toks s.data.toList 0 = x at *
  have HX := Asd.mk hx
  have HAO : Asd (∀ (p : Nat), x.2 = some p → ∀ W', AllOut s.size x (.returned (.tuple #[.slice none 0 0, .int .i64 p, .int .i64 2])) W') := ⟨fun p h W' => by unfold AllOut; rw [h]⟩
  clear hx hw
  have k4 : (s.size : Int) ≤ 400 := by omega
  go_enter Tryd.func24, Tryd.ntmps24
  go_wp2_with fail
  go_loopw [5, 6] (fun v5 v6 wr => ∃ (pos nx : Nat) (ts : List Tk), v6 = .int .i64 nx ∧ Asd (AllSt s w pos nx ts v5 wr)) (fun _ _ wr => s.size - wr.iterPos w.heap.size)
  case atStart => exact ⟨0, 0, [], rfl, hSt⟩
  case round =>
    clear hSt
    obtain ⟨pos, nx, ts, rfl, hst⟩ := hrel
    have hit := hst.out.it
    have hip : wr.iterPos w.heap.size = pos := by simp [World.iterPos, hit]
    have HIP := Asd.mk hip
    clear hip
    by_cases hlt : pos < s.size
    · have hnext := fun ty => Lib.run_next_any_at (P := Tryd.prog) wr w.heap.size s pos ty hit hlt
      have hwid := width_pos s pos hlt
      by_cases hsk : pos < nx
      · have hs2 := Asd.mk (hst.out.skip hsk)
        have hsk' : decide ((pos : Int) < (nx : Int)) = true := by simpa using hsk
        have hip2 : (wr.iterAt w.heap.size s (pos + (Utf8.decode s pos).2)).iterPos w.heap.size = pos + (Utf8.decode s pos).2 := by simp [World.iterPos, hs2.out.it]
        have HIP2 := Asd.mk hip2
        clear hip2 hit hst
        generalize (Utf8.decode s pos).1 = c at *
        generalize (Utf8.decode s pos).2 = wd at *
        go_wp2_with fail
        go_roundw
        case rel => exact ⟨pos + wd, nx, ts, rfl, hs2⟩
        case measure => rw [HIP2.out, HIP.out]; omega
      · have hsk' : decide ((pos : Int) < (nx : Int)) = false := by simpa using hsk
        have hle : nx ≤ pos := by omega
        have hb := list_at s pos hlt
        have hdl : (s.extract pos s.size).data.toList = s.data.toList.drop pos := extr_from s pos
        have hsz : (s.extract pos s.size).size = s.size - pos := by rw [ByteArray.size_extract]; omega
        have hhd : ∀ h : 0 < (s.extract pos s.size).size, (s.extract pos s.size)[0]'h = s[pos]'hlt := fun h => by
          have h3 := list_at (s.extract pos s.size) 0 h
          rw [hdl, List.getElem?_drop, Nat.add_zero, hb] at h3
          exact (Option.some.inj h3).symm
        have hsl : ∀ W, (Instr.slice 9 (.string s) (some (.int .i64 (pos : Int))) none none).run Tryd.prog W = .ok (.string (s.extract pos s.size)) W := fun W => by
          have h := run_slice_string_l (P := Tryd.prog) (w := W) (t := 9) (s := s) Tryd.underlying9 .i64 (pos : Int) (by omega) (by omega)
          have e1 : ((pos : Int)).toNat = pos := by omega
          rw [h, e1]
        have p1 : (pos : Int) < (s.size : Int) := by omega
        have H2 := Asd.mk h2
        clear hsk
        by_cases ha : (s[pos]'hlt).toNat < 128
        · have hd := decode_ascii s pos hlt ha
          rw [hd] at hnext hwid
          clear hd
          obtain ⟨hm1, hm2, hm3⟩ := hst.out.moved (pos + 1)
          have HM1 := Asd.mk hm1
          have HM2 := Asd.mk hm2
          have HM3 := Asd.mk hm3
          have hipm : (wr.iterAt w.heap.size s (pos + 1)).iterPos w.heap.size = pos + 1 := by simp [World.iterPos, hm1]
          have HIPM := Asd.mk hipm
          clear hipm hm1 hm2 hm3 hit
          have hbs := Asd.mk (hst.out.blank hle hlt)
          have hbd := Asd.mk (hst.out.bad hle hlt)
          have htk := Asd.mk (hst.out.token hle hlt)
          have htl := Asd.mk (@tok_len s pos hlt)
          have hone := fun (h : blankN (s[pos]'hlt).toNat = false) => one_calls (s.extract pos s.size) (s[pos]'hlt).toNat (wr.iterAt w.heap.size s (pos + 1)) (by omega) (by omega) (fun _ => by rw [hhd (by omega)]) (HNum.out _ HM2.out)
          rw [hdl] at hone
          have hm1l : w.heap.size < (wr.iterAt w.heap.size s (pos + 1)).heap.size := (Array.getElem?_eq_some_iff.1 HM1.out).1
          have HL1 := Asd.mk hm1l
          clear hhd hdl hsz hb hm1l
          generalize (s[pos]'hlt).toNat = c at *
          cases hbc : blankN c with
          | true =>
            have hbl1 := hbl c
            rw [hbc] at hbl1
            have hs2 := Asd.mk (hbs.out hbc)
            clear hbs hbd htk hone hbc
            go_wp2_with fail
            go_call (hbl1 _) as e w1 ⟨rfl, rfl⟩
            go_wp2_with fail
            go_roundw
            case rel => exact ⟨pos + 1, nx, ts, rfl, hs2⟩
            case measure => rw [HIPM.out, HIP.out]; omega
          | false =>
            have hbl1 := hbl c
            rw [hbc] at hbl1
            have hon1 := hone hbc
            have HBC := Asd.mk hbc
            clear hbs hbc hone
            generalize hrr : oneC c (s.data.toList.drop pos) = r at *
            have HRR := Asd.mk hrr
            clear hrr
            cases r with
            | none =>
              have hx2 := hbd.out HBC.out (by first | rfl | trivial)
              rw [HX.out] at hx2
              clear hbd htk
              go_wp2_with fail
              go_call (hbl1 _) as e w1 ⟨rfl, rfl⟩
              go_wp2_with fail
              go_call hon1 as e w2 ⟨⟨tk, tsx, tn, ta⟩, n, rfl, hb2, hfit⟩
              obtain rfl : n = 0 := hfit
              simp only [Tk.v, encTk]
              have HF := Asd.mk (show Below w.heap.size w w2 from HM2.out.trans (hb2.mono HM2.out.size))
              have HX2 := Asd.mk hx2
              clear hx2 hb2
              go_wp2_with fail
              go_returns
              exact ⟨HAO.out pos HX2.out _, HF.out.alloc HF.out.size _⟩
            | some x0 =>
              obtain ⟨t0, n0⟩ := x0
              clear hbd
              have htk2 := Asd.mk (htk.out HBC.out t0 n0 (by first | rfl | trivial))
              have htl2 : pos + n0 ≤ s.size := htl.out (by first | rfl | trivial)
              have hn9 : (n0 : Int) ≤ 400 := by omega
              have hp9 : (pos : Int) + (n0 : Int) ≤ 400 := by omega
              clear htk htl htl2
              go_wp2_with fail
              go_call (hbl1 _) as e w1 ⟨rfl, rfl⟩
              go_wp2_with fail
              go_call hon1 as e w2 ⟨⟨tk, tsx, tn, ta⟩, n, rfl, hb2, hfit⟩
              obtain ⟨hf1, hf2, hf3⟩ := hfit
              obtain rfl : n = n0 := hf2
              obtain rfl : (⟨tk, tsx, tn, ta⟩ : Tk) = t0 := hf1
              simp only [Tk.v, encTk]
              have HF := Asd.mk (show Below w.heap.size w w2 from HM2.out.trans (hb2.mono HM2.out.size))
              have HIT := Asd.mk ((hb2.block _ HL1.out).trans HM1.out)
              have HOW := Asd.mk (own_of_block2 HM3.out (fun g _ hg => hb2.block g hg))
              have hn0 : (1 : Int) ≤ (n : Int) := by omega
              have hn0' : ((n : Int) == 0) = false := by simp; omega
              have hfew : ts.length ≤ 1000 := by have h3 := hst.out.few; have h4 := hst.out.nxle; omega
              have hs2 : w.heap.size + 1 ≤ w2.heap.size := by have h3 := (Array.getElem?_eq_some_iff.1 HIT.out).1; omega
              clear hf3 hb2
              go_wp2_with (at_builtin; refine print_append_cells (w.heap.size + 1) rfl (.tmp 40) (.tmp 42) 46 50 (.agg #[.int .i64 0, .string ⟨#[]⟩, .int .i64 0, .int .i64 0]) 4 40 rfl Tryd.underlying46 info_tok rfl (by decide) (by decide) u5 ts.length (ts.flatMap encTk) [.int .i64 tk, .string tsx, .int .i64 tn, .int .i64 pos] rfl (by rw [World.size_alloc]; rfl) rfl tok_ones (World.ownsRow.alloc HOW.out _) (Below.refl _ _) (by simp; omega) (by omega) ?_; intro v1 w3 hown1 hB1 _ _; have HO3 := Asd.mk hown1; have HB3 := Asd.mk hB1; clear hown1 hB1)
              have HL3 := Asd.mk (((Below.refl (w.heap.size + 1) w2).alloc hs2 (Obj.cells #[Value.int .i64 tk, Value.string tsx, Value.int .i64 tn, Value.int .i64 pos] 50)).trans HB3.out)
              have HI3 := Asd.mk ((HL3.out.block w.heap.size (by omega)).trans HIT.out)
              have hip3 : w3.iterPos w.heap.size = pos + 1 := by simp [World.iterPos, HI3.out]
              have HIP3 := Asd.mk hip3
              have HS3 := Asd.mk (htk2.out v1 w3 HI3.out (HF.out.trans (HL3.out.mono (by omega))) (by
                have h3 := HO3.out
                unfold OwnT
                rw [List.length_append, List.flatMap_append]
                exact h3))
              clear hip3 htk2 HF HIT HOW hs2 hfew
              go_roundw
              case rel => exact ⟨pos + 1, pos + n, _, by go_num, HS3⟩
              case measure => rw [HIP3.out, HIP.out]; omega
        · have hd := decode_high s pos hlt (by omega)
          obtain ⟨hd1, hd2⟩ := hd
          have hcn : ∃ r, Utf8.decode s pos = r := ⟨_, rfl⟩
          obtain ⟨⟨c, wd⟩, hcd⟩ := hcn
          rw [hcd] at hnext hwid hd1 hd2
          simp only at hnext hwid hd1 hd2
          obtain ⟨hm1, hm2, hm3⟩ := hst.out.moved (pos + wd)
          have HM2 := Asd.mk hm2
          have hno : oneC (s[pos]'hlt).toNat (s.data.toList.drop pos) = none := by
            cases h : oneC (s[pos]'hlt).toNat (s.data.toList.drop pos) with
            | none => rfl
            | some y =>
              have h3 := oneC_fit (t := y.1) (n := y.2) (s[pos]'hlt) (by rw [List.getElem?_drop, Nat.add_zero]; exact hb) (.inr ⟨by omega, by omega⟩) h
              omega
          have hnb : blankN (s[pos]'hlt).toNat = false := by
            have a1 : ¬ (s[pos]'hlt).toNat = 32 := by omega
            have a2 : ¬ (s[pos]'hlt).toNat = 9 := by omega
            have a3 : ¬ (s[pos]'hlt).toNat = 10 := by omega
            simp [blankN, a1, a2, a3]
          have hcb : blankN c = false := by
            have a1 : ¬ c = 32 := by omega
            have a2 : ¬ c = 9 := by omega
            have a3 : ¬ c = 10 := by omega
            simp [blankN, a1, a2, a3]
          have hx2 := hst.out.bad hle hlt hnb hno
          rw [HX.out] at hx2
          have HX2 := Asd.mk hx2
          have hone := one_calls (s.extract pos s.size) c (wr.iterAt w.heap.size s (pos + wd)) (by omega) (by omega) (fun h => by rw [letterN_hi hd1] at h; cases h) (HNum.out _ HM2.out)
          rw [hdl, oneC_hi hd1 (by omega : 128 ≤ (s[pos]'hlt).toNat), hno] at hone
          have hbl1 := hbl c
          rw [hcb] at hbl1
          clear hhd hdl hsz hb hm1 hm2 hm3 hx2 hcb hnb hno hcd ha hit hbl
          go_wp2_with fail
          go_call (hbl1 _) as e w1 ⟨rfl, rfl⟩
          go_wp2_with fail
          go_call hone as e w2 ⟨⟨tk, tsx, tn, ta⟩, n, rfl, hb2, hfit⟩
          obtain rfl : n = 0 := hfit
          simp only [Tk.v, encTk]
          have HF := Asd.mk (show Below w.heap.size w w2 from HM2.out.trans (hb2.mono HM2.out.size))
          clear hb2
          go_wp2_with fail
          go_returns
          exact ⟨HAO.out pos HX2.out _, HF.out.alloc HF.out.size _⟩
    · have hnext := fun ty => Lib.run_next_end_at (P := Tryd.prog) wr w.heap.size s pos ty hit hlt
      have hdn := hst.out.done hlt
      rw [HX.out] at hdn
      subst hdn
      have hfew : ts.length ≤ 1000 := by
        have h3 := toks_len _ s.data.toList 0 (Nat.le_refl _)
        rw [HX.out, ← Lib.size_eq] at h3
        simp at h3
        omega
      have HOW := Asd.mk hst.out.own
      have HF := Asd.mk hst.out.low
      have hs2 : w.heap.size + 1 ≤ wr.heap.size := by have h3 := (Array.getElem?_eq_some_iff.1 hit).1; omega
      clear hit HAO HNum hbl
      go_wp2_with (at_builtin; refine print_append_cells (w.heap.size + 1) rfl (.tmp 47) (.tmp 51) 46 50 (.agg #[.int .i64 0, .string ⟨#[]⟩, .int .i64 0, .int .i64 0]) 4 40 rfl Tryd.underlying46 info_tok rfl (by decide) (by decide) u5 ts.length (ts.flatMap encTk) [.int .i64 0, .string ⟨#[]⟩, .int .i64 0, .int .i64 s.size] rfl rfl rfl tok_ones HOW.out (Below.refl _ _) hs2 (by omega) ?_; intro v1 w3 hown1 hB1 _ _; have HO3 := Asd.mk hown1; have HB3 := Asd.mk hB1; clear hown1 hB1)
      have hown : OwnT (w.heap.size + 1) w3 v1 (ts ++ [⟨0, ⟨#[]⟩, 0, s.size⟩]) := by
        have h3 := HO3.out
        unfold OwnT
        rw [List.length_append, List.flatMap_append]
        exact h3
      obtain ⟨a, c, rfl, hrow, hac⟩ := hown.row (by simp; omega)
      rw [List.length_append] at hac
      have HR := Asd.mk hrow
      have HAC := Asd.mk hac
      clear hrow hac hown
      rw [List.length_append]
      go_returns
      exact ⟨⟨a, c, rfl, HR.out, HAC.out⟩, HF.out.trans (HB3.out.mono (by omega))⟩
end Go.Proofs.YthhjhlodgfdlgaaDoor
