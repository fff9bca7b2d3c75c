import Derived.Test.YthhjhlodgfdlgaaDoorTokN
set_option linter.unusedVariables false
set_option linter.unusedSimpArgs false
namespace Go.Proofs.YthhjhlodgfdlgaaDoor
open Go Go.RowKit

def TokFit (r : Option (Tk × Nat)) (t : Tk) (n : Nat) : Prop := match r with
  | some x => t = x.1 ∧ n = x.2 ∧ 0 < n
  | none => n = 0
def TokR2 (r : Option (Tk × Nat)) (w : World) (e : Ending) (w' : World) : Prop := ∃ (t : Tk) (n : Nat), e = .returned (.tuple #[t.v, .int .i64 n]) ∧ Below w.heap.size w w' ∧ TokFit r t n
theorem tok_open {r : Option (Tk × Nat)} {w : World} {e : Ending} {w' : World} (h : TokRet r w e w') : TokR2 r w e w' := by
  obtain ⟨hb, h⟩ := h
  cases r with
  | some x => exact ⟨x.1, x.2, h.1, hb, rfl, rfl, h.2⟩
  | none =>
    obtain ⟨t, rfl⟩ := h
    exact ⟨t, 0, rfl, hb, rfl⟩

def nameL (l : List UInt8) : Nat := (l.takeWhile (fun b => nameN b.toNat)).length
/-- The token that a text begins with whose first rune is c. -/
def oneC (c : Nat) (l : List UInt8) : Option (Tk × Nat) :=
  if letterN c = true then some (⟨1, ⟨(l.take (nameL l)).toArray⟩, 0, 0⟩, nameL l)
  else if (digN c || c == 45) = true then numT l
  else if c = 39 then quoT l
  else markT l

set_option maxHeartbeats 1000000 in
set_option maxRecDepth 100000 in
theorem one_calls (s : ByteArray) (c : Nat) (w : World) (h1 : 1 ≤ s.size) (h2 : s.size ≤ 1000000) (hc0 : letterN c = true → (s[0]'h1).toNat = c) (hw : NumOk w) :
    Calls Tryd.prog 46 #[.string s, .int .i32 c] w (TokR2 (oneC c s.data.toList) w) := by
  have eg := enters_of Tryd.func69 (by kernel_rfl) rfl
  have hB1 := (Below.refl w.heap.size w).alloc (Nat.le_refl _) (.cells #[Value.int .i64 0, Value.string ⟨#[]⟩, Value.int .i64 0, Value.int .i64 0] 50)
  have hle := fun W => letter_calls c W
  have hdi := fun W => digit_calls c W
  have hC := oneC.eq_def c s.data.toList
  have k4 : (s.size : Int) ≤ 1000000 := by omega
  have k6 : (1 : Int) ≤ (s.size : Int) := by omega
  by_cases hl : letterN c = true
  · have hwh := while_calls 69 eg nameN one1_calls (fun c h => nameN_hi h) s (w.alloc (.cells #[Value.int .i64 0, Value.string ⟨#[]⟩, Value.int .i64 0, Value.int .i64 0] 50)) (by omega)
    have hwn : whileN nameN s = nameL s.data.toList := rfl
    have hwl := whileN_le nameN s
    have hpos : 0 < whileN nameN s := by
      rw [hwn, nameL]
      have hl0 : s.data.toList = s[0]'h1 :: s.data.toList.drop 1 := by
        have h := List.drop_eq_getElem_cons (l := s.data.toList) (i := 0) h1
        rw [List.drop_zero] at h
        exact h
      rw [hl0, List.takeWhile_cons, if_pos (by simp [nameN, hc0 hl, hl])]
      simp
    rw [if_pos hl, ← hwn] at hC
    rw [hC]
    rw [hl] at hle
    generalize whileN nameN s = k at *
    have hsl : ∀ W, (Instr.slice 9 (.string s) none (some (.int .i64 (k : Int))) none).run Tryd.prog W = .ok (.string (s.extract 0 k)) W := fun W => by
      have h := run_slice_string_h (P := Tryd.prog) (w := W) (t := 9) (s := s) Tryd.underlying9 .i64 (k : Int) (by omega) (by omega)
      have e1 : ((k : Int)).toNat = k := by omega
      rw [h, e1]
    have hxe : (⟨(s.data.toList.take k).toArray⟩ : ByteArray) = s.extract 0 k := by rw [← extr_to]
    rw [hxe]
    have k5 : (k : Int) ≤ (s.size : Int) := by omega
    have hb1' := Asd.mk hB1
    clear hl hC hwn hxe hc0 eg hB1
    go_enter Tryd.func46, Tryd.ntmps46
    go_wp2_with fail
    go_call (hle _) as e w1 ⟨rfl, rfl⟩
    go_wp2_with fail
    go_call hwh as e w2 ⟨rfl, hb2⟩
    have hc2 := fun o => (bcell hb2).1 w.heap.size o (by simp)
    have hf2 := fun o => (bcell hb2).2 w.heap.size o (by simp)
    have hBw : Below w.heap.size w w2 := bnext hb1'.out hb2
    go_wp2_with fail
    refine bodyPost_ret (v := .tuple #[.agg #[.int .i64 1, .string (s.extract 0 k), .int .i64 0, .int .i64 0], .int .i64 (k : Int)]) (by simp [results, Tryd.results46, go_sem, hc2]) rfl ?_
    exact ⟨⟨1, s.extract 0 k, 0, 0⟩, k, rfl, (((hBw.setCell (by simp) _).setCell (by simp) _).setCell (by simp) _).setCell (by simp) _, rfl, rfl, hpos⟩
  · have hl' : letterN c = false := by simpa using hl
    rw [if_neg hl] at hC
    rw [hl'] at hle
    clear hl hl' hc0 eg
    have hb1' := Asd.mk hB1
    by_cases hd : (digN c || c == 45) = true
    · rw [if_pos hd] at hC
      rw [hC]
      have hnum := (number_calls s _ h1 h2 (hw.low hB1)).mono (fun e w' h => tok_open h)
      generalize numT s.data.toList = r at *
      cases hdc : digN c with
      | true =>
        rw [hdc] at hdi
        clear hC hd hdc hB1
        go_enter Tryd.func46, Tryd.ntmps46
        go_wp2_with fail
        go_call (hle _) as e w1 ⟨rfl, rfl⟩
        go_wp2_with fail
        go_call (hdi _) as e w1 ⟨rfl, rfl⟩
        go_wp2_with fail
        go_call hnum as e w2 ⟨⟨tk, ts, tn, ta⟩, n, rfl, hb2, hfit⟩
        have HF := Asd.mk hfit
        clear hfit
        simp only [Tk.v, encTk]
        have hc2 := fun o => (bcell hb2).1 w.heap.size o (by simp)
        have hf2 := fun o => (bcell hb2).2 w.heap.size o (by simp)
        have hBw : Below w.heap.size w w2 := bnext hb1'.out hb2
        go_wp2_with fail
        refine bodyPost_ret (v := .tuple #[.agg #[.int .i64 tk, .string ts, .int .i64 tn, .int .i64 ta], .int .i64 (n : Int)]) (by simp [results, Tryd.results46, go_sem, hc2]) rfl ?_
        exact ⟨⟨tk, ts, tn, ta⟩, n, rfl, (((hBw.setCell (by simp) _).setCell (by simp) _).setCell (by simp) _).setCell (by simp) _, HF.out⟩
      | false =>
        rw [hdc] at hdi hd
        have hcc : ((c : Int) == 45) = true := by simp at hd; subst hd; rfl
        clear hC hd hdc hB1
        go_enter Tryd.func46, Tryd.ntmps46
        go_wp2_with fail
        go_call (hle _) as e w1 ⟨rfl, rfl⟩
        go_wp2_with fail
        go_call (hdi _) as e w1 ⟨rfl, rfl⟩
        go_wp2_with fail
        go_call hnum as e w2 ⟨⟨tk, ts, tn, ta⟩, n, rfl, hb2, hfit⟩
        have HF := Asd.mk hfit
        clear hfit
        simp only [Tk.v, encTk]
        have hc2 := fun o => (bcell hb2).1 w.heap.size o (by simp)
        have hf2 := fun o => (bcell hb2).2 w.heap.size o (by simp)
        have hBw : Below w.heap.size w w2 := bnext hb1'.out hb2
        go_wp2_with fail
        refine bodyPost_ret (v := .tuple #[.agg #[.int .i64 tk, .string ts, .int .i64 tn, .int .i64 ta], .int .i64 (n : Int)]) (by simp [results, Tryd.results46, go_sem, hc2]) rfl ?_
        exact ⟨⟨tk, ts, tn, ta⟩, n, rfl, (((hBw.setCell (by simp) _).setCell (by simp) _).setCell (by simp) _).setCell (by simp) _, HF.out⟩
    · rw [if_neg hd] at hC
      have hd2 : digN c = false ∧ c ≠ 45 := by simpa using hd
      rw [hd2.1] at hdi
      have h45 : ((c : Int) == 45) = false := by simp; omega
      clear hd hd2
      by_cases hq : c = 39
      · rw [if_pos hq] at hC
        have h39 : ((c : Int) == 39) = true := by subst hq; rfl
        rw [hC]
        have hquo := (quoted_calls s (w.alloc (.cells #[Value.int .i64 0, Value.string ⟨#[]⟩, Value.int .i64 0, Value.int .i64 0] 50)) h1 h2).mono (fun e w' h => tok_open h)
        generalize quoT s.data.toList = r at *
        clear hC hq hB1
        go_enter Tryd.func46, Tryd.ntmps46
        go_wp2_with fail
        go_call (hle _) as e w1 ⟨rfl, rfl⟩
        go_wp2_with fail
        go_call (hdi _) as e w1 ⟨rfl, rfl⟩
        go_wp2_with fail
        go_call hquo as e w2 ⟨⟨tk, ts, tn, ta⟩, n, rfl, hb2, hfit⟩
        have HF := Asd.mk hfit
        clear hfit
        simp only [Tk.v, encTk]
        have hc2 := fun o => (bcell hb2).1 w.heap.size o (by simp)
        have hf2 := fun o => (bcell hb2).2 w.heap.size o (by simp)
        have hBw : Below w.heap.size w w2 := bnext hb1'.out hb2
        go_wp2_with fail
        refine bodyPost_ret (v := .tuple #[.agg #[.int .i64 tk, .string ts, .int .i64 tn, .int .i64 ta], .int .i64 (n : Int)]) (by simp [results, Tryd.results46, go_sem, hc2]) rfl ?_
        exact ⟨⟨tk, ts, tn, ta⟩, n, rfl, (((hBw.setCell (by simp) _).setCell (by simp) _).setCell (by simp) _).setCell (by simp) _, HF.out⟩
      · rw [if_neg hq] at hC
        have h39 : ((c : Int) == 39) = false := by simp; omega
        rw [hC]
        have hmk := (mark_calls s (w.alloc (.cells #[Value.int .i64 0, Value.string ⟨#[]⟩, Value.int .i64 0, Value.int .i64 0] 50))).mono (fun e w' h => tok_open h)
        generalize markT s.data.toList = r at *
        clear hC hq hB1
        go_enter Tryd.func46, Tryd.ntmps46
        go_wp2_with fail
        go_call (hle _) as e w1 ⟨rfl, rfl⟩
        go_wp2_with fail
        go_call (hdi _) as e w1 ⟨rfl, rfl⟩
        go_wp2_with fail
        go_call hmk as e w2 ⟨⟨tk, ts, tn, ta⟩, n, rfl, hb2, hfit⟩
        have HF := Asd.mk hfit
        clear hfit
        simp only [Tk.v, encTk]
        have hc2 := fun o => (bcell hb2).1 w.heap.size o (by simp)
        have hf2 := fun o => (bcell hb2).2 w.heap.size o (by simp)
        have hBw : Below w.heap.size w w2 := bnext hb1'.out hb2
        go_wp2_with fail
        refine bodyPost_ret (v := .tuple #[.agg #[.int .i64 tk, .string ts, .int .i64 tn, .int .i64 ta], .int .i64 (n : Int)]) (by simp [results, Tryd.results46, go_sem, hc2]) rfl ?_
        exact ⟨⟨tk, ts, tn, ta⟩, n, rfl, (((hBw.setCell (by simp) _).setCell (by simp) _).setCell (by simp) _).setCell (by simp) _, HF.out⟩
end Go.Proofs.YthhjhlodgfdlgaaDoor
