import Derived.Test.YthhjhlodgfdlgaaDoorName
import Derived.Lib.OthersKept
set_option linter.unusedVariables false
set_option linter.unusedSimpArgs false
namespace Go.Proofs.YthhjhlodgfdlgaaDoor
open Go Go.RowKit

def blankN (c : Nat) : Bool := c == 32 || c == 9 || c == 10
def digN (c : Nat) : Bool := decide (48 ≤ c) && decide (c ≤ 57)
def nameN (c : Nat) : Bool := letterN c || digN c || c == 95
theorem digN_hi {c : Nat} (h : 128 ≤ c) : digN c = false := by simp [digN]; omega
theorem letterN_hi {c : Nat} (h : 128 ≤ c) : letterN c = false := by simp [letterN]; omega
theorem nameN_hi {c : Nat} (h : 128 ≤ c) : nameN c = false := by
  have h1 : ¬ c = 95 := by omega
  simp [nameN, letterN_hi h, digN_hi h, h1]

theorem blank_calls (c : Nat) (w : World) : Calls Tryd.prog 45 #[.int .i32 c] w fun e w' => e = .returned (.bool (blankN c)) ∧ w = w' := by
  have hr : blankN c = (((c : Int) == 32) || ((c : Int) == 9) || ((c : Int) == 10)) := by
    rw [Bool.eq_iff_iff]; simp [blankN]; omega
  rw [hr]
  clear hr
  go_enter Tryd.func45, Tryd.ntmps45
  go_wp2_with fail
  all_goals go_ret
  all_goals exact ⟨by simp_all, rfl⟩
theorem letter_calls (c : Nat) (w : World) : Calls Tryd.prog 67 #[.int .i32 c] w fun e w' => e = .returned (.bool (letterN c)) ∧ w = w' := by
  have hr : letterN c = (decide ((97 : Int) ≤ (c : Int)) && decide ((c : Int) ≤ 122)) := by
    rw [Bool.eq_iff_iff]; simp [letterN]; omega
  rw [hr]
  clear hr
  go_enter Tryd.func67, Tryd.ntmps67
  go_wp2_with fail
  all_goals go_ret
  all_goals exact ⟨by simp_all; try (intros; omega), rfl⟩
theorem digit_calls (c : Nat) (w : World) : Calls Tryd.prog 70 #[.int .i32 c] w fun e w' => e = .returned (.bool (digN c)) ∧ w = w' := by
  have hr : digN c = (decide ((48 : Int) ≤ (c : Int)) && decide ((c : Int) ≤ 57)) := by
    rw [Bool.eq_iff_iff]; simp [digN]; omega
  rw [hr]
  clear hr
  go_enter Tryd.func70, Tryd.ntmps70
  go_wp2_with fail
  all_goals go_ret
  all_goals exact ⟨by simp_all; try (intros; omega), rfl⟩
theorem one1_calls (c : Nat) (w : World) : Calls Tryd.prog 69 #[.int .i32 c] w fun e w' => e = .returned (.bool (nameN c)) ∧ w = w' := by
  have h1 := fun W => letter_calls c W
  have h2 := fun W => digit_calls c W
  have hr : nameN c = (letterN c || digN c || ((c : Int) == 95)) := by
    have h95 : (c == 95) = ((c : Int) == 95) := by rw [Bool.eq_iff_iff]; simp; omega
    rw [nameN, h95]
  rw [hr]
  clear hr
  generalize letterN c = a at *
  generalize digN c = b at *
  cases a with
  | true =>
    go_enter Tryd.func69, Tryd.ntmps69
    go_wp2_with fail
    go_call (h1 _) as e w1 ⟨rfl, rfl⟩
    go_wp2_with fail
    all_goals go_ret
    all_goals exact ⟨by simp_all, rfl⟩
  | false =>
    cases b
    all_goals go_enter Tryd.func69, Tryd.ntmps69
    all_goals go_wp2_with fail
    all_goals go_call (h1 _) as e w1 ⟨rfl, rfl⟩
    all_goals go_wp2_with fail
    all_goals go_call (h2 _) as e w1 ⟨rfl, rfl⟩
    all_goals go_wp2_with fail
    all_goals go_ret
    all_goals exact ⟨by simp_all, rfl⟩

/-- How many bytes a text begins with that are such. -/
def whileN (f : Nat → Bool) (s : ByteArray) : Nat := (s.data.toList.takeWhile (fun b => f b.toNat)).length
theorem takeWhile_len {α : Type} (p : α → Bool) : ∀ (l : List α) (k : Nat), k ≤ l.length → (∀ j, (hj : j < l.length) → j < k → p l[j] = true) → (∀ h : k < l.length, p l[k] = false) → (l.takeWhile p).length = k := by
  intro l
  induction l with
  | nil => intro k hk _ _; simp at hk; subst hk; rfl
  | cons a r ih =>
    intro k hk h1 h2
    cases k with
    | zero =>
      have := h2 (by simp)
      simp at this
      simp [List.takeWhile_cons, this]
    | succ k =>
      have h0 := h1 0 (by simp) (by omega)
      simp at h0
      rw [List.takeWhile_cons, if_pos h0, List.length_cons, ih k (by simpa using hk) (fun j hj hjk => by have h := h1 (j + 1) (by simp; omega) (by omega); simpa only [List.getElem_cons_succ] using h) (fun h => by have h := h2 (by simp; omega); simpa only [List.getElem_cons_succ] using h)]
theorem whileN_stop {f : Nat → Bool} {s : ByteArray} (k : Nat) (hk : k ≤ s.size) (h1 : ∀ j, (hj : j < s.size) → j < k → f (s[j]'hj).toNat = true) (h2 : ∀ h : k < s.size, f (s[k]'h).toNat = false) : whileN f s = k :=
  takeWhile_len _ _ k hk (fun j hj hjk => h1 j hj hjk) (fun h => h2 h)
theorem whileN_le (f : Nat → Bool) (s : ByteArray) : whileN f s ≤ s.size := by
  have := (List.takeWhile_prefix (fun b : UInt8 => f b.toNat) (l := s.data.toList)).length_le
  simpa [whileN] using this

set_option maxHeartbeats 1000000 in
set_option maxRecDepth 100000 in
theorem while_calls (g : Nat) (eg : ∀ args w, (callFunc g args).run Tryd.prog w = .ok (.enter g args) w) (f : Nat → Bool) (hf : ∀ c w, Calls Tryd.prog g #[.int .i32 (c : Nat)] w fun e w' => e = .returned (.bool (f c)) ∧ w = w') (hhi : ∀ c, 128 ≤ c → f c = false)
    (s : ByteArray) (w : World) (hs : s.size ≤ 9223372036854775807) : Calls Tryd.prog 68 #[.string s, .func (.func g) #[] #[]] w (Ret (.int .i64 (whileN f s)) w) := by
  have HF := Asd.mk hf
  have HH := Asd.mk hhi
  have HS := Asd.mk (@whileN_stop f s)
  generalize whileN f s = r at *
  clear hf hhi
  go_enter Tryd.func68, Tryd.ntmps68
  go_wp2_with fail
  go_loopw [4] (fun v wr => ∃ pos : Nat, v = .int .i64 0 ∧ wr = w.iter s pos ∧ pos ≤ s.size ∧ Asd (∀ j, (hj : j < s.size) → j < pos → f (s[j]'hj).toNat = true)) (fun _ wr => s.size - wr.iterPos w.heap.size)
  case atStart => exact ⟨0, rfl, rfl, Nat.zero_le _, ⟨fun j hj h => absurd h (by omega)⟩⟩
  case round =>
    obtain ⟨pos, rfl, rfl, hps, hpre⟩ := hrel
    by_cases hlt : pos < s.size
    · have hnext := fun ty => run_next_any (P := Tryd.prog) w s pos ty hlt
      have hst := HS.out pos hps hpre.out
      by_cases hb : (s[pos]'hlt).toNat < 128
      · have hd := decode_ascii s pos hlt hb
        rw [hd] at hnext
        clear hd
        have hstop : Asd (f (s[pos]'hlt).toNat = false → r = pos) := ⟨fun h => hst (fun _ => h)⟩
        have hgo : Asd (f (s[pos]'hlt).toNat = true → ∀ j, (hj : j < s.size) → j < pos + 1 → f (s[j]'hj).toNat = true) := ⟨fun h j hj hjk => by
          by_cases e : j = pos
          · subst e; exact h
          · exact hpre.out j hj (by omega)⟩
        clear hst hpre
        generalize (s[pos]'hlt).toNat = c at *
        have hc := HF.out c
        generalize hfc : f c = b at *
        have HFC := Asd.mk hfc
        clear hfc
        cases b with
        | true =>
          have hnx := Asd.mk (hgo.out rfl)
          clear hgo hstop
          go_wp2_with fail
          go_call (hc _) as e w1 ⟨rfl, rfl⟩
          go_wp2_with fail
          go_roundw
          case rel => exact ⟨pos + 1, rfl, by first | rfl | trivial, by omega, hnx⟩
          case measure => simp; omega
        | false =>
          obtain rfl : r = pos := hstop.out rfl
          clear hgo hstop
          go_wp2_with fail
          go_call (hc _) as e w1 ⟨rfl, rfl⟩
          go_wp2_with fail
          go_ret
          exact ⟨rfl, below_iter _ _ _⟩
      · have hd := (decode_high s pos hlt (by omega)).1
        obtain rfl : r = pos := hst (fun _ => HH.out _ (by omega))
        clear hst hpre hb
        generalize (Utf8.decode s r).1 = c at *
        generalize (Utf8.decode s r).2 = wd at *
        have hc := HF.out c
        rw [HH.out c hd] at hc
        go_wp2_with fail
        go_call (hc _) as e w1 ⟨rfl, rfl⟩
        go_wp2_with fail
        go_ret
        exact ⟨rfl, below_iter _ _ _⟩
    · have hnext := fun ty => run_next_end (P := Tryd.prog) w s pos ty hlt
      obtain rfl : pos = s.size := by omega
      obtain rfl : r = s.size := HS.out _ hps hpre.out (fun h => absurd h hlt)
      clear hpre
      go_wp2_with fail
      go_ret
      exact ⟨rfl, below_iter _ _ _⟩
end Go.Proofs.YthhjhlodgfdlgaaDoor
