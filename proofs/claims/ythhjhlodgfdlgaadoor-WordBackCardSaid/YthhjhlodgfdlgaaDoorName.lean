import Derived.Test.YthhjhlodgfdlgaaDoorProg
import Derived.Test.YthhjhlodgfdlgaaDoorBase
import Derived.Lib.Strings
set_option linter.unusedVariables false
set_option linter.unusedSimpArgs false
namespace Go.Proofs.YthhjhlodgfdlgaaDoor
open Go Go.RowKit

/-- It returns v, and nothing that was there has turned. -/
def Ret (v : Value) (w : World) (e : Ending) (w' : World) : Prop := e = .returned v ∧ Below w.heap.size w w'

/-- The words of queries. -/
def words : List (List UInt8) := [[97, 110, 100], [111, 114], [110, 111, 116], [105, 115], [110, 117, 108, 108], [108, 105, 107, 101], [116, 114, 117, 101], [102, 97, 108, 115, 101],
  [115, 101, 108, 101, 99, 116], [102, 114, 111, 109], [119, 104, 101, 114, 101], [103, 114, 111, 117, 112], [98, 121], [97, 108, 108], [99, 111, 117, 110, 116], [104, 97, 115], [115, 117, 109], [109, 105, 110], [109, 97, 120]]
def wordB (s : ByteArray) : Bool := words.any (fun x => s.toList == x)

set_option maxHeartbeats 2000000 in
theorem word_calls (s : ByteArray) (w : World) : Calls Tryd.prog 78 #[.string s] w fun e w' => e = .returned (.bool (wordB s)) ∧ w = w' := by
  have hw : wordB s = words.any (fun x => s.toList == x) := rfl
  simp only [words, List.any_cons, List.any_nil, Bool.or_false] at hw
  generalize wordB s = r at *
  have hr := Asd.mk hw
  clear hw
  go_enter Tryd.func78, Tryd.ntmps78
  go_wp2_with fail
  all_goals go_ret
  all_goals
    refine ⟨?_, rfl⟩
    have h := hr.out
    simp_all

def letterN (c : Nat) : Bool := decide (97 ≤ c) && decide (c ≤ 122)
def moreN (c : Nat) : Bool := decide (48 ≤ c) && decide (c ≤ 57) || c == 95
def okAt (s : ByteArray) (j : Nat) : Bool := if h : j < s.size then letterN (s[j]'h).toNat || (j != 0 && moreN (s[j]'h).toNat) else true
def nameScan (s : ByteArray) : Bool := (List.range s.size).all (okAt s)
def nameB (s : ByteArray) : Bool := decide (s.size ≠ 0) && decide (s.size ≤ 12) && !wordB s && nameScan s

theorem nameScan_true {s : ByteArray} (h : ∀ j, j < s.size → okAt s j = true) : nameScan s = true := by
  simp only [nameScan, List.all_eq_true, List.mem_range]; exact h
theorem nameScan_false {s : ByteArray} {j : Nat} (hj : j < s.size) (h : okAt s j = false) : nameScan s = false := by
  simp only [nameScan]
  rw [List.all_eq_false]
  exact ⟨j, by simpa using hj, by simp [h]⟩

theorem below_iter (w : World) (s : ByteArray) (p : Nat) : Below w.heap.size w (w.iter s p) := (Below.refl _ _).alloc (Nat.le_refl _) _
theorem width_pos (s : ByteArray) (pos : Nat) (h : pos < s.size) : 1 ≤ (Utf8.decode s pos).2 := by
  by_cases ha : (s[pos]'h).toNat < 128
  · rw [decode_ascii s pos h ha]
    exact Nat.le_refl _
  · exact (decode_high s pos h (by omega)).2

set_option maxHeartbeats 2000000 in
theorem name_calls (s : ByteArray) (w : World) (hs : s.size ≤ 9223372036854775807) : Calls Tryd.prog 57 #[.string s] w (Ret (.bool (nameB s)) w) := by
  by_cases h0 : s.toList = []
  · have hr : nameB s = false := by
      have : s.size = 0 := by
        have h := h0
        rw [Go.Lib.toList_data] at h
        show s.data.size = 0
        rw [← Array.length_toList, h]; rfl
      simp [nameB, this]
    rw [hr]
    clear hr
    go_enter Tryd.func57, Tryd.ntmps57
    go_wp2_with fail
    go_ret
    exact ⟨rfl, Below.refl _ _⟩
  have hne : s.size ≠ 0 := by
    intro h
    apply h0
    rw [Go.Lib.toList_data]
    apply List.eq_nil_of_length_eq_zero
    rw [Array.length_toList]; exact h
  by_cases h12 : s.size ≤ 12
  rotate_left
  · have hr : nameB s = false := by simp [nameB, h12]
    rw [hr]
    clear hr
    go_enter Tryd.func57, Tryd.ntmps57
    go_wp2_with fail
    go_ret
    exact ⟨rfl, Below.refl _ _⟩
  have h0' : s.toList.isEmpty = false := by simpa using h0
  have h12' : decide ((12 : Int) < (s.size : Int)) = false := by simp; omega
  have hr : nameB s = (!wordB s && nameScan s) := by simp [nameB, hne, h12]
  rw [hr]
  have hw := word_calls s w
  generalize wordB s = b at *
  clear hr
  cases b
  rotate_left
  · simp only [Bool.not_true, Bool.false_and]
    go_enter Tryd.func57, Tryd.ntmps57
    go_wp2_with fail
    go_call hw as e w' ⟨rfl, rfl⟩
    go_wp2_with fail
    go_ret
    exact ⟨rfl, Below.refl _ _⟩
  simp only [Bool.not_false, Bool.true_and]
  have hT := Asd.mk (@nameScan_true s)
  have hF := Asd.mk (@nameScan_false s)
  have hK : ∀ j, (h : j < s.size) → okAt s j = (letterN (s[j]'h).toNat || (j != 0 && moreN (s[j]'h).toNat)) := fun j h => by simp [okAt, h]
  have HK := Asd.mk hK
  clear hK
  generalize nameScan s = r at *
  go_enter Tryd.func57, Tryd.ntmps57
  go_wp2_with fail
  go_call hw as e w' ⟨rfl, rfl⟩
  go_wp2_with fail
  go_loopw [2] (fun v wr => ∃ pos : Nat, v = .bool false ∧ wr = w.iter s pos ∧ Asd (∀ j, j < pos → j < s.size → okAt s j = true)) (fun _ wr => s.size - wr.iterPos w.heap.size)
  case atStart => exact ⟨0, rfl, rfl, ⟨fun j hj => absurd hj (by omega)⟩⟩
  case round =>
    obtain ⟨pos, rfl, rfl, hpre⟩ := hrel
    by_cases hlt : pos < s.size
    · have hnext := fun ty => run_next_any (P := Tryd.prog) w s pos ty hlt
      have hwid := width_pos s pos hlt
      have hk := HK.out pos hlt
      by_cases hb : (s[pos]'hlt).toNat < 128
      · have hd := decode_ascii s pos hlt hb
        rw [hd] at hnext hwid
        clear hd
        generalize (s[pos]'hlt).toNat = c at *
        go_wp2_with fail
        all_goals first
          | (obtain rfl : r = false := hF.out hlt (by rw [hk]; simp_all [letterN, moreN]; try omega)
             go_ret
             exact ⟨rfl, below_iter _ _ _⟩)
          | (go_roundw
             case rel => exact ⟨pos + 1, rfl, by first | rfl | simp_all, ⟨fun j hj hjs => by
               by_cases e : j = pos
               · subst e; rw [hk]; simp_all [letterN, moreN]; try omega
               · exact hpre.out j (by omega) hjs⟩⟩
             case measure => simp; omega)
      · have hd := (decode_high s pos hlt (by omega)).1
        have hle := decode_le s pos
        have hbad : okAt s pos = false := by
          rw [hk]; simp [letterN, moreN]; omega
        obtain rfl : r = false := hF.out hlt hbad
        clear hk hbad hb
        generalize (Utf8.decode s pos).1 = c at *
        generalize (Utf8.decode s pos).2 = wd at *
        go_wp2_with fail
        all_goals first
          | (go_ret
             exact ⟨rfl, below_iter _ _ _⟩)
          | (exfalso; omega)
          | (exfalso; have q1 : ¬ ((c : Int) ≤ 122) := by omega; have q2 : ¬ ((c : Int) ≤ 57) := by omega; have q3 : ¬ ((c : Int) = 95) := by omega; simp_all; done)
          | (exfalso; simp_all; omega)
    · have hnext := fun ty => run_next_end (P := Tryd.prog) w s pos ty hlt
      obtain rfl : r = true := hT.out (fun j hj => hpre.out j (by omega) hj)
      go_wp2_with fail
      go_ret
      exact ⟨rfl, below_iter _ _ _⟩
end Go.Proofs.YthhjhlodgfdlgaaDoor
