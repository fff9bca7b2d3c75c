import Derived.Test.YthhjhlodgfdlgaaDoorTokA
import Derived.Test.YthhjhlodgfdlgaaDoorShelf
set_option linter.unusedVariables false
set_option linter.unusedSimpArgs false
namespace Go.Proofs.YthhjhlodgfdlgaaDoor
open Go Go.RowKit

/-- A token: its kind, its text, its number, where it begins. -/
structure Tk where
  kind : Int
  s : ByteArray
  n : Int
  at_ : Int
def encTk (t : Tk) : List Value := [.int .i64 t.kind, .string t.s, .int .i64 t.n, .int .i64 t.at_]
instance : Enc Tk := ⟨4, encTk, fun _ => rfl⟩
def Tk.v (t : Tk) : Value := .agg (encTk t).toArray
def zeroTk : Tk := ⟨0, ByteArray.empty, 0, 0⟩
/-- What a reader of one token answers: it, and how many bytes it has; 0: none. -/
def TokRet (r : Option (Tk × Nat)) (w : World) (e : Ending) (w' : World) : Prop :=
  Below w.heap.size w w' ∧ match r with
    | some (t, n) => e = .returned (.tuple #[t.v, .int .i64 n]) ∧ 0 < n
    | none => ∃ t : Tk, e = .returned (.tuple #[t.v, .int .i64 0])

/-- The marks. -/
def marks : List (List UInt8) := [[60, 62], [60, 61], [62, 61], [44], [40], [41], [42], [61], [60], [62]]
def markT (l : List UInt8) : Option (Tk × Nat) := (marks.find? (fun m => Lib.hasPrefix l m)).map (fun m => (⟨4, ⟨m.toArray⟩, 0, 0⟩, m.length))
def markCells : Array Value := (marks.map fun l => Value.string ⟨l.toArray⟩).toArray
theorem markCells_at (j : Nat) (h : j < 10) : markCells[j]? = some (Value.string ⟨(marks[j]'h).toArray⟩) := by
  simp only [markCells, List.getElem?_toArray, List.getElem?_map]
  rw [List.getElem?_eq_getElem (show j < marks.length from h)]
  rfl
theorem marks_len (j : Nat) (h : j < 10) : (marks[j]'h).length ≤ 2 ∧ 0 < (marks[j]'h).length := by
  have : ∀ m ∈ marks, m.length ≤ 2 ∧ 0 < m.length := by decide
  exact this _ (List.getElem_mem h)
theorem markT_hit {l : List UInt8} (j : Nat) (h : j < 10) (hb : ∀ k, (hk : k < 10) → k < j → Lib.hasPrefix l (marks[k]'hk) = false) (hj : Lib.hasPrefix l (marks[j]'h) = true) : markT l = some (⟨4, ⟨(marks[j]'h).toArray⟩, 0, 0⟩, (marks[j]'h).length) := by
  have : marks.find? (fun m => Lib.hasPrefix l m) = some (marks[j]'h) := by
    rw [List.find?_eq_some_iff_getElem]
    exact ⟨hj, j, h, rfl, fun k hk => (congrArg (fun b => !b) (hb k (by omega) hk)).trans rfl⟩
  rw [markT, this]; rfl
theorem markT_miss {l : List UInt8} (hb : ∀ k, (hk : k < 10) → Lib.hasPrefix l (marks[k]'hk) = false) : markT l = none := by
  have : marks.find? (fun m => Lib.hasPrefix l m) = none := by
    rw [List.find?_eq_none]
    intro x hx
    obtain ⟨k, hk, rfl⟩ := List.getElem_of_mem hx
    simpa using hb k hk
  rw [markT, this]; rfl

set_option maxHeartbeats 1000000 in
set_option maxRecDepth 100000 in
theorem mark_calls (s : ByteArray) (w : World) : Calls Tryd.prog 73 #[.string s] w (TokRet (markT s.data.toList) w) := by
  have hpf := fun (m : ByteArray) W => Tryd.strings_HasPrefix s m W
  have HH := Asd.mk (@markT_hit s.data.toList)
  have HM := Asd.mk (@markT_miss s.data.toList)
  have hml := Asd.mk marks_len
  generalize markT s.data.toList = r at *
  go_enter Tryd.func73, Tryd.ntmps73
  go_wp2_with fail
  go_loopw [8] (fun v wq => ∃ m : Nat, v = .int .i64 m ∧ m ≤ 10 ∧ wq = (w.alloc (.cells #[Value.int .i64 0, Value.string ⟨#[]⟩, Value.int .i64 0, Value.int .i64 0] 50)).alloc (.cells markCells 9) ∧ Asd (∀ k, (hk : k < 10) → k < m → Lib.hasPrefix s.data.toList (marks[k]'hk) = false)) (fun v _ => 10 - (intOf v).toNat)
  case atStart => exact ⟨0, rfl, Nat.zero_le _, rfl, ⟨fun j hj h => absurd h (by omega)⟩⟩
  case round =>
    obtain ⟨m, rfl, hm, rfl, hpre⟩ := hrel
    by_cases h10 : m < 10
    · have hcw := markCells_at m h10
      have hx : ∃ x : ByteArray, x = ⟨(marks[m]'h10).toArray⟩ := ⟨_, rfl⟩
      obtain ⟨x, hx⟩ := hx
      rw [← hx] at hcw
      have hxl : x.data.toList = marks[m]'h10 := by rw [hx]
      have hxs : x.size = (marks[m]'h10).length := by rw [hx]; rfl
      have hit := HH.out m h10 (fun k hk hkm => hpre.out k hk hkm)
      have hstep : Asd (Lib.hasPrefix s.data.toList (marks[m]'h10) = false → ∀ k, (hk : k < 10) → k < m + 1 → Lib.hasPrefix s.data.toList (marks[k]'hk) = false) := ⟨fun h k hk hkm => by
        by_cases e : k = m
        · subst e; exact h
        · exact hpre.out k hk (by omega)⟩
      have hlen := hml.out m h10
      rw [← hx, ← hxs] at hit
      rw [← hxs] at hlen
      rw [← hxl] at hit hstep
      have hcell : ((w.alloc (.cells #[Value.int .i64 0, Value.string ⟨#[]⟩, Value.int .i64 0, Value.int .i64 0] 50)).alloc (.cells markCells 9)).cell? ⟨w.heap.size + 1, m, none⟩ = some (.string x) := by
        simp only [World.cell?, alloc_last2]
        simpa using hcw
      have hcall := hpf x ((w.alloc (.cells #[Value.int .i64 0, Value.string ⟨#[]⟩, Value.int .i64 0, Value.int .i64 0] 50)).alloc (.cells markCells 9))
      clear hx hxl hcw hpre HH HM hxs
      generalize Lib.hasPrefix s.data.toList x.data.toList = b at *
      have HIT := Asd.mk hit
      clear hit
      cases b with
      | true =>
        have hr := HIT.out (by first | rfl | trivial)
        subst hr
        clear HIT hstep
        go_wp2_with fail
        go_call hcall as e w1 ⟨rfl, rfl⟩
        go_wp2_with fail
        refine bodyPost_ret (v := .tuple #[.agg #[.int .i64 4, .string x, .int .i64 0, .int .i64 0], .int .i64 x.size]) (by simp [results, Tryd.results73, go_sem]) rfl ?_
        exact ⟨by go_grown, rfl, by omega⟩
      | false =>
        have hnx := Asd.mk (hstep.out (by first | rfl | trivial))
        clear HIT hstep
        go_wp2_with fail
        go_call hcall as e w1 ⟨rfl, rfl⟩
        go_wp2_with fail
        go_roundw
        case rel => exact ⟨m + 1, by go_num, by omega, by first | rfl | trivial, hnx⟩
        case measure => simp [intOf]; omega
    · have hr := HM.out (fun k hk => hpre.out k hk (by omega))
      subst hr
      clear HH HM hpre
      go_wp2_with fail
      refine bodyPost_ret (v := .tuple #[.agg #[.int .i64 0, .string ⟨#[]⟩, .int .i64 0, .int .i64 0], .int .i64 0]) (by simp [results, Tryd.results73, go_sem]) rfl ?_
      exact ⟨by go_grown, zeroTk, rfl⟩
end Go.Proofs.YthhjhlodgfdlgaaDoor
