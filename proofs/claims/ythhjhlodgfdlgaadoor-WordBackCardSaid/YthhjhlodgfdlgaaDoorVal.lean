import Derived.Test.YthhjhlodgfdlgaaDoorShelf
import Derived.Test.YthhjhlodgfdlgaaDoorName
import Derived.Test.YthhjhlodgfdlgaaDoorEsc
set_option linter.unusedVariables false
set_option linter.unusedSimpArgs false
namespace Go.Proofs.YthhjhlodgfdlgaaDoor
open Go Go.RowKit

/-- What the standard library's packages have laid: the powers of ten, and how long a text may be that is sought at once. -/
structure StdOk (w : World) : Prop where
  tab : Lib.TabIs Tryd.prog w "internal/strconv.uint64pow10" .u64 Lib.pow10Tab
  one : ∃ m, w.cell? ⟨1, 0, none⟩ = some (.int .i64 m)
theorem pow10_named : ∃ g, Tryd.prog.globalNamed "internal/strconv.uint64pow10" = some g := Option.isSome_iff_exists.1 (by kernel_rfl)
theorem StdOk.low {w w' : World} (h : StdOk w) (hb : Below w.heap.size w w') : StdOk w' := by
  obtain ⟨g, hg⟩ := pow10_named
  obtain ⟨m, hm⟩ := h.one
  refine ⟨?_, m, (hb.cell (World.block_lt_of_cell? w _ hm)).trans hm⟩
  have h := h.tab
  unfold Lib.TabIs World.var? at h ⊢
  rw [hg] at h ⊢
  simp only [Option.bind_some] at h ⊢
  rw [hb.block g (Nat.lt_of_not_le fun h' => by rw [Array.getElem?_eq_none h'] at h; cases h)]
  exact h

theorem below_grow (w : World) (k os) : Below w.heap.size w (Go.Sort.grow (w.drewN k) os) := by
  refine ⟨rfl, rfl, rfl, by simp [Go.Sort.grow, World.drewN], fun i hi => ?_⟩
  simp [Go.Sort.grow, World.drewN, Array.getElem?_append, hi]

set_option maxHeartbeats 1000000 in
set_option maxRecDepth 100000 in
theorem digits_calls (n : Int) (w : World) (hn : i64 n) (hs : StdOk w) : Calls Tryd.prog 23 #[.int .i64 n] w (Ret (.string (digB n)) w) := by
  have hf := Tryd.strconv_FormatInt_10 n hn.1 hn.2 w hs.tab
  have hd : (⟨(Lib.itoa n).toArray⟩ : ByteArray) = digB n := rfl
  rw [hd] at hf
  have hf2 := hf.mono (R' := Ret (.string (digB n)) w) (fun e w' ⟨he, k, os, hw⟩ => ⟨he, by rw [hw]; exact below_grow w k os⟩)
  clear hf hd
  generalize digB n = b at *
  go_enter Tryd.func23, Tryd.ntmps23
  go_wp2_with fail
  go_call hf2 as e w1 ⟨rfl, hb1⟩
  go_wp2_with fail
  go_ret
  exact ⟨rfl, hb1⟩

theorem quoteB_eq (s b : ByteArray) (h : b = ⟨(esc s.data.toList).toArray⟩) : ((⟨#[39]⟩ : ByteArray) ++ b) ++ ⟨#[39]⟩ = quoteB s := by
  subst h
  simp [quoteB, quoteL, ByteArray.ext_iff, ByteArray.data_append]

set_option maxHeartbeats 1000000 in
set_option maxRecDepth 100000 in
theorem quote_calls (s : ByteArray) (w : World) (hz : s.size ≤ 2000000) (hs : StdOk w) : Calls Tryd.prog 22 #[.string s] w (Ret (.string (quoteB s)) w) := by
  obtain ⟨m, hm⟩ := hs.one
  have hcnt := Lib.countB_le ⟨#[39]⟩ (by decide) s.size s (Nat.le_refl _)
  have hf := Tryd.strings_ReplaceAll s ⟨#[39]⟩ ⟨#[39, 39]⟩ m w (by omega) hm (by decide) (by
    have : (⟨#[39, 39]⟩ : ByteArray).size = 2 := rfl
    rw [this]; omega)
  have hq := Asd.mk (quoteB_eq s)
  have hlen := esc_len s.data.toList
  have hle2 : s.data.toList.length = s.size := rfl
  have hbz : (⟨(esc s.data.toList).toArray⟩ : ByteArray).size ≤ 4000000 := by
    have e : (⟨(esc s.data.toList).toArray⟩ : ByteArray).size = (esc s.data.toList).length := rfl
    omega
  have hf2 := hf.mono (R' := Ret (.string ⟨(esc s.data.toList).toArray⟩) w) (fun e w' ⟨he, hw⟩ => ⟨by rw [he, ← replaceAll_esc], hw⟩)
  clear hf hs hm hcnt hlen
  have hbe := Asd.mk (Eq.refl (⟨(esc s.data.toList).toArray⟩ : ByteArray))
  have hq2 := hq.out _ hbe.out
  clear hq hbe
  generalize (⟨(esc s.data.toList).toArray⟩ : ByteArray) = b at *
  generalize quoteB s = r at *
  have hq := Asd.mk hq2
  clear hq2
  go_enter Tryd.func22, Tryd.ntmps22
  go_wp2_with fail
  go_call hf2 as e w1 ⟨rfl, hb1⟩
  go_wp2_with fail
  all_goals try (exfalso; omega)
  go_ret
  exact ⟨by rw [← hq.out]; rfl, hb1⟩

def strB (l : List UInt8) : ByteArray := ⟨l.toArray⟩
def valueB (ty : Int) (c : Ce) : ByteArray :=
  if c.nl then ⟨#[110, 117, 108, 108]⟩ else if ty = 1 then digB c.i else if ty = 3 then quoteB c.s else if ty = 2 then (if c.i = 0 then ⟨#[102, 97, 108, 115, 101]⟩ else ⟨#[116, 114, 117, 101]⟩) else ⟨#[]⟩

set_option maxHeartbeats 2000000 in
set_option maxRecDepth 100000 in
theorem value_calls (ty : Int) (c : Ce) (w : World) (hi : i64 c.i) (hz : c.s.size ≤ 2000000) (hs : StdOk w) : Calls Tryd.prog 10 #[.int .i64 ty, c.v] w (Ret (.string (valueB ty c)) w) := by
  have hB1 := (Below.refl w.heap.size w).alloc (Nat.le_refl _) (Obj.cells (encCe c).toArray 23)
  have hd := digits_calls c.i _ hi (hs.low hB1)
  have hq := quote_calls c.s _ hz (hs.low hB1)
  obtain ⟨nl, i, s⟩ := c
  simp only [Ce.v, encCe] at *
  have hr : valueB ty ⟨nl, i, s⟩ = (if nl then ⟨#[110, 117, 108, 108]⟩ else if ty = 1 then digB i else if ty = 3 then quoteB s else if ty = 2 then (if i = 0 then ⟨#[102, 97, 108, 115, 101]⟩ else ⟨#[116, 114, 117, 101]⟩) else ⟨#[]⟩) := rfl
  rw [hr]
  clear hr hs
  generalize digB i = db at *
  generalize quoteB s = qb at *
  cases nl with
  | true =>
    simp only [if_true]
    go_enter Tryd.func10, Tryd.ntmps10
    go_wp2_with fail
    go_ret
    exact ⟨rfl, by go_grown⟩
  | false =>
    simp only [Bool.false_eq_true, if_false]
    by_cases e1 : ty = 1
    · subst e1
      simp only [if_true]
      go_enter Tryd.func10, Tryd.ntmps10
      go_wp2_with fail
      go_call hd as e w1 ⟨rfl, hb1⟩
      go_wp2_with fail
      go_ret
      exact ⟨rfl, bnext hB1 hb1⟩
    rw [if_neg e1]
    by_cases e3 : ty = 3
    · subst e3
      simp only [if_true]
      go_enter Tryd.func10, Tryd.ntmps10
      go_wp2_with fail
      go_call hq as e w1 ⟨rfl, hb1⟩
      go_wp2_with fail
      go_ret
      exact ⟨rfl, bnext hB1 hb1⟩
    rw [if_neg e3]
    by_cases e2 : ty = 2
    · subst e2
      simp only [if_true]
      by_cases hz0 : i = 0
      · subst hz0
        simp only [if_true]
        go_enter Tryd.func10, Tryd.ntmps10
        go_wp2_with fail
        go_ret
        exact ⟨rfl, by go_grown⟩
      · rw [if_neg hz0]
        go_enter Tryd.func10, Tryd.ntmps10
        go_wp2_with fail
        go_ret
        exact ⟨rfl, by go_grown⟩
    · rw [if_neg e2]
      go_enter Tryd.func10, Tryd.ntmps10
      go_wp2_with fail
      go_ret
      exact ⟨rfl, by go_grown⟩

def signB (c : Int) : ByteArray := if c = 1 then ⟨#[61]⟩ else if c = 2 then ⟨#[60, 62]⟩ else if c = 3 then ⟨#[60]⟩ else if c = 4 then ⟨#[60, 61]⟩ else if c = 5 then ⟨#[62]⟩ else ⟨#[62, 61]⟩
set_option maxHeartbeats 1000000 in
set_option maxRecDepth 100000 in
theorem sign_calls (c : Int) (w : World) (h1 : 1 ≤ c) (h6 : c ≤ 6) : Calls Tryd.prog 48 #[.int .i64 c] w fun e w' => e = .returned (.string (signB c)) ∧ w' = w := by
  have x1 : ∀ w : World, (Instr.index 92 (.agg #[.string ⟨#[]⟩, .string ⟨#[61]⟩, .string ⟨#[60, 62]⟩, .string ⟨#[60]⟩, .string ⟨#[60, 61]⟩, .string ⟨#[62]⟩, .string ⟨#[62, 61]⟩]) (.int .i64 1)).run Tryd.prog w = .ok (.string (signB 1)) w := fun _ => by kernel_rfl
  have x2 : ∀ w : World, (Instr.index 92 (.agg #[.string ⟨#[]⟩, .string ⟨#[61]⟩, .string ⟨#[60, 62]⟩, .string ⟨#[60]⟩, .string ⟨#[60, 61]⟩, .string ⟨#[62]⟩, .string ⟨#[62, 61]⟩]) (.int .i64 2)).run Tryd.prog w = .ok (.string (signB 2)) w := fun _ => by kernel_rfl
  have x3 : ∀ w : World, (Instr.index 92 (.agg #[.string ⟨#[]⟩, .string ⟨#[61]⟩, .string ⟨#[60, 62]⟩, .string ⟨#[60]⟩, .string ⟨#[60, 61]⟩, .string ⟨#[62]⟩, .string ⟨#[62, 61]⟩]) (.int .i64 3)).run Tryd.prog w = .ok (.string (signB 3)) w := fun _ => by kernel_rfl
  have x4 : ∀ w : World, (Instr.index 92 (.agg #[.string ⟨#[]⟩, .string ⟨#[61]⟩, .string ⟨#[60, 62]⟩, .string ⟨#[60]⟩, .string ⟨#[60, 61]⟩, .string ⟨#[62]⟩, .string ⟨#[62, 61]⟩]) (.int .i64 4)).run Tryd.prog w = .ok (.string (signB 4)) w := fun _ => by kernel_rfl
  have x5 : ∀ w : World, (Instr.index 92 (.agg #[.string ⟨#[]⟩, .string ⟨#[61]⟩, .string ⟨#[60, 62]⟩, .string ⟨#[60]⟩, .string ⟨#[60, 61]⟩, .string ⟨#[62]⟩, .string ⟨#[62, 61]⟩]) (.int .i64 5)).run Tryd.prog w = .ok (.string (signB 5)) w := fun _ => by kernel_rfl
  have x6 : ∀ w : World, (Instr.index 92 (.agg #[.string ⟨#[]⟩, .string ⟨#[61]⟩, .string ⟨#[60, 62]⟩, .string ⟨#[60]⟩, .string ⟨#[60, 61]⟩, .string ⟨#[62]⟩, .string ⟨#[62, 61]⟩]) (.int .i64 6)).run Tryd.prog w = .ok (.string (signB 6)) w := fun _ => by kernel_rfl
  rcases (show c = 1 ∨ c = 2 ∨ c = 3 ∨ c = 4 ∨ c = 5 ∨ c = 6 from by omega) with rfl | rfl | rfl | rfl | rfl | rfl
  all_goals
    go_enter Tryd.func48, Tryd.ntmps48
  all_goals go_wp2_with fail
  all_goals go_ret
  all_goals exact ⟨rfl, rfl⟩
end Go.Proofs.YthhjhlodgfdlgaaDoor
