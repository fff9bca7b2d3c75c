import Derived.Lib.Bytealg
import Derived.Lib.Strings
namespace Go.Proofs.YthhjhlodgfdlgaaDoor
open Go

/-- A text's bytes behind its first quote: what it says, and how many bytes there are with the quote that ends it. -/
def quoR : List UInt8 → Option (List UInt8 × Nat)
  | [] => none
  | [c] => if c = 39 then some ([], 1) else none
  | c :: d :: r => if c = 39 then (if d = 39 then (quoR r).map (fun x => (39 :: x.1, x.2 + 2)) else some ([], 1)) else (quoR (d :: r)).map (fun x => (c :: x.1, x.2 + 1))
theorem quoR_other (c : UInt8) (r : List UInt8) (h : c ≠ 39) : quoR (c :: r) = (quoR r).map (fun x => (c :: x.1, x.2 + 1)) := by
  cases r with
  | nil => simp [quoR, h]
  | cons d r => rw [quoR, if_neg h]
theorem quoR_quote (r : List UInt8) : quoR (39 :: r) = if Lib.hasPrefix r [39] then (quoR (r.drop 1)).map (fun x => (39 :: x.1, x.2 + 2)) else some ([], 1) := by
  cases r with
  | nil => simp [quoR, Lib.hasPrefix]
  | cons d r =>
    rw [quoR, if_pos rfl]
    by_cases h : d = 39
    · subst h; simp [Lib.hasPrefix]
    · have h2 : ¬ (39 : UInt8) = d := fun e => h e.symm
      simp [h, Lib.hasPrefix, h2]
theorem indexByte_cons (b : UInt8) (l : List UInt8) (h : b ≠ 39) : Lib.indexByte (b :: l) 39 = if Lib.indexByte l 39 = -1 then -1 else Lib.indexByte l 39 + 1 := by
  have h2 : (b == 39) = false := by simpa using h
  rw [Lib.indexByte, h2]
  by_cases e : Lib.indexByte l 39 = -1 <;> simp [e]
theorem quoR_none : ∀ r : List UInt8, Lib.indexByte r 39 < 0 → quoR r = none := by
  intro r
  induction r with
  | nil => intro _; rfl
  | cons b l ih =>
    intro h
    by_cases hb : b = 39
    · subst hb; simp [Lib.indexByte] at h
    · rw [indexByte_cons b l hb] at h
      have hge := Lib.indexByte_ge l 39
      rw [quoR_other b l hb, ih (by split at h <;> omega)]
      rfl
theorem quoR_some : ∀ (r : List UInt8) (i : Nat), Lib.indexByte r 39 = i → i < r.length ∧
    quoR r = if Lib.hasPrefix (r.drop (i + 1)) [39] then (quoR (r.drop (i + 2))).map (fun x => (r.take i ++ 39 :: x.1, x.2 + (i + 2))) else some (r.take i, i + 1) := by
  intro r
  induction r with
  | nil => intro i h; simp [Lib.indexByte] at h
  | cons b l ih =>
    intro i h
    by_cases hb : b = 39
    · subst hb
      have h0 : i = 0 := by simp [Lib.indexByte] at h; omega
      subst h0
      rw [quoR_quote]
      simp
    · rw [indexByte_cons b l hb] at h
      have hge := Lib.indexByte_ge l 39
      by_cases e : Lib.indexByte l 39 = -1
      · rw [if_pos e] at h; omega
      · rw [if_neg e] at h
        obtain ⟨k, rfl⟩ : ∃ k, i = k + 1 := ⟨i - 1, by omega⟩
        obtain ⟨h1, h2⟩ := ih k (by omega)
        refine ⟨by simp; omega, ?_⟩
        rw [quoR_other b l hb, h2]
        simp only [List.drop_succ_cons, List.take_succ_cons]
        split
        · rw [Option.map_map]
          congr 1
        · simp
theorem quoR_len : ∀ (n : Nat) (r : List UInt8), r.length ≤ n → ∀ t k, quoR r = some (t, k) → k ≤ r.length ∧ 0 < k ∧ t.length < k := by
  intro n
  induction n with
  | zero =>
    intro r h t k e
    obtain rfl := List.eq_nil_of_length_eq_zero (by omega : r.length = 0)
    simp [quoR] at e
  | succ n ih =>
    intro r h t k e
    cases r with
    | nil => simp [quoR] at e
    | cons c l =>
      by_cases hc : c = 39
      · subst hc
        rw [quoR_quote] at e
        split at e
        · rename_i hp
          obtain ⟨⟨t1, k1⟩, h1, h2⟩ := Option.map_eq_some_iff.1 e
          simp only [Prod.mk.injEq] at h2
          obtain ⟨rfl, rfl⟩ := h2
          have hl : 1 ≤ l.length := by cases l with
            | nil => simp [Lib.hasPrefix] at hp
            | cons _ _ => simp
          obtain ⟨a, b, c⟩ := ih (l.drop 1) (by simp at h ⊢; omega) t1 k1 h1
          simp at a ⊢
          omega
        · simp only [Option.some.injEq, Prod.mk.injEq] at e
          obtain ⟨rfl, rfl⟩ := e
          simp
      · rw [quoR_other c l hc] at e
        obtain ⟨⟨t1, k1⟩, h1, h2⟩ := Option.map_eq_some_iff.1 e
        simp only [Prod.mk.injEq] at h2
        obtain ⟨rfl, rfl⟩ := h2
        obtain ⟨a, b, c⟩ := ih l (by simp at h; omega) t1 k1 h1
        simp at a ⊢
        omega
end Go.Proofs.YthhjhlodgfdlgaaDoor
