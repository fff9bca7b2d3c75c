import Derived.Test.YthhjhlodgfdlgaaDoorTokO
set_option linter.unusedVariables false
set_option linter.unusedSimpArgs false
namespace Go.Proofs.YthhjhlodgfdlgaaDoor
open Go Go.RowKit

theorem takeWhile_last {p : UInt8 → Bool} (l : List UInt8) (k : Nat) (hk : k < (l.takeWhile p).length) : ∃ h : k < l.length, p (l[k]'h) = true := by
  have hp := List.takeWhile_prefix p (l := l)
  have hl := hp.length_le
  refine ⟨by omega, ?_⟩
  have e : l[k]'(by omega) = (l.takeWhile p)[k] := (hp.getElem hk).symm
  rw [e]
  have hall := List.all_takeWhile (p := p) (l := l)
  exact List.all_eq_true.1 hall _ (List.getElem_mem hk)
theorem quoR_last : ∀ (n : Nat) (r : List UInt8), r.length ≤ n → ∀ t k, quoR r = some (t, k) → r[k - 1]? = some 39 := by
  intro n
  induction n with
  | zero =>
    intro r h t k e
    obtain rfl := List.eq_nil_of_length_eq_zero (by omega : r.length = 0)
    simp [quoR] at e
  | succ n ih =>
    intro r h t k e
    cases r with
    | nil => simp [quoR] at e
    | cons c l =>
      by_cases hc : c = 39
      · subst hc
        rw [quoR_quote] at e
        split at e
        · rename_i hp
          obtain ⟨⟨t1, k1⟩, h1, h2⟩ := Option.map_eq_some_iff.1 e
          simp only [Prod.mk.injEq] at h2
          obtain ⟨rfl, rfl⟩ := h2
          have hk1 := (quoR_len _ _ (Nat.le_refl _) t1 k1 h1).2.1
          have h3 := ih (l.drop 1) (by simp at h ⊢; omega) t1 k1 h1
          rw [show k1 + 2 - 1 = (k1 - 1 + 1) + 1 by omega, List.getElem?_cons_succ]
          rw [List.getElem?_drop] at h3
          rw [Nat.add_comm]
          exact h3
        · simp only [Option.some.injEq, Prod.mk.injEq] at e
          obtain ⟨rfl, rfl⟩ := e
          rfl
      · rw [quoR_other c l hc] at e
        obtain ⟨⟨t1, k1⟩, h1, h2⟩ := Option.map_eq_some_iff.1 e
        simp only [Prod.mk.injEq] at h2
        obtain ⟨rfl, rfl⟩ := h2
        have hk1 := (quoR_len _ _ (Nat.le_refl _) t1 k1 h1).2.1
        have h3 := ih l (by simp at h; omega) t1 k1 h1
        rw [show k1 + 1 - 1 = (k1 - 1) + 1 by omega, List.getElem?_cons_succ]
        exact h3

theorem markT_fit {l : List UInt8} {t : Tk} {n : Nat} (h : markT l = some (t, n)) : n ≤ l.length ∧ 0 < n ∧ ∃ b, l[n - 1]? = some b ∧ b.toNat < 128 ∧ ∃ b0, l[0]? = some b0 ∧ b0.toNat < 128 := by
  obtain ⟨m, h1, h2⟩ := Option.map_eq_some_iff.1 h
  simp only [Prod.mk.injEq] at h2
  obtain ⟨_, rfl⟩ := h2
  have hm := List.mem_of_find?_eq_some h1
  have hp := List.find?_some h1
  have hpre : m <+: l := by simpa [Lib.hasPrefix] using hp
  have hall : ∀ m ∈ marks, 0 < m.length ∧ (∀ b ∈ m, b.toNat < 128) := by decide
  obtain ⟨hz, hb⟩ := hall m hm
  have hle := hpre.length_le
  refine ⟨hle, hz, m[m.length - 1], ?_, hb _ (List.getElem_mem _), m[0], ?_, hb _ (List.getElem_mem _)⟩
  · rw [List.getElem?_eq_getElem (by omega)]
    exact congrArg some (hpre.getElem (by omega)).symm
  · rw [List.getElem?_eq_getElem (by omega)]
    exact congrArg some (hpre.getElem (by omega)).symm
theorem quoT_fit {l : List UInt8} {t : Tk} {n : Nat} (h : quoT l = some (t, n)) : n ≤ l.length ∧ 0 < n ∧ ∃ b, l[n - 1]? = some b ∧ b.toNat < 128 := by
  obtain ⟨⟨x, k⟩, h1, h2⟩ := Option.map_eq_some_iff.1 h
  simp only [Prod.mk.injEq] at h2
  obtain ⟨_, rfl⟩ := h2
  obtain ⟨a, b, c⟩ := quoR_len _ _ (Nat.le_refl _) x k h1
  have h3 := quoR_last _ _ (Nat.le_refl _) x k h1
  rw [List.getElem?_drop] at h3
  simp at a
  refine ⟨by omega, by omega, 39, ?_, by decide⟩
  rw [← h3]
  congr 1
  omega
theorem numT_fit {l : List UInt8} {t : Tk} {n : Nat} (h : numT l = some (t, n)) (b0 : UInt8) (hb0 : l[0]? = some b0) (hlo : b0.toNat < 128) : n ≤ l.length ∧ 0 < n ∧ ∃ b, l[n - 1]? = some b ∧ b.toNat < 128 := by
  have hn : n = numL l := by
    unfold numT at h
    cases hp : parseO (l.take (numL l)) with
    | none => rw [hp] at h; cases h
    | some v =>
      rw [hp, numV] at h
      split at h
      · simp only [Option.some.injEq, Prod.mk.injEq] at h; exact h.2.symm
      · cases h
  have hl0 : 0 < l.length := by
    rcases Nat.eq_zero_or_pos l.length with h0 | h0
    · rw [List.getElem?_eq_none (by omega)] at hb0; cases hb0
    · exact h0
  subst hn
  unfold numL
  have hle := (List.takeWhile_prefix (fun b : UInt8 => digN b.toNat) (l := l.drop 1)).length_le
  simp only [List.length_drop] at hle
  refine ⟨by omega, by omega, ?_⟩
  rcases Nat.eq_zero_or_pos ((l.drop 1).takeWhile (fun b => digN b.toNat)).length with hk | hk
  · rw [hk]
    exact ⟨b0, hb0, hlo⟩
  · obtain ⟨h1, h2⟩ := takeWhile_last (p := fun b => digN b.toNat) (l.drop 1) (((l.drop 1).takeWhile (fun b => digN b.toNat)).length - 1) (by omega)
    refine ⟨_, ?_, Nat.lt_of_not_le (fun h3 => by rw [digN_hi h3] at h2; cases h2)⟩
    rw [← List.getElem?_eq_getElem, List.getElem?_drop]
    congr 1
    omega
theorem name_fit {l : List UInt8} (b0 : UInt8) (hb0 : l[0]? = some b0) (hlo : letterN b0.toNat = true) : nameL l ≤ l.length ∧ 0 < nameL l ∧ ∃ b, l[nameL l - 1]? = some b ∧ b.toNat < 128 := by
  have hle := (List.takeWhile_prefix (fun b : UInt8 => nameN b.toNat) (l := l)).length_le
  have hpos : 0 < nameL l := by
    unfold nameL
    cases l with
    | nil => cases hb0
    | cons a r =>
      simp at hb0
      subst hb0
      rw [List.takeWhile_cons, if_pos (by simp [nameN, hlo])]
      simp
  refine ⟨hle, hpos, ?_⟩
  obtain ⟨h1, h2⟩ := takeWhile_last (p := fun b => nameN b.toNat) l (nameL l - 1) (by unfold nameL at hpos ⊢; omega)
  exact ⟨_, List.getElem?_eq_getElem h1, Nat.lt_of_not_le (fun h3 => by rw [nameN_hi h3] at h2; cases h2)⟩

/-- A token lies within the text, ends with a byte of ASCII, and begins with one. -/
theorem oneC_fit {c : Nat} {l : List UInt8} {t : Tk} {n : Nat} (b0 : UInt8) (hb0 : l[0]? = some b0) (hc : (c < 128 ∧ c = b0.toNat) ∨ (128 ≤ c ∧ 128 ≤ b0.toNat)) (h : oneC c l = some (t, n)) :
    c < 128 ∧ n ≤ l.length ∧ 0 < n ∧ ∃ b, l[n - 1]? = some b ∧ b.toNat < 128 := by
  unfold oneC at h
  split at h
  · rename_i h1
    have hlo : c < 128 := Nat.lt_of_not_le (fun h2 => by rw [letterN_hi h2] at h1; cases h1)
    simp only [Option.some.injEq, Prod.mk.injEq] at h
    obtain ⟨_, rfl⟩ := h
    refine ⟨hlo, name_fit b0 hb0 ?_⟩
    rcases hc with ⟨_, rfl⟩ | h2
    · exact h1
    · omega
  · split at h
    · rename_i h1 h2
      have hlo : c < 128 := by
        rcases Nat.lt_or_ge c 128 with h3 | h3
        · exact h3
        · rw [digN_hi h3] at h2; simp at h2; omega
      rcases hc with ⟨_, rfl⟩ | h3
      · exact ⟨hlo, numT_fit h b0 hb0 hlo⟩
      · omega
    · split at h
      · rename_i h3
        exact ⟨by omega, quoT_fit h⟩
      · obtain ⟨h4, h5, b, h6, h7, b1, h8, h9⟩ := markT_fit h
        refine ⟨?_, h4, h5, b, h6, h7⟩
        rw [hb0] at h8
        cases h8
        rcases hc with h10 | h10
        · exact h10.1
        · omega
theorem oneC_hi {c d : Nat} {l : List UInt8} (hc : 128 ≤ c) (hd : 128 ≤ d) : oneC c l = oneC d l := by
  unfold oneC
  rw [letterN_hi hc, letterN_hi hd, digN_hi hc, digN_hi hd]
  have h1 : (c == 45) = false := by simp; omega
  have h2 : (d == 45) = false := by simp; omega
  rw [h1, h2, if_neg (by omega : ¬ c = 39), if_neg (by omega : ¬ d = 39)]

/-- All tokens of a text from a place on, and where none begins. -/
def toks (l : List UInt8) (p : Nat) : List Tk × Option Nat :=
  match l with
  | [] => ([], none)
  | b :: r =>
    if blankN b.toNat = true then toks r (p + 1)
    else match oneC b.toNat (b :: r) with
      | none => ([], some p)
      | some (t, n) => ((⟨t.kind, t.s, t.n, p⟩ : Tk) :: (toks (r.drop (n - 1)) (p + n)).1, (toks (r.drop (n - 1)) (p + n)).2)
termination_by l.length
decreasing_by
  all_goals simp
  all_goals omega
theorem toks_nil (p : Nat) : toks [] p = ([], none) := by rw [toks]
theorem toks_blank (b : UInt8) (r : List UInt8) (p : Nat) (h : blankN b.toNat = true) : toks (b :: r) p = toks r (p + 1) := by rw [toks, if_pos h]
theorem toks_none (b : UInt8) (r : List UInt8) (p : Nat) (h : blankN b.toNat = false) (h1 : oneC b.toNat (b :: r) = none) : toks (b :: r) p = ([], some p) := by
  rw [toks, if_neg (by simp [h]), h1]
theorem toks_some (b : UInt8) (r : List UInt8) (p : Nat) (t : Tk) (n : Nat) (h : blankN b.toNat = false) (h1 : oneC b.toNat (b :: r) = some (t, n)) (hn : 0 < n) :
    toks (b :: r) p = ((⟨t.kind, t.s, t.n, p⟩ : Tk) :: (toks ((b :: r).drop n) (p + n)).1, (toks ((b :: r).drop n) (p + n)).2) := by
  rw [toks, if_neg (by simp [h]), h1]
  obtain ⟨k, rfl⟩ : ∃ k, n = k + 1 := ⟨n - 1, by omega⟩
  rfl

theorem decode_cont (s : ByteArray) (pos k : Nat) (h1 : 1 ≤ k) (h2 : k < (Utf8.decode s pos).2) : pos + k < s.size ∧ 128 ≤ (s.get! (pos + k)).toNat := by
  have hk : k = 1 ∨ k = 2 ∨ k = 3 ∨ 4 ≤ k := by omega
  simp only [Utf8.decode] at h2
  rcases hk with rfl | rfl | rfl | hk <;> repeat' split at h2
  all_goals simp_all
  all_goals omega
/-- A rune that begins ahead of a place ends ahead of it, where a byte of ASCII stands last. -/
theorem decode_upto (s : ByteArray) (pos m : Nat) (h1 : pos < m) (h2 : m ≤ s.size) (h3 : (s[m - 1]'(by omega)).toNat < 128) : pos + (Utf8.decode s pos).2 ≤ m := by
  rcases Nat.lt_or_ge m (pos + (Utf8.decode s pos).2) with h | h
  · exfalso
    rcases Nat.eq_or_lt_of_le (show pos ≤ m - 1 by omega) with e | e
    · subst e
      rw [decode_ascii s (m - 1) (by omega) h3] at h
      simp at h
      omega
    · have h4 := (decode_cont s pos (m - 1 - pos) (by omega) (by omega)).2
      rw [show pos + (m - 1 - pos) = m - 1 by omega] at h4
      have h5 := get_at s (m - 1) (by omega)
      rw [Nat.add_zero] at h5
      rw [h5] at h4
      omega
  · exact h
end Go.Proofs.YthhjhlodgfdlgaaDoor
