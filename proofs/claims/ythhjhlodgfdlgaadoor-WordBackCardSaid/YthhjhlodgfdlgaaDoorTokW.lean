import Derived.Test.YthhjhlodgfdlgaaDoorTokP
import Derived.Lib.ItoaMem
import Derived.Lib.ItoaLen
set_option linter.unusedVariables false
set_option linter.unusedSimpArgs false
namespace Go.Proofs.YthhjhlodgfdlgaaDoor
open Go Go.RowKit

theorem quoR_esc (r : List UInt8) (hr : Lib.hasPrefix r [39] = false) : ∀ l : List UInt8, quoR (esc l ++ 39 :: r) = some (l, (esc l).length + 1) := by
  intro l
  induction l with
  | nil => rw [esc_nil, List.nil_append, quoR_quote, hr]; rfl
  | cons b l ih =>
    rw [esc_cons]
    by_cases hb : b = 39
    · subst hb
      rw [if_pos rfl]
      simp only [List.cons_append, List.nil_append]
      rw [quoR_quote]
      have hp : Lib.hasPrefix (39 :: (esc l ++ 39 :: r)) [39] = true := by simp [Lib.hasPrefix]
      rw [hp, if_pos rfl, List.drop_one, List.tail_cons, ih]
      simp
    · rw [if_neg hb]
      simp only [List.cons_append, List.nil_append]
      rw [quoR_other _ _ hb, ih]
      simp
theorem digits_all (u : Nat) : ∀ b ∈ Lib.decDigits u, digN b.toNat = true ∧ 48 ≤ b.toNat ∧ b.toNat ≤ 57 := by
  induction u using Nat.strongRecOn with
  | _ u ih =>
    have hd : ∀ d, d < 10 → digN (UInt8.ofNat (48 + d)).toNat = true ∧ 48 ≤ (UInt8.ofNat (48 + d)).toNat ∧ (UInt8.ofNat (48 + d)).toNat ≤ 57 := by
      intro d h
      have e : (UInt8.ofNat (48 + d)).toNat = 48 + d := by simp; omega
      rw [e]
      exact ⟨by simp [digN]; omega, by omega, by omega⟩
    rw [Lib.decDigits]
    split
    · intro b hb
      rw [List.mem_singleton] at hb
      subst hb
      exact hd u (by omega)
    · intro b hb
      rw [List.mem_append, List.mem_singleton] at hb
      rcases hb with hb | hb
      · exact ih (u / 10) (by omega) b hb
      · subst hb
        exact hd (u % 10) (by omega)
theorem dec_ne (u : Nat) : Lib.decDigits u ≠ [] := by
  intro h
  have h1 := Lib.decDigits_length u
  have h2 := Lib.nDigits_pos u
  rw [h] at h1
  simp at h1
  omega
theorem parseM_app (M : Nat) : ∀ (l r : List UInt8) (acc v : Nat), Lib.parseUintM M acc l = .ok v → Lib.parseUintM M acc (l ++ r) = Lib.parseUintM M v r := by
  intro l
  induction l with
  | nil =>
    intro r acc v h
    simp only [Lib.parseUintM] at h
    injection h with h
    subst h
    rfl
  | cons c l ih =>
    intro r acc v h
    rw [List.cons_append]
    simp only [Lib.parseUintM] at h ⊢
    split at h
    · rename_i h1
      rw [if_pos h1]
      split at h
      · cases h
      · rename_i h2
        rw [if_neg h2]
        split at h
        · cases h
        · rename_i h3
          rw [if_neg h3]
          exact ih r _ v h
    · cases h
theorem parseM_dec (M : Nat) (hM : M ≤ 18446744073709551615) (u : Nat) : u ≤ M → Lib.parseUintM M 0 (Lib.decDigits u) = .ok u := by
  induction u using Nat.strongRecOn with
  | _ u ih =>
    intro hu
    have one : ∀ acc d, d < 10 → acc < 1844674407370955162 → acc * 10 + d ≤ M → Lib.parseUintM M acc [UInt8.ofNat (48 + d)] = .ok (acc * 10 + d) := by
      intro acc d h1 h2 h3
      have e : (UInt8.ofNat (48 + d)).toNat = 48 + d := by simp; omega
      simp only [Lib.parseUintM]
      rw [e, if_pos (by omega), if_neg (by omega), if_neg (by omega)]
      congr 1
      omega
    rw [Lib.decDigits]
    split
    · rename_i h
      have h4 := one 0 u h (by omega) (by omega)
      rw [Nat.zero_mul, Nat.zero_add] at h4
      exact h4
    · rename_i h
      rw [parseM_app M _ _ 0 (u / 10) (ih (u / 10) (by omega) (by omega)), one (u / 10) (u % 10) (by omega) (by omega) (by omega)]
      congr 1
      omega
theorem parseO_itoa (n : Int) (h0 : -9223372036854775808 ≤ n) (h1 : n ≤ 9223372036854775807) : parseO (Lib.itoa n) = some n := by
  have hp : ∀ u, u ≤ 18446744073709551615 → Lib.parseUintB 64 (Lib.decDigits u) = .ok u := by
    intro u hu
    rw [Lib.parseUintB, if_neg (dec_ne u)]
    exact parseM_dec (2 ^ 64 - 1) (by decide) u hu
  have e63 : (2 : Nat) ^ (64 - 1) = 9223372036854775808 := by decide
  unfold parseO
  by_cases hn : n < 0
  · obtain ⟨u, rfl⟩ : ∃ u : Nat, n = -(u : Int) := ⟨n.natAbs, by omega⟩
    rw [Lib.itoa_neg u (by omega), Lib.parseIntB_minus, hp u (by omega), e63]
    simp only [Lib.signedC]
    rw [if_neg (by omega)]
  · obtain ⟨u, rfl⟩ : ∃ u : Nat, n = (u : Int) := ⟨n.natAbs, by omega⟩
    rw [Lib.itoa_nonneg u]
    have hall := digits_all u
    have hpu := hp u (by omega)
    have hne := dec_ne u
    generalize Lib.decDigits u = l at *
    cases l with
    | nil => exact absurd rfl hne
    | cons c r =>
      obtain ⟨_, h3, h4⟩ := hall c (by simp)
      rw [Lib.parseIntB_plain 64 c r (by omega) (by omega), hpu, e63]
      simp only [Lib.signlessC]
      rw [if_neg (by omega)]
theorem numL_itoa (n : Int) : numL (Lib.itoa n) = (Lib.itoa n).length := by
  have hl : ∀ (c : UInt8) (r : List UInt8), (∀ b ∈ r, digN b.toNat = true) → numL (c :: r) = (c :: r).length := by
    intro c r h
    unfold numL
    have e : r.takeWhile (fun b => digN b.toNat) = r := by
      have := takeWhile_len (fun b : UInt8 => digN b.toNat) r r.length (Nat.le_refl _) (fun j hj _ => h _ (List.getElem_mem hj)) (fun h => absurd h (Nat.lt_irrefl _))
      exact (List.takeWhile_prefix _).eq_of_length this
    rw [List.drop_one, List.tail_cons, e]
    rfl
  unfold Lib.itoa
  split
  · exact hl _ _ (fun b hb => (digits_all _ b hb).1)
  · have hall := digits_all n.toNat
    have hne := dec_ne n.toNat
    generalize Lib.decDigits n.toNat = l at *
    cases l with
    | nil => exact absurd rfl hne
    | cons c r => exact hl c r (fun b hb => (hall b (by simp [hb])).1)
theorem itoa_head (n : Int) : ∃ c r, Lib.itoa n = c :: r ∧ (digN c.toNat || c.toNat == 45) = true ∧ letterN c.toNat = false ∧ blankN c.toNat = false := by
  unfold Lib.itoa
  split
  · exact ⟨45, _, rfl, by decide, by decide, by decide⟩
  · have hall := digits_all n.toNat
    have hne := dec_ne n.toNat
    generalize Lib.decDigits n.toNat = l at *
    cases l with
    | nil => exact absurd rfl hne
    | cons c r =>
      obtain ⟨h1, h2, h3⟩ := hall c (by simp)
      refine ⟨c, r, rfl, by rw [h1]; rfl, by simp [letterN]; omega, ?_⟩
      have a1 : ¬ c.toNat = 32 := by omega
      have a2 : ¬ c.toNat = 9 := by omega
      have a3 : ¬ c.toNat = 10 := by omega
      simp [blankN, a1, a2, a3]
theorem one_itoa (n : Int) (h0 : -9223372036854775808 ≤ n) (h1 : n ≤ 9223372036854775807) (p : Nat) : toks (Lib.itoa n) p = ([⟨2, ByteArray.empty, n, p⟩], none) := by
  obtain ⟨c, r, e, hd, hl, hb⟩ := itoa_head n
  have hlen : 0 < (Lib.itoa n).length := by rw [e]; simp
  have ho : oneC c.toNat (Lib.itoa n) = some (⟨2, ByteArray.empty, n, 0⟩, (Lib.itoa n).length) := by
    unfold oneC
    rw [hl, if_neg (by simp), if_pos hd, numT, numL_itoa, List.take_length, parseO_itoa n h0 h1, numV, if_pos (by rw [digB, List.take_length])]
  rw [e] at ho ⊢
  rw [toks_some c r p _ _ hb ho (by simp), List.drop_length, toks_nil]

/-- A quoted text, a blank, a number: three tokens, the end among them. -/
theorem toks_back (s : ByteArray) (n : Int) (h0 : -9223372036854775808 ≤ n) (h1 : n ≤ 9223372036854775807) :
    toks (quoteL s.data.toList ++ 32 :: Lib.itoa n) 0 = ([⟨3, s, 0, 0⟩, ⟨2, ByteArray.empty, n, (quoteL s.data.toList).length + 1⟩], none) := by
  have hq : quoteL s.data.toList ++ 32 :: Lib.itoa n = 39 :: (esc s.data.toList ++ 39 :: 32 :: Lib.itoa n) := by
    simp [quoteL]
  have ho : oneC 39 (39 :: (esc s.data.toList ++ 39 :: 32 :: Lib.itoa n)) = some (⟨3, s, 0, 0⟩, (esc s.data.toList).length + 2) := by
    unfold oneC
    rw [if_neg (by decide), if_neg (by decide), if_pos rfl, quoT, List.drop_one, List.tail_cons, quoR_esc _ (by rfl)]
    rfl
  have hd : (39 :: (esc s.data.toList ++ 39 :: 32 :: Lib.itoa n)).drop ((esc s.data.toList).length + 2) = 32 :: Lib.itoa n := by
    rw [List.drop_succ_cons, show esc s.data.toList ++ 39 :: 32 :: Lib.itoa n = (esc s.data.toList ++ [39]) ++ 32 :: Lib.itoa n by simp]
    exact List.drop_left' (by simp)
  have hl : (quoteL s.data.toList).length = (esc s.data.toList).length + 2 := by simp [quoteL]
  rw [hq, toks_some 39 _ 0 _ _ (by decide) ho (by omega), hd, toks_blank 32 _ _ (by decide), one_itoa n h0 h1, hl]
  simp
theorem toks_live : toks [97, 60, 61, 45, 53] 0 = ([⟨1, ⟨#[97]⟩, 0, 0⟩, ⟨4, ⟨#[60, 61]⟩, 0, 1⟩, ⟨2, ByteArray.empty, -5, 3⟩], none) := by
  have h5 : ([45, 53] : List UInt8) = Lib.itoa (-5) := by
    rw [show (-5 : Int) = -((5 : Nat) : Int) from rfl, Lib.itoa_neg 5 (by decide), Lib.decDigits_one (by decide)]
    rfl
  rw [toks_some 97 [60, 61, 45, 53] 0 ⟨1, ⟨#[97]⟩, 0, 0⟩ 1 (by decide) (by rfl) (by decide)]
  simp only [List.drop_one, List.tail_cons]
  rw [toks_some 60 [61, 45, 53] 1 ⟨4, ⟨#[60, 61]⟩, 0, 0⟩ 2 (by decide) (by rfl) (by decide)]
  simp only [List.drop_succ_cons, List.drop_zero]
  rw [h5, one_itoa (-5) (by decide) (by decide)]
  rfl
end Go.Proofs.YthhjhlodgfdlgaaDoor
