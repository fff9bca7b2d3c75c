import Derived.Lib.Replace
import Derived.Lib.ItoaNum
namespace Go.Proofs.YthhjhlodgfdlgaaDoor
open Go

def esc (l : List UInt8) : List UInt8 := l.flatMap (fun b => if b = 39 then [39, 39] else [b])
theorem esc_nil : esc [] = [] := rfl
theorem esc_cons (b : UInt8) (l : List UInt8) : esc (b :: l) = (if b = 39 then [39, 39] else [b]) ++ esc l := by simp [esc]
theorem esc_append (a b : List UInt8) : esc (a ++ b) = esc a ++ esc b := by simp [esc]
theorem esc_len (l : List UInt8) : (esc l).length ≤ 2 * l.length := by
  induction l with
  | nil => simp [esc]
  | cons b l ih =>
    rw [esc_cons, List.length_append, List.length_cons]
    split <;> simp <;> omega

theorem replaceK_ne (b c : UInt8) (new l : List UInt8) (h : b ≠ c) : ∀ k, Lib.replaceK [c] new k (b :: l) = b :: Lib.replaceK [c] new k l
  | 0 => by simp [Lib.replaceK]
  | k + 1 => by
    have hp : ([c] : List UInt8).isPrefixOf (b :: l) = false := by simp [List.isPrefixOf, Ne.symm h]
    have hix : Lib.index (b :: l) [c] = if Lib.index l [c] == -1 then -1 else Lib.index l [c] + 1 := by rw [Lib.index, hp]; simp
    have hge := Lib.index_ge l [c]
    by_cases hm : Lib.index l [c] = -1
    · rw [hm] at hix
      simp [Lib.replaceK, hix, hm]
    · obtain ⟨j, hj⟩ : ∃ j : Nat, Lib.index l [c] = j := ⟨(Lib.index l [c]).toNat, by omega⟩
      have hix' : Lib.index (b :: l) [c] = ((j + 1 : Nat) : Int) := by rw [hix, if_neg (fun e => hm (beq_iff_eq.1 e)), hj]; omega
      rw [Lib.replaceK_hit _ _ _ _ _ hix', Lib.replaceK_hit _ _ _ _ _ hj]
      simp
theorem replaceK_esc (l : List UInt8) : Lib.replaceK [39] [39, 39] (Lib.count l [39]) l = esc l := by
  induction l with
  | nil => simp [esc, Lib.replaceK, Lib.count_miss (s := []) (sub := [39]) (by simp [Lib.index])]
  | cons b l ih =>
    by_cases h : b = 39
    · subst h
      have hix : Lib.index ((39 : UInt8) :: l) [39] = ((0 : Nat) : Int) := by rw [Lib.index]; simp [List.isPrefixOf]
      rw [Lib.count_cons_eq, Nat.add_comm, Lib.replaceK_hit _ _ _ _ _ hix, esc_cons]
      simp [ih]
    · rw [Lib.count_cons_ne _ _ _ h, replaceK_ne _ _ _ _ h, ih, esc_cons, if_neg h]
      rfl
theorem replaceAll_esc (l : List UInt8) : Lib.replaceAll l [39] [39, 39] = esc l := by
  have h1 : (([39] : List UInt8) == [39, 39]) = false := by decide
  rw [Lib.replaceAll, Lib.replace, h1]
  simp [Lib.replaceNum, replaceK_esc]

def digB (n : Int) : ByteArray := ⟨(Lib.itoa n).toArray⟩
def quoteL (s : List UInt8) : List UInt8 := 39 :: esc s ++ [39]
def quoteB (s : ByteArray) : ByteArray := ⟨(quoteL s.data.toList).toArray⟩
theorem quoteB_size (s : ByteArray) : (quoteB s).size ≤ 2 * s.size + 2 := by
  have h := esc_len s.data.toList
  have e : (quoteB s).size = (esc s.data.toList).length + 2 := by
    show (quoteL s.data.toList).length = _
    simp [quoteL]
  have e2 : s.data.toList.length = s.size := rfl
  omega
theorem decDigits_len (u : Nat) : ∀ k, u < 10 ^ (k + 1) → (Lib.decDigits u).length ≤ k + 1 := by
  intro k
  induction k generalizing u with
  | zero => intro h; rw [Lib.decDigits, dif_pos (by omega)]; simp
  | succ k ih =>
    intro h
    by_cases h10 : u < 10
    · rw [Lib.decDigits, dif_pos h10]; simp
    · rw [Lib.decDigits, dif_neg h10, List.length_append]
      have := ih (u / 10) (by rw [Nat.pow_succ] at h; omega)
      simp; omega
theorem itoa_len (n : Int) (h0 : -9223372036854775808 ≤ n) (h1 : n ≤ 9223372036854775807) : (Lib.itoa n).length ≤ 20 := by
  rw [Lib.itoa]
  split
  · have := decDigits_len n.natAbs 18 (by omega)
    simp; omega
  · have := decDigits_len n.toNat 18 (by omega)
    omega
theorem digB_size (n : Int) (h0 : -9223372036854775808 ≤ n) (h1 : n ≤ 9223372036854775807) : (digB n).size ≤ 20 := by
  have := itoa_len n h0 h1
  show (digB n).data.size ≤ 20
  simpa [digB] using this
end Go.Proofs.YthhjhlodgfdlgaaDoor
