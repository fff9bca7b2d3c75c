import Derived.Test.YthhjhlodgfdlgaaDoorRValue
import Derived.Test.YthhjhlodgfdlgaaDoorPredA
import Derived.Test.YthhjhlodgfdlgaaDoorWLast
set_option linter.unusedVariables false
set_option linter.unusedSimpArgs false
namespace Go.Proofs.YthhjhlodgfdlgaaDoor
open Go Go.RowKit Go.Proofs.YthhjhlodgfdlgaaDoorW.PrintLast

def TxtOk : Nat → Pr → Prop
  | 0, _ => False
  | d + 1, p => (1 ≤ p.op ∧ p.op ≤ 7) ∧ (p.op = 2 → 1 ≤ p.cmp ∧ p.cmp ≤ 6) ∧ (5 ≤ p.op → 0 < p.kids.length) ∧ p.kids.length ≤ 20 ∧ p.col.size ≤ 100 ∧ p.pat.size ≤ 100 ∧ p.val.s.size ≤ 100 ∧ ∀ k ∈ p.kids, TxtOk d k

def wrapB (t : ByteArray) (must : Bool) : ByteArray := if must then (⟨#[40]⟩ ++ t) ++ ⟨#[41]⟩ else t
def andB : ByteArray := ⟨#[32, 97, 110, 100, 32]⟩
def orB : ByteArray := ⟨#[32, 111, 114, 32]⟩
def joinB (xs : List ByteArray) (sep : ByteArray) : ByteArray := ⟨(Lib.join (xs.map (·.data.toList)) sep.data.toList).toArray⟩
def textB : Nat → Pr → ByteArray
  | 0, _ => ByteArray.empty
  | d + 1, p =>
    if p.op = 1 then ⟨#[97, 108, 108]⟩
    else if p.op = 2 then joinB [p.col, signB p.cmp, valueB p.kind p.val] ⟨#[32]⟩
    else if p.op = 3 then p.col ++ ⟨#[32, 105, 115, 32, 110, 117, 108, 108]⟩
    else if p.op = 4 then (p.col ++ ⟨#[32, 108, 105, 107, 101, 32]⟩) ++ quoteB p.pat
    else if p.op = 5 then (match p.kids with | [] => ByteArray.empty | k :: _ => ⟨#[110, 111, 116, 32]⟩ ++ wrapB (textB d k) (listP k))
    else joinB (p.kids.map fun k => wrapB (textB d k) (p.op == 6 && k.op == 7)) (if p.op = 6 then andB else orB)
def bnd : Nat → Nat
  | 0 => 0
  | d + 1 => 1000 + 20 * bnd d

theorem size_append (a b : ByteArray) : (a ++ b).size = a.size + b.size := ByteArray.size_append
theorem wrapB_size (t : ByteArray) (m : Bool) : (wrapB t m).size ≤ t.size + 2 := by
  cases m <;> simp [wrapB, size_append]
  have : (⟨#[40]⟩ : ByteArray).size = 1 := rfl
  have : (⟨#[41]⟩ : ByteArray).size = 1 := rfl
  omega
theorem join_len (sep : List UInt8) (M : Nat) : ∀ xs : List (List UInt8), (∀ x ∈ xs, x.length ≤ M) → (Lib.join xs sep).length ≤ xs.length * (M + sep.length) := by
  intro xs h
  cases xs with
  | nil => simp [Lib.join_nil]
  | cons x r =>
    have ht : ∀ r : List (List UInt8), (∀ x ∈ r, x.length ≤ M) → (Lib.joinTail sep r).length ≤ r.length * (M + sep.length) := by
      intro r
      induction r with
      | nil => intro _; simp [Lib.joinTail]
      | cons y r ih =>
        intro h
        have h1 := ih (fun x hx => h x (by simp [hx]))
        have h2 := h y (by simp)
        have e : Lib.joinTail sep (y :: r) = (sep ++ y) ++ Lib.joinTail sep r := by simp [Lib.joinTail]
        rw [e, List.length_append, List.length_append, List.length_cons, Nat.add_mul, Nat.one_mul]
        omega
    have h1 := ht r (fun x hx => h x (by simp [hx]))
    have h2 := h x (by simp)
    rw [Lib.join_cons, List.length_append, List.length_cons, Nat.add_mul, Nat.one_mul]
    omega
theorem joinB_size (xs : List ByteArray) (sep : ByteArray) (M : Nat) (h : ∀ x ∈ xs, x.size ≤ M) : (joinB xs sep).size ≤ xs.length * (M + sep.size) := by
  have := join_len sep.data.toList M (xs.map (·.data.toList)) (by
    intro x hx
    obtain ⟨y, hy, rfl⟩ := List.mem_map.1 hx
    exact h y hy)
  rw [List.length_map] at this
  exact this
theorem valueB_size (ty : Int) (c : Ce) (hi : i64 c.i) : (valueB ty c).size ≤ 2 * c.s.size + 30 := by
  have h1 := digB_size c.i hi.1 hi.2
  have h2 := quoteB_size c.s
  have e1 : (⟨#[110, 117, 108, 108]⟩ : ByteArray).size = 4 := rfl
  have e2 : (⟨#[102, 97, 108, 115, 101]⟩ : ByteArray).size = 5 := rfl
  have e3 : (⟨#[116, 114, 117, 101]⟩ : ByteArray).size = 4 := rfl
  have e4 : (⟨#[]⟩ : ByteArray).size = 0 := rfl
  unfold valueB
  repeat' split
  all_goals omega
theorem signB_size (c : Int) : (signB c).size ≤ 2 := by
  unfold signB
  repeat' split
  all_goals decide
theorem bnd_le (d : Nat) (h : d ≤ 6) : bnd d ≤ 4000000000 := by
  rcases (show d = 0 ∨ d = 1 ∨ d = 2 ∨ d = 3 ∨ d = 4 ∨ d = 5 ∨ d = 6 from by omega) with rfl | rfl | rfl | rfl | rfl | rfl | rfl <;> decide
inductive i64s : Pr → Prop
  | mk (p : Pr) (out : i64 p.val.i) (kid : ∀ k, k ∈ p.kids → i64s k) : i64s p
theorem i64s.out {p : Pr} (h : i64s p) : i64 p.val.i := by cases h; assumption
theorem i64s.kid {p : Pr} (h : i64s p) : ∀ k, k ∈ p.kids → i64s k := by cases h; assumption
theorem InPr.i64s {w : World} {p : Pr} (h : InPr w p) : i64s p := by
  induction h with
  | mk p fine row all ih => exact .mk p fine.vi ih
theorem textB_size (d : Nat) : ∀ p, i64s p → TxtOk d p → (textB d p).size ≤ bnd d := by
  induction d with
  | zero => intro p _ h; exact h.elim
  | succ d ih =>
    intro p hi h
    obtain ⟨_, _, h5, hk, hc, hp, hs, hall⟩ := h
    have hv := valueB_size p.kind p.val hi.out
    have hq := quoteB_size p.pat
    have hsg := signB_size p.cmp
    have e1 : (⟨#[97, 108, 108]⟩ : ByteArray).size = 3 := rfl
    have e2 : (⟨#[32]⟩ : ByteArray).size = 1 := rfl
    have e3 : (⟨#[32, 105, 115, 32, 110, 117, 108, 108]⟩ : ByteArray).size = 8 := rfl
    have e4 : (⟨#[32, 108, 105, 107, 101, 32]⟩ : ByteArray).size = 6 := rfl
    have e5 : (⟨#[110, 111, 116, 32]⟩ : ByteArray).size = 4 := rfl
    have e6 : andB.size = 5 := rfl
    have e7 : orB.size = 4 := rfl
    unfold textB bnd
    split
    · omega
    split
    · have := joinB_size [p.col, signB p.cmp, valueB p.kind p.val] ⟨#[32]⟩ 240 (by
        intro x hx
        simp at hx
        rcases hx with rfl | rfl | rfl <;> omega)
      simp at this
      omega
    split
    · rw [size_append]; omega
    split
    · rw [size_append, size_append]; omega
    split
    · cases hkk : p.kids with
      | nil => simp
      | cons k r =>
        have h1 := ih k (hi.kid k (by rw [hkk]; simp)) (hall k (by rw [hkk]; simp))
        have h2 := wrapB_size (textB d k) (listP k)
        simp only [size_append]
        omega
    · have h1 := joinB_size (p.kids.map fun k => wrapB (textB d k) (p.op == 6 && k.op == 7)) (if p.op = 6 then andB else orB) (bnd d + 2) (by
        intro x hx
        obtain ⟨k, hk, rfl⟩ := List.mem_map.1 hx
        have h1 := ih k (hi.kid k hk) (hall k hk)
        have h2 := wrapB_size (textB d k) (p.op == 6 && k.op == 7)
        omega)
      rw [List.length_map] at h1
      have h3 : (if p.op = 6 then andB else orB).size ≤ 5 := by split <;> omega
      have h4 : p.kids.length * (bnd d + 2 + (if p.op = 6 then andB else orB).size) ≤ 20 * (bnd d + 7) := Nat.mul_le_mul hk (by omega)
      omega
end Go.Proofs.YthhjhlodgfdlgaaDoor
