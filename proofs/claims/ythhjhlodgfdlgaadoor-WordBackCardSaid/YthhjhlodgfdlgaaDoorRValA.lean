import Derived.Test.YthhjhlodgfdlgaaDoorVal
import Derived.Test.YthhjhlodgfdlgaaDoorWWords
set_option linter.unusedVariables false
set_option linter.unusedSimpArgs false
namespace Go.Proofs.YthhjhlodgfdlgaaDoor
open Go Go.RowKit Go.Proofs.YthhjhlodgfdlgaaDoorW.PrintWords

theorem info_u8 : (Tryd.prog.info? 5).map (fun i => (i.zero, i.size, i.bytes)) = some (some (.int .u8 0), 1, 1) := by kernel_rfl

def bytesV (l : List UInt8) : List Value := l.map fun b => .int .u8 b.toNat
/-- A slice of bytes of the call's own. -/
def OwnB (B : Nat) (w : World) (v : Value) (l : List UInt8) : Prop := w.ownsRow B 5 1 v (bytesV l).length (bytesV l)
theorem OwnB.alloc {B : Nat} {w : World} {v : Value} {l : List UInt8} (h : OwnB B w v l) (o : Obj) : OwnB B (w.alloc o) v l := World.ownsRow.alloc h o
theorem bytesV_snoc (l : List UInt8) (b : UInt8) : bytesV l ++ [.int .u8 b.toNat] = bytesV (l ++ [b]) := by simp [bytesV]
theorem OwnB.str {B : Nat} {w : World} {v : Value} {l : List UInt8} (h : OwnB B w v l) : (convert 64 9 v).run Tryd.prog w = .ok (.string ⟨l.toArray⟩) w := by
  have h2 : w.ownsRow B 5 1 v (bytesV l).length (nums .u8 (l.map fun b => (b.toNat : Int))) := by
    have e : nums .u8 (l.map fun b => (b.toNat : Int)) = bytesV l := by simp [nums, bytesV]
    rw [e]; exact h
  have h3 := own_string (P := Tryd.prog) Tryd.underlying64 Tryd.underlying5 Tryd.underlying9 h2
  rw [h3]
  have e2 : strOfNums (l.map fun b => (b.toNat : Int)) = ⟨l.toArray⟩ := by
    have e3 : ((fun n : Int => UInt8.ofNat n.toNat) ∘ fun b : UInt8 => (b.toNat : Int)) = id := by funext b; simp
    simp [strOfNums, e3]
  rw [e2]
theorem OwnB.one (B : Nat) (w : World) (hB : B ≤ w.heap.size) (b : UInt8) (v : Value) (hv : v = .int .u8 b.toNat) : OwnB B (w.alloc (.cells #[v] 5)) (.slice (some ⟨w.heap.size, 0, none⟩) 1 1) [b] := by
  subst hv
  exact World.ownsRow_lit w #[.int .u8 b.toNat] 1 hB (by simp [maxLen]) rfl

theorem esc_take (s : ByteArray) (k : Nat) (h : k < s.size) : esc (s.data.toList.take (k + 1)) = esc (s.data.toList.take k) ++ (if s[k] = 39 then [39, 39] else [s[k]]) := by
  have h2 : k < s.data.toList.length := h
  rw [List.take_succ_eq_append_getElem h2, esc_append]
  congr 1
  show esc [s[k]] = _
  simp [esc]

end Go.Proofs.YthhjhlodgfdlgaaDoor
