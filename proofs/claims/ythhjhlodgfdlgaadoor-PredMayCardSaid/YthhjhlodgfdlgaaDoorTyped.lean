import Derived.Test.YthhjhlodgfdlgaaDoorCheck2
import Derived.Test.YthhjhlodgfdlgaaDoorRefD
import Derived.Test.YthhjhlodgfdlgaaDoorEvery
set_option linter.unusedVariables false
set_option linter.unusedSimpArgs false
namespace Go.Proofs.YthhjhlodgfdlgaaDoor
open Go Go.RowKit

def tyAt (cols : List Co) (i : Int) : Int := match cols[i.toNat]? with | some c => c.ty | none => 0
/-- Is a predicate's column there, and of the right type? -/
def typedW (op kd ty : Int) : Bool := if op = 2 then ty == kd else if op = 4 then ty == 3 else true
def typedV (op kd i ty : Int) : Bool := if i < 0 then false else typedW op kd ty
def typedP (cols : List Co) (p : Pr) : Bool := if p.col.toList = [] then true else typedV p.op p.kind (findI cols p.col) (tyAt cols (findI cols p.col))

theorem find_yes {cols : List Co} {nm : ByteArray} {ad : Option Addr} {cap : Nat} {w : World} (hr : RowAt w ad cols) (k : Nat) (h : findI cols nm = k) :
    Calls Tryd.prog 63 #[.slice ad cols.length cap, .string nm] w (fun e w' => e = .returned (.tuple #[.int .i64 k, .bool true]) ∧ Below w.heap.size w w') := by
  refine (find_calls cols nm ad cap w hr).mono (fun e w' h1 => ?_)
  obtain ⟨rfl, hb⟩ := h1
  rw [h]
  have : (0 : Int) ≤ k := by omega
  simp only [this, if_true, decide_true]
  exact ⟨trivial, hb⟩
theorem find_no {cols : List Co} {nm : ByteArray} {ad : Option Addr} {cap : Nat} {w : World} (hr : RowAt w ad cols) (h : findI cols nm < 0) :
    Calls Tryd.prog 63 #[.slice ad cols.length cap, .string nm] w (fun e w' => e = .returned (.tuple #[.int .i64 0, .bool false]) ∧ Below w.heap.size w w') := by
  refine (find_calls cols nm ad cap w hr).mono (fun e w' h1 => ?_)
  obtain ⟨rfl, hb⟩ := h1
  have : ¬ (0 : Int) ≤ findI cols nm := by omega
  simp only [this, if_false, decide_false]
  exact ⟨trivial, hb⟩
theorem find_col {cols : List Co} {nm : ByteArray} (h : ¬ findI cols nm < 0) : ∃ k : Nat, findI cols nm = k ∧ k < cols.length := by
  have := idxP_bd (fun c : Co => c.name.toList == nm.toList) cols
  have h2 : findI cols nm < cols.length := this.2
  exact ⟨(findI cols nm).toNat, by omega, by omega⟩

set_option maxHeartbeats 1000000 in
set_option maxRecDepth 100000 in
theorem typed_calls (cols : List Co) (p : Pr) (ad : Option Addr) (cap : Nat) (w : World) (hr : RowAt w ad cols) :
    Calls Tryd.prog 40 #[.slice ad cols.length cap, p.v] w (Ret (.bool (typedP cols p)) w) := by
  have hB1 := (Below.refl w.heap.size w).alloc (Nat.le_refl _) (Obj.cells (encPr p).toArray 26)
  have hbig := hr.big
  have hP : typedP cols p = _ := typedP.eq_def cols p
  by_cases h0 : p.col.toList = []
  · rw [if_pos h0] at hP
    rw [hP]
    clear hP hr
    obtain ⟨op, col, cm, ⟨nl, i, str⟩, kd, pat, ka, kc, kids⟩ := p
    simp only [Pr.v, encPr, Pr.op, Pr.col, Pr.cmp, Pr.val, Pr.kind, Pr.pat, Pr.ka, Pr.kc, Pr.kids] at *
    go_enter Tryd.func40, Tryd.ntmps40
    go_wp2_with fail
    go_ret
    exact ⟨rfl, hB1⟩
  rw [if_neg h0] at hP
  have h0' : p.col.toList.isEmpty = false := by simpa using h0
  by_cases hi : findI cols p.col < 0
  · have hf := find_no (cap := cap) (hr.low hB1) hi
    have hv : typedP cols p = false := by rw [hP, typedV, if_pos hi]
    rw [hv]
    clear hP hv hr hi
    obtain ⟨op, col, cm, ⟨nl, i, str⟩, kd, pat, ka, kc, kids⟩ := p
    simp only [Pr.v, encPr, Pr.op, Pr.col, Pr.cmp, Pr.val, Pr.kind, Pr.pat, Pr.ka, Pr.kc, Pr.kids] at *
    go_enter Tryd.func40, Tryd.ntmps40
    go_wp2_with fail
    go_call hf as e w1 ⟨rfl, hb1⟩
    obtain ⟨hc1, hf1⟩ := bcell hb1
    go_wp2_with fail
    go_ret
    exact ⟨rfl, bnext hB1 hb1⟩
  obtain ⟨k, hk, hkl⟩ := find_col hi
  have hf := find_yes (cap := cap) (hr.low hB1) k hk
  have HK := Asd.mk hk
  have hrow := Asd.mk hr
  have hty : tyAt cols (findI cols p.col) = cols[k].ty := by rw [hk]; simp [tyAt, hkl]
  have hv : typedP cols p = typedW p.op p.kind cols[k].ty := by
    rw [hP, hty, typedV, if_neg hi]
  rw [hv]
  clear hP hv hr hi hty hk
  obtain ⟨b, off, rfl, hbl, hcs⟩ := hrow.out.at_ (by omega)
  have HC : Asd (∀ W, Below w.heap.size w W → W.cell? ⟨b, off + k * 3 + 1, none⟩ = some (.int .i64 cols[k].ty)) := ⟨fun W hW => (coCells (o := off + k * 3) hW hbl (hcs k hkl)).2.1⟩
  clear hcs hrow
  generalize cols[k].ty = ty at *
  obtain ⟨op, col, cm, ⟨nl, i, str⟩, kd, pat, ka, kc, kids⟩ := p
  simp only [Pr.v, encPr, Pr.op, Pr.col, Pr.cmp, Pr.val, Pr.kind, Pr.pat, Pr.ka, Pr.kc, Pr.kids] at *
  by_cases e2 : op = 2
  · subst e2
    rw [show typedW 2 kd ty = (ty == kd) from rfl]
    go_enter Tryd.func40, Tryd.ntmps40
    go_wp2_with fail
    go_call hf as e w1 ⟨rfl, hb1⟩
    obtain ⟨hc1, hf1⟩ := bcell hb1
    have hc2 := HC.out _ (bnext hB1 hb1)
    have hc0 := HC.out _ (Below.refl _ _)
    go_wp2_with fail
    go_region
    all_goals go_wp2_with fail
    all_goals go_ret
    all_goals exact ⟨rfl, by first | exact bnext hB1 hb1 | exact (bnext hB1 hb1).drew⟩
  have hw : typedW op kd ty = if op = 4 then ty == 3 else true := by rw [typedW, if_neg e2]
  rw [hw]
  clear hw
  have e2' : (op == 2) = false := by simpa using e2
  by_cases e4 : op = 4
  · subst e4
    clear e2'
    rw [if_pos rfl]
    go_enter Tryd.func40, Tryd.ntmps40
    go_wp2_with fail
    go_call hf as e w1 ⟨rfl, hb1⟩
    obtain ⟨hc1, hf1⟩ := bcell hb1
    have hc2 := HC.out _ (bnext hB1 hb1)
    have hc0 := HC.out _ (Below.refl _ _)
    go_wp2_with fail
    go_ret
    exact ⟨rfl, bnext hB1 hb1⟩
  · rw [if_neg e4]
    have e4' : (op == 4) = false := by simpa using e4
    go_enter Tryd.func40, Tryd.ntmps40
    go_wp2_with fail
    go_call hf as e w1 ⟨rfl, hb1⟩
    obtain ⟨hc1, hf1⟩ := bcell hb1
    go_wp2_with fail
    go_ret
    exact ⟨rfl, bnext hB1 hb1⟩

/-- A closure that holds the columns. -/
theorem fits1_calls (cols : List Co) (p : Pr) (ad : Option Addr) (cap : Nat) (b : Nat) (w : World) (hr : RowAt w ad cols) (hb : b < w.heap.size) (hc : w.cell? ⟨b, 0, none⟩ = some (.slice ad cols.length cap)) :
    Calls Tryd.prog 39 #[p.v, .pointer (some ⟨b, 0, none⟩)] w (Ret (.bool (typedP cols p)) w) := by
  have hB1 := (Below.refl w.heap.size w).alloc (Nat.le_refl _) (Obj.cells (encPr p).toArray 26)
  have ht := typed_calls cols p ad cap _ (hr.low hB1)
  clear hr
  generalize typedP cols p = r at *
  generalize cols.length = n at *
  have hne : b ≠ w.heap.size := by omega
  obtain ⟨op, col, cm, ⟨nl, i, str⟩, kd, pat, ka, kc, kids⟩ := p
  simp only [Pr.v, encPr, Pr.op, Pr.col, Pr.cmp, Pr.val, Pr.kind, Pr.pat, Pr.ka, Pr.kc, Pr.kids] at *
  go_enter Tryd.func39, Tryd.ntmps39
  go_wp2_with fail
  go_call ht as e w1 ⟨rfl, hb1⟩
  go_wp2_with fail
  go_ret
  exact ⟨rfl, bnext hB1 hb1⟩

def typedF (cols : List Co) (_ : Unit) (p : Pr) : Unit × Bool := ((), typedP cols p)
def typedN (cols : List Co) : Nat → Pr → Bool
  | 0, _ => false
  | d + 1, p => typedP cols p && p.kids.all (typedN cols d)
theorem typedN_every (cols : List Co) (d : Nat) : ∀ p, everyF (typedF cols) d p () = ((), typedN cols d p) := by
  induction d with
  | zero => intro p; rw [everyF, typedN]
  | succ d ih =>
    intro p
    have hK : ∀ l : List Pr, everyK (typedF cols) d l () = ((), l.all (typedN cols d)) := by
      intro l
      induction l with
      | nil => rw [everyK]; rfl
      | cons k r ihr =>
        rw [everyK, ih k, List.all_cons]
        cases typedN cols d k with
        | false => rfl
        | true => simpa using ihr
    rw [everyF, typedN]
    simp only [typedF]
    cases typedP cols p with
    | false => rfl
    | true => simpa using hK p.kids
end Go.Proofs.YthhjhlodgfdlgaaDoor
