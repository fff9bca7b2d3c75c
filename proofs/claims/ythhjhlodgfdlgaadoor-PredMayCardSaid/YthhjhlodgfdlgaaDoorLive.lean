import Derived.Test.YthhjhlodgfdlgaaDoorText
import Derived.Test.YthhjhlodgfdlgaaDoorPlain2
import Derived.Test.YthhjhlodgfdlgaaDoorRTextA
set_option linter.unusedVariables false
set_option linter.unusedSimpArgs false
namespace Go.Proofs.YthhjhlodgfdlgaaDoor
open Go Go.RowKit

theorem flat_get : ∀ (xs : List Pr) (j : Nat) (hj : j < xs.length) (i : Nat), i < 9 → (xs.flatMap encPr)[j * 9 + i]? = (encPr xs[j])[i]? := by
  intro xs
  induction xs with
  | nil => intro j hj; simp at hj
  | cons x r ih =>
    intro j hj i hi
    have hl : (encPr x).length = 9 := rfl
    rw [List.flatMap_cons]
    cases j with
    | zero => rw [List.getElem?_append_left (by omega)]; simp
    | succ j =>
      rw [List.getElem?_append_right (by omega), show (j + 1) * 9 + i - (encPr x).length = j * 9 + i by omega]
      rw [ih j (by simpa using hj) i hi]
      rfl
theorem row_of_block {W : World} {b : Nat} {xs : List Pr} {cs : Array Value} {t : TypeId} {fr : Nat × Nat} (h : W.heap[b]? = some (.cells cs t fr)) (hc : cs = (xs.flatMap encPr).toArray) (hl : xs.length ≤ 100) : RowAt W (some ⟨b, 0, none⟩) xs := by
  subst hc
  refine ⟨by omega, fun _ => ⟨b, 0, rfl, (Array.getElem?_eq_some_iff.1 h).1, fun j hj i v hv => ?_⟩⟩
  have hi : i < 9 := by
    have := (List.getElem?_eq_some_iff.1 hv).1
    exact this
  rw [blkCell2 h, List.getElem?_toArray, Nat.zero_add]
  rw [show j * Enc.sz Pr + i = j * 9 + i from rfl, flat_get xs j hj i hi]
  exact hv
theorem row_nil (W : World) : RowAt W none ([] : List Pr) := ⟨by simp, fun h => by simp at h⟩

def lvLike : Pr := .mk 4 ⟨#[99]⟩ 0 ⟨false, 0, ⟨#[]⟩⟩ 0 ⟨#[120, 37]⟩ none 0 []
def lvNot (n : Nat) : Pr := .mk 5 ⟨#[]⟩ 0 ⟨false, 0, ⟨#[]⟩⟩ 0 ⟨#[]⟩ (some ⟨n + 1, 0, none⟩) 1 [lvLike]
def lvNull : Pr := .mk 3 ⟨#[98]⟩ 0 ⟨false, 0, ⟨#[]⟩⟩ 0 ⟨#[]⟩ none 0 []
def lvLess : Pr := .mk 2 ⟨#[97]⟩ 3 ⟨false, 5, ⟨#[]⟩⟩ 1 ⟨#[]⟩ none 0 []
def lvOr (n : Nat) : Pr := .mk 7 ⟨#[]⟩ 0 ⟨false, 0, ⟨#[]⟩⟩ 0 ⟨#[]⟩ (some ⟨n + 1 + 1 + 1, 0, none⟩) 2 [lvNull, lvNot n]
def lvAnd (n : Nat) : Pr := .mk 6 ⟨#[]⟩ 0 ⟨false, 0, ⟨#[]⟩⟩ 0 ⟨#[]⟩ (some ⟨n + 1 + 1 + 1 + 1, 0, none⟩) 2 [lvLess, lvOr n]
def lvW (w : World) : World := (((((w.alloc (.cells (encPr lvLess).toArray 26)).alloc (.cells (encPr lvLike).toArray 26)).alloc (.cells (encPr (lvNot w.heap.size)).toArray 26)).alloc
  (.cells (encPr lvNull ++ encPr (lvNot w.heap.size)).toArray 26)).alloc (.cells (encPr lvLess ++ encPr (lvOr w.heap.size)).toArray 26)).alloc (.cells (encPr (lvAnd w.heap.size)).toArray 26)

theorem lvW_below (w : World) : Below w.heap.size w (lvW w) :=
  ((((((Below.refl w.heap.size w).alloc (by omega) _).alloc (by simp) _).alloc (by simp; omega) _).alloc (by simp; omega) _).alloc (by simp; omega) _).alloc (by simp; omega) _
theorem lvW_1 (w : World) : (lvW w).heap[w.heap.size + 1]? = some (.cells (encPr lvLike).toArray 26) := by
  show ((((((w.heap.push _).push _).push _).push _).push _).push _)[_]? = _
  simp only [Array.getElem?_push, Array.size_push]
  repeat (rw [if_neg (by omega)])
  simp
theorem lvW_3 (w : World) : (lvW w).heap[w.heap.size + 1 + 1 + 1]? = some (.cells (encPr lvNull ++ encPr (lvNot w.heap.size)).toArray 26) := by
  show ((((((w.heap.push _).push _).push _).push _).push _).push _)[_]? = _
  simp only [Array.getElem?_push, Array.size_push]
  repeat (rw [if_neg (by omega)])
  simp
theorem lvW_4 (w : World) : (lvW w).heap[w.heap.size + 1 + 1 + 1 + 1]? = some (.cells (encPr lvLess ++ encPr (lvOr w.heap.size)).toArray 26) := by
  show ((((((w.heap.push _).push _).push _).push _).push _).push _)[_]? = _
  simp only [Array.getElem?_push, Array.size_push]
  repeat (rw [if_neg (by omega)])
  simp
theorem lv_fine (op cm i kd : Int) (a b c : ByteArray) (nl : Bool) (ka : Option Addr) (kc : Nat) (ks : List Pr) (h : (0 ≤ op ∧ op ≤ 9) ∧ (0 ≤ cm ∧ cm ≤ 9) ∧ (0 ≤ i ∧ i ≤ 9) ∧ (0 ≤ kd ∧ kd ≤ 9) ∧ a.size ≤ 9 ∧ b.size ≤ 9 ∧ c.size ≤ 9) :
    Fine (.mk op a cm ⟨nl, i, b⟩ kd c ka kc ks) := by
  obtain ⟨h1, h2, h3, h4, h5, h6, h7⟩ := h
  refine ⟨?_, ?_, ?_, ?_, ?_, ?_, ?_⟩ <;> simp only [i64, Pr.op, Pr.col, Pr.cmp, Pr.val, Pr.kind, Pr.pat] <;> omega
theorem lv_in (w : World) : InPr (lvW w) (lvAnd w.heap.size) := by
  have hlike : InPr (lvW w) lvLike := .mk _ (lv_fine _ _ _ _ _ _ _ _ _ _ _ (by decide)) (row_nil _) (by intro k hk; simp [lvLike, Pr.kids] at hk)
  have hnull : InPr (lvW w) lvNull := .mk _ (lv_fine _ _ _ _ _ _ _ _ _ _ _ (by decide)) (row_nil _) (by intro k hk; simp [lvNull, Pr.kids] at hk)
  have hless : InPr (lvW w) lvLess := .mk _ (lv_fine _ _ _ _ _ _ _ _ _ _ _ (by decide)) (row_nil _) (by intro k hk; simp [lvLess, Pr.kids] at hk)
  have hnot : InPr (lvW w) (lvNot w.heap.size) := .mk _ (lv_fine _ _ _ _ _ _ _ _ _ _ _ (by decide)) (row_of_block (lvW_1 w) rfl (by change 1 ≤ 100; omega)) (by
    intro k hk
    simp only [lvNot, Pr.kids, List.mem_singleton] at hk
    subst hk; exact hlike)
  have hor : InPr (lvW w) (lvOr w.heap.size) := .mk _ (lv_fine _ _ _ _ _ _ _ _ _ _ _ (by decide)) (row_of_block (lvW_3 w) rfl (by change 2 ≤ 100; omega)) (by
    intro k hk
    simp only [lvOr, Pr.kids, List.mem_cons, List.not_mem_nil, or_false] at hk
    rcases hk with rfl | rfl
    · exact hnull
    · exact hnot)
  exact .mk _ (lv_fine _ _ _ _ _ _ _ _ _ _ _ (by decide)) (row_of_block (lvW_4 w) rfl (by change 2 ≤ 100; omega)) (by
    intro k hk
    simp only [lvAnd, Pr.kids, List.mem_cons, List.not_mem_nil, or_false] at hk
    rcases hk with rfl | rfl
    · exact hless
    · exact hor)

theorem nameB_one (x : UInt8) (h : 97 ≤ x.toNat ∧ x.toNat ≤ 122) : nameB ⟨#[x]⟩ = true := by
  have e : (⟨#[x]⟩ : ByteArray).toList = [x] := by rw [Go.Lib.toList_data]
  have e2 : (⟨#[x]⟩ : ByteArray).size = 1 := rfl
  have hw : wordB ⟨#[x]⟩ = false := by simp [wordB, words, e]
  have hs : nameScan ⟨#[x]⟩ = true := nameScan_true (fun j hj => by
    have : j = 0 := by omega
    subst this
    have e3 : (⟨#[x]⟩ : ByteArray)[0]'hj = x := rfl
    simp [okAt, e2, e3, letterN, h])
  simp [nameB, e2, hw, hs]
theorem lv_good (n : Nat) : goodP 6 (lvAnd n) = true := by
  have na := nameB_one 97 (by decide)
  have nb := nameB_one 98 (by decide)
  have nc := nameB_one 99 (by decide)
  simp [goodP, lvAnd, lvOr, lvLess, lvNot, lvNull, lvLike, fieldsP, kidsP, listP, flatP, barePr, Pr.op, Pr.col, Pr.cmp, Pr.val, Pr.kind, Pr.pat, Pr.kids, na, nb, nc, mayC]
  decide
theorem lv_nodes (n : Nat) : nodesP 6 (lvAnd n) = 6 := by
  simp [nodesP, nodesK, lvAnd, lvOr, lvLess, lvNot, lvNull, lvLike, Pr.kids]
theorem lv_small (n : Nat) : smallF 9 (lvAnd n) = true := by
  have e0 : (⟨#[]⟩ : ByteArray).size = 0 := rfl
  have e1 : (⟨#[97]⟩ : ByteArray).size = 1 := rfl
  have e2 : (⟨#[98]⟩ : ByteArray).size = 1 := rfl
  have e3 : (⟨#[99]⟩ : ByteArray).size = 1 := rfl
  have e4 : (⟨#[120, 37]⟩ : ByteArray).size = 2 := rfl
  simp [smallF, lvAnd, lvOr, lvLess, lvNot, lvNull, lvLike, Pr.col, Pr.pat, Pr.val, Pr.kids, e0, e1, e2, e3, e4]
theorem lv_may (n : Nat) : mayP (lvAnd n) = true := by
  have h1 := (every_good 6 (lvAnd n) 0 (by omega)).1
  rw [show ((0 : Nat) : Int) = 0 from rfl] at h1
  rw [mayP, h1, lv_good, lv_nodes]
  rfl
def lvText : ByteArray := ⟨#[97, 32, 60, 32, 53, 32, 97, 110, 100, 32, 40, 98, 32, 105, 115, 32, 110, 117, 108, 108, 32, 111, 114, 32, 110, 111, 116, 32, 99, 32, 108, 105, 107, 101, 32, 39, 120, 37, 39, 41]⟩
theorem lv_text (n : Nat) : textB 6 (lvAnd n) = lvText := by
  have e5 : digB 5 = ⟨#[53]⟩ := by simp [digB, Lib.itoa, decDigits_last]
  have h1 : textB 5 lvLess = ⟨#[97, 32, 60, 32, 53]⟩ := by
    simp only [textB, lvLess, Pr.op, Pr.col, Pr.cmp, Pr.val, Pr.kind, valueB, e5]
    decide
  have h4 : textB 3 lvLike = ⟨#[99, 32, 108, 105, 107, 101, 32, 39, 120, 37, 39]⟩ := by
    decide
  have h3 : textB 4 lvNull = ⟨#[98, 32, 105, 115, 32, 110, 117, 108, 108]⟩ := by
    decide
  have h5 : textB 4 (lvNot n) = ⟨#[110, 111, 116, 32, 99, 32, 108, 105, 107, 101, 32, 39, 120, 37, 39]⟩ := by
    show ⟨#[110, 111, 116, 32]⟩ ++ wrapB (textB 3 lvLike) false = _
    rw [h4]
    decide
  have h6 : textB 5 (lvOr n) = ⟨#[98, 32, 105, 115, 32, 110, 117, 108, 108, 32, 111, 114, 32, 110, 111, 116, 32, 99, 32, 108, 105, 107, 101, 32, 39, 120, 37, 39]⟩ := by
    show joinB [wrapB (textB 4 lvNull) false, wrapB (textB 4 (lvNot n)) false] orB = _
    rw [h3, h5]
    decide
  show joinB [wrapB (textB 5 lvLess) false, wrapB (textB 5 (lvOr n)) true] andB = _
  rw [h1, h6]
  decide

set_option maxHeartbeats 4000000 in
set_option maxRecDepth 100000 in
theorem live_calls (w : World) (hs : StdOk w) : Calls Tryd.prog 7 #[] w (Ret (.bool true) w) := by
  have hc := predText_calls (lvAnd w.heap.size) (lvW w) (lv_in w) (hs.low (lvW_below w)) (fun h => may_txt _ (lv_small _) h)
  rw [predTextB, lv_may, if_pos rfl, lv_text] at hc
  have HB := Asd.mk (lvW_below w)
  have hc2 := hc.mono (R' := fun e W' => e = .returned (.string lvText) ∧ Asd (Below w.heap.size w W')) (fun e W' ⟨h1, h2⟩ => ⟨h1, ⟨HB.out.trans (h2.mono HB.out.size)⟩⟩)
  clear hc hs HB
  simp only [lvW, lvAnd, lvOr, lvLess, lvNot, lvNull, lvLike, Pr.v, encPr, Pr.op, Pr.col, Pr.cmp, Pr.val, Pr.kind, Pr.pat, Pr.ka, Pr.kc, Pr.kids, List.cons_append, List.nil_append, List.length_cons, List.length_nil, lvText] at hc2
  go_enter Tryd.func7, Tryd.ntmps7
  go_wp2_with fail
  go_call hc2 as e w1 ⟨rfl, hB⟩
  go_wp2_with fail
  go_ret
  exact ⟨rfl, hB.out⟩
end Go.Proofs.YthhjhlodgfdlgaaDoor
