import Derived.Test.YthhjhlodgfdlgaaDoorTextB
import Derived.Test.YthhjhlodgfdlgaaDoorWWords
set_option linter.unusedVariables false
set_option linter.unusedSimpArgs false
namespace Go.Proofs.YthhjhlodgfdlgaaDoor
open Go Go.RowKit Go.Proofs.YthhjhlodgfdlgaaDoorW.PrintWords

theorem info_str : (Tryd.prog.info? 9).map (fun i => (i.zero, i.size, i.bytes)) = some (some (.string ByteArray.empty), 1, 16) := by kernel_rfl
/-- A row of texts, the first k laid. -/
def rowT (ts : List ByteArray) (k : Nat) : Array Value := ((ts.take k ++ List.replicate (ts.length - k) ByteArray.empty).map Value.string).toArray
theorem rowT_0 (ts : List ByteArray) : madeCells #[.string ByteArray.empty] ts.length = rowT ts 0 := by
  apply Array.ext'
  apply List.ext_getElem
  · simp [rowT, madeCells]
  · intro i h1 h2
    simp [rowT, madeCells, Nat.mod_one]
theorem rowT_all (ts : List ByteArray) : rowT ts ts.length = (ts.map Value.string).toArray := by simp [rowT]
theorem rowT_set (ts : List ByteArray) (k : Nat) (h : k < ts.length) : (rowT ts k).setIfInBounds k (.string ts[k]) = rowT ts (k + 1) := by
  have e : ts.length - k = (ts.length - (k + 1)) + 1 := by omega
  simp only [rowT, e, List.replicate_succ]
  rw [List.take_succ_eq_append_getElem h]
  have e2 : (ts.take k).length = k := by simp; omega
  simp only [List.map_append, List.map_cons, List.map_nil, List.setIfInBounds_toArray, List.append_assoc]
  congr 1
  rw [List.set_append_right _ _ (by simp; omega)]
  simp [Nat.min_eq_left (Nat.le_of_lt h)]
theorem rowT_size (ts : List ByteArray) (k : Nat) (h : k ≤ ts.length) : (rowT ts k).size = ts.length := by
  simp [rowT]; omega
theorem rowT_get (ts : List ByteArray) (k : Nat) (h : k < ts.length) : (rowT ts k)[k]? = some (.string ByteArray.empty) := by
  have e : ts.length - k = (ts.length - (k + 1)) + 1 := by omega
  have e2 : (ts.take k).length = k := by simp; omega
  simp only [rowT, e, List.replicate_succ, List.map_append, List.map_cons]
  rw [List.getElem?_toArray, List.getElem?_append_right (by simp; omega)]
  simp [Nat.min_eq_left (Nat.le_of_lt h)]
def BlkT (W : World) (g : Nat) (ts : List ByteArray) (k : Nat) : Prop := W.heap[g]? = some (.cells (rowT ts k) 9 (0, 0))
theorem BlkT.low {W W' : World} {g k : Nat} {ts : List ByteArray} (h : BlkT W g ts k) {B : Nat} (hb : Below B W W') (hg : g < B) : BlkT W' g ts k := (hb.block g hg).trans h
theorem BlkT.lt {W : World} {g k : Nat} {ts : List ByteArray} (h : BlkT W g ts k) : g < W.heap.size := (Array.getElem?_eq_some_iff.1 h).1
theorem BlkT.cell {W : World} {g k : Nat} {ts : List ByteArray} (h : BlkT W g ts k) (o : Nat) : W.cell? ⟨g, o, none⟩ = (rowT ts k)[o]? := blkCell2 h o
theorem BlkT.frozen {W : World} {g k : Nat} {ts : List ByteArray} (h : BlkT W g ts k) (o : Nat) : W.frozen? ⟨g, o, none⟩ = false := by
  unfold BlkT at h
  simp [World.frozen?, h]
theorem BlkT.set {W : World} {g k : Nat} {ts : List ByteArray} (h : BlkT W g ts k) (hk : k < ts.length) : BlkT (W.setCell ⟨g, k, none⟩ (.string ts[k])) g ts (k + 1) := by
  unfold BlkT at h ⊢
  have e := rowT_set ts k hk
  simp [World.setCell, Array.getElem?_modify, h, e]
theorem BlkT.join {W : World} {g : Nat} {ts : List ByteArray} {sep : ByteArray} (h : BlkT W g ts ts.length) (hn : ts.length ≤ 20) (hz : (joinB ts sep).size ≤ 140737488355328) :
    Calls Tryd.prog 47 #[.slice (some ⟨g, 0, none⟩) ts.length ts.length, .string sep] W (Ret (.string (joinB ts sep)) W) :=
  Tryd.strings_Join g 0 ts.length ts sep W (fun j x hx => by
    rw [h.cell, rowT_all]
    simp [hx]) h.lt (by omega) (Nat.le_refl _) hz

def kidT (d : Nat) (op : Int) (k : Pr) : ByteArray := wrapB (textB d k) (op == 6 && k.op == 7)
def WithinOk (d : Nat) (w : World) (k : Pr) : Prop := ∀ W, Below w.heap.size w W → ∀ m, Calls Tryd.prog 49 #[k.v, .bool m] W (Ret (.string (wrapB (textB d k) m)) W)
set_option maxHeartbeats 4000000 in
set_option maxRecDepth 100000 in
theorem text_6 (d : Nat) (H : TextPost d) (hd : d ≤ 5) (p : Pr) (w : World) (hp : InPr w p) (hs : StdOk w) (ho : p.op = 6) (ht : TxtOk (d + 1) p) : Calls Tryd.prog 28 #[p.v] w (Ret (.string (textB (d + 1) p)) w) := by
  have hB1 := (Below.refl w.heap.size w).alloc (Nat.le_refl _) (Obj.cells (encPr p).toArray 26)
  have hr : textB (d + 1) p = joinB (p.kids.map (kidT d p.op)) andB := by
    rw [textB, if_neg (by omega), if_neg (by omega), if_neg (by omega), if_neg (by omega), if_neg (by omega), if_pos ho]
    rfl
  have hz := textB_size (d + 1) p hp.i64s ht
  have hbd := bnd_le (d + 1) (by omega)
  rw [hr] at hz ⊢
  have hlen := ht.2.2.2.1
  have hts : (p.kids.map (kidT d p.op)).length = p.kids.length := List.length_map ..
  have hget : Asd (∀ k (h : k < p.kids.length) (h2 : k < (p.kids.map (kidT d p.op)).length), (p.kids.map (kidT d p.op))[k] = kidT d p.op p.kids[k]) := ⟨fun k h h2 => by simp⟩
  have hrow := Asd.mk hp.row
  have hwi := Asd.mk (fun (k : Nat) (h : k < p.kids.length) => show WithinOk d w p.kids[k] from fun (W : World) (hW : Below w.heap.size w W) (m : Bool) =>
    within_of d H (by omega) p.kids[k] m W ((hp.all _ (List.getElem_mem h)).low hW) (hs.low hW) (ht.2.2.2.2.2.2.2 _ (List.getElem_mem h)))
  have hmk := fun W => print_make_of (P := Tryd.prog) 33 9 (.string ByteArray.empty) 16 Tryd.underlying33 info_str rfl (by decide) p.kids.length (by omega) W
  have e0 := rowT_0 (p.kids.map (kidT d p.op))
  rw [hts] at e0
  rw [e0] at hmk
  have hzj : (joinB (p.kids.map (kidT d p.op)) andB).size ≤ 140737488355328 := by omega
  clear hr hp hs ht H hz hbd e0
  generalize (p.kids.map (kidT d p.op)) = ts at *
  have HJ := Asd.mk (fun (W : World) (g : Nat) (h : BlkT W g ts ts.length) => h.join (by omega) hzj)
  clear hzj
  obtain ⟨op, col, cm, ⟨nl, i, str⟩, kd, pat, ka, kc, kids⟩ := p
  simp only [Pr.v, encPr, Pr.op, Pr.col, Pr.cmp, Pr.val, Pr.kind, Pr.pat, Pr.ka, Pr.kc, Pr.kids] at *
  subst ho
  go_enter Tryd.func28, Tryd.ntmps28
  go_wp2_with fail
  go_loopw [62] (fun u wr => ∃ k : Nat, u = .int .i64 k ∧ k ≤ kids.length ∧ Asd (BlkT wr (w.heap.size + 1) ts k) ∧ Asd (Below (w.heap.size + 1) (w.alloc (Obj.cells #[Value.int IntKind.i64 6, Value.string col, Value.int IntKind.i64 cm, Value.bool nl, Value.int IntKind.i64 i, Value.string str, Value.int IntKind.i64 kd, Value.string pat, Value.slice ka kids.length kc] 26)) wr)) (fun u _ => kids.length - (intOf u).toNat)
  case atStart => exact ⟨0, rfl, by omega, ⟨alloc_last2 _ _ _⟩, ⟨(Below.refl _ _).alloc (by simp) _⟩⟩
  case round =>
    obtain ⟨k, rfl, hk, hT, hB⟩ := hrel
    have hBw := hB1.trans (hB.out.mono (by omega))
    have hp1 := fun o => (bcell hB.out).1 w.heap.size o (by omega)
    have hwr1 : w.heap.size + 1 < wr.heap.size := hT.out.lt
    have hwr : w.heap.size < wr.heap.size := by omega
    by_cases hlt : k < kids.length
    · obtain ⟨b, off, rfl, hbl, hcs⟩ := hrow.out.at_ (by omega)
      obtain ⟨c0, c1, c2, c3, c4, c5, c6, c7, c8⟩ := prCells (o := off + k * 9) hBw hbl (hcs k hlt)
      have hwk := Asd.mk (hwi.out k hlt)
      have hgk := hget.out k hlt (by omega)
      clear hcs
      generalize kids[k] = y at *
      by_cases h7 : y.op = 7
      · have hgk := Asd.mk (show ts[k]'(by omega) = wrapB (textB d y) true from by rw [hgk, kidT, h7]; rfl)
        have hcall := fun W hW => hwk.out W hW true
        simp only [Pr.v, encPr, h7] at hcall
        have HC := Asd.mk hcall
        clear hcall hwk
        go_wp2_with fail
        go_call (HC.out _ (hBw.alloc hBw.size _)) as e w3 ⟨rfl, hb3⟩
        have hb3' := hb3.mono (B' := wr.heap.size) (by simp)
        have hB3 := hB.out.trans ((((Below.refl _ wr).alloc (Nat.le_refl _) _).trans hb3').mono (by omega))
        have hT3 := BlkT.low hT.out (((Below.refl _ wr).alloc (Nat.le_refl _) _).trans hb3') hwr1
        have hck : w3.cell? ⟨w.heap.size + 1, k, none⟩ = some (Value.string ByteArray.empty) := by rw [hT3.cell]; exact rowT_get ts k (by omega)
        have hfk := hT3.frozen k
        have hst := Asd.mk (hT3.set (k := k) (by omega))
        rw [hgk.out] at hst
        have HB3 := Asd.mk hB3
        clear hb3 hb3' hB3 hT3
        go_wp2_with fail
        go_roundw
        case rel => exact ⟨k + 1, by go_num, by omega, hst, ⟨HB3.out.setCell (Nat.le_refl _) _⟩⟩
        case measure => simp [intOf]; omega
      · have hgk := Asd.mk (show ts[k]'(by omega) = wrapB (textB d y) false from by rw [hgk, kidT, (show (y.op == 7) = false from by simpa using h7)]; rfl)
        have h7' : (y.op == 7) = false := by simpa using h7
        have hcall := fun W hW => hwk.out W hW false
        simp only [Pr.v, encPr] at hcall
        have HC := Asd.mk hcall
        clear hcall hwk
        go_wp2_with fail
        go_call (HC.out _ (hBw.alloc hBw.size _)) as e w3 ⟨rfl, hb3⟩
        have hb3' := hb3.mono (B' := wr.heap.size) (by simp)
        have hB3 := hB.out.trans ((((Below.refl _ wr).alloc (Nat.le_refl _) _).trans hb3').mono (by omega))
        have hT3 := BlkT.low hT.out (((Below.refl _ wr).alloc (Nat.le_refl _) _).trans hb3') hwr1
        have hck : w3.cell? ⟨w.heap.size + 1, k, none⟩ = some (Value.string ByteArray.empty) := by rw [hT3.cell]; exact rowT_get ts k (by omega)
        have hfk := hT3.frozen k
        have hst := Asd.mk (hT3.set (k := k) (by omega))
        rw [hgk.out] at hst
        have HB3 := Asd.mk hB3
        clear hb3 hb3' hB3 hT3
        go_wp2_with fail
        go_roundw
        case rel => exact ⟨k + 1, by go_num, by omega, hst, ⟨HB3.out.setCell (Nat.le_refl _) _⟩⟩
        case measure => simp [intOf]; omega
    · have hkk : k = ts.length := by omega
      have hj := HJ.out wr (w.heap.size + 1) (by rw [hkk] at hT; exact hT.out)
      rw [hts] at hj
      have hkk2 : k = kids.length := by omega
      have HBw := Asd.mk hBw
      clear hkk hBw
      go_wp2_with fail
      go_call hj as e w5 ⟨rfl, hb5⟩
      go_wp2_with fail
      go_ret
      exact ⟨rfl, bnext HBw.out hb5⟩

set_option maxHeartbeats 4000000 in
set_option maxRecDepth 100000 in
theorem text_7 (d : Nat) (H : TextPost d) (hd : d ≤ 5) (p : Pr) (w : World) (hp : InPr w p) (hs : StdOk w) (ho : p.op = 7) (ht : TxtOk (d + 1) p) : Calls Tryd.prog 28 #[p.v] w (Ret (.string (textB (d + 1) p)) w) := by
  have hB1 := (Below.refl w.heap.size w).alloc (Nat.le_refl _) (Obj.cells (encPr p).toArray 26)
  have hr : textB (d + 1) p = joinB (p.kids.map (kidT d p.op)) orB := by
    rw [textB, if_neg (by omega), if_neg (by omega), if_neg (by omega), if_neg (by omega), if_neg (by omega), if_neg (show ¬ p.op = 6 by omega)]
    rfl
  have hz := textB_size (d + 1) p hp.i64s ht
  have hbd := bnd_le (d + 1) (by omega)
  rw [hr] at hz ⊢
  have hlen := ht.2.2.2.1
  have hts : (p.kids.map (kidT d p.op)).length = p.kids.length := List.length_map ..
  have hget : Asd (∀ k (h : k < p.kids.length) (h2 : k < (p.kids.map (kidT d p.op)).length), (p.kids.map (kidT d p.op))[k] = kidT d p.op p.kids[k]) := ⟨fun k h h2 => by simp⟩
  have hrow := Asd.mk hp.row
  have hwi := Asd.mk (fun (k : Nat) (h : k < p.kids.length) => show WithinOk d w p.kids[k] from fun (W : World) (hW : Below w.heap.size w W) (m : Bool) =>
    within_of d H (by omega) p.kids[k] m W ((hp.all _ (List.getElem_mem h)).low hW) (hs.low hW) (ht.2.2.2.2.2.2.2 _ (List.getElem_mem h)))
  have hmk := fun W => print_make_of (P := Tryd.prog) 33 9 (.string ByteArray.empty) 16 Tryd.underlying33 info_str rfl (by decide) p.kids.length (by omega) W
  have e0 := rowT_0 (p.kids.map (kidT d p.op))
  rw [hts] at e0
  rw [e0] at hmk
  have hzj : (joinB (p.kids.map (kidT d p.op)) orB).size ≤ 140737488355328 := by omega
  clear hr hp hs ht H hz hbd e0
  generalize (p.kids.map (kidT d p.op)) = ts at *
  have HJ := Asd.mk (fun (W : World) (g : Nat) (h : BlkT W g ts ts.length) => h.join (by omega) hzj)
  clear hzj
  obtain ⟨op, col, cm, ⟨nl, i, str⟩, kd, pat, ka, kc, kids⟩ := p
  simp only [Pr.v, encPr, Pr.op, Pr.col, Pr.cmp, Pr.val, Pr.kind, Pr.pat, Pr.ka, Pr.kc, Pr.kids] at *
  subst ho
  go_enter Tryd.func28, Tryd.ntmps28
  go_wp2_with fail
  go_loopw [62] (fun u wr => ∃ k : Nat, u = .int .i64 k ∧ k ≤ kids.length ∧ Asd (BlkT wr (w.heap.size + 1) ts k) ∧ Asd (Below (w.heap.size + 1) (w.alloc (Obj.cells #[Value.int IntKind.i64 7, Value.string col, Value.int IntKind.i64 cm, Value.bool nl, Value.int IntKind.i64 i, Value.string str, Value.int IntKind.i64 kd, Value.string pat, Value.slice ka kids.length kc] 26)) wr)) (fun u _ => kids.length - (intOf u).toNat)
  case atStart => exact ⟨0, rfl, by omega, ⟨alloc_last2 _ _ _⟩, ⟨(Below.refl _ _).alloc (by simp) _⟩⟩
  case round =>
    obtain ⟨k, rfl, hk, hT, hB⟩ := hrel
    have hBw := hB1.trans (hB.out.mono (by omega))
    have hp1 := fun o => (bcell hB.out).1 w.heap.size o (by omega)
    have hwr1 : w.heap.size + 1 < wr.heap.size := hT.out.lt
    have hwr : w.heap.size < wr.heap.size := by omega
    by_cases hlt : k < kids.length
    · obtain ⟨b, off, rfl, hbl, hcs⟩ := hrow.out.at_ (by omega)
      obtain ⟨c0, c1, c2, c3, c4, c5, c6, c7, c8⟩ := prCells (o := off + k * 9) hBw hbl (hcs k hlt)
      have hwk := Asd.mk (hwi.out k hlt)
      have hgk := hget.out k hlt (by omega)
      clear hcs
      generalize kids[k] = y at *
      · have hgk := Asd.mk (show ts[k]'(by omega) = wrapB (textB d y) false from by rw [hgk, kidT]; rfl)
        have hcall := fun W hW => hwk.out W hW false
        simp only [Pr.v, encPr] at hcall
        have HC := Asd.mk hcall
        clear hcall hwk
        go_wp2_with fail
        go_call (HC.out _ (hBw.alloc hBw.size _)) as e w3 ⟨rfl, hb3⟩
        have hb3' := hb3.mono (B' := wr.heap.size) (by simp)
        have hB3 := hB.out.trans ((((Below.refl _ wr).alloc (Nat.le_refl _) _).trans hb3').mono (by omega))
        have hT3 := BlkT.low hT.out (((Below.refl _ wr).alloc (Nat.le_refl _) _).trans hb3') hwr1
        have hck : w3.cell? ⟨w.heap.size + 1, k, none⟩ = some (Value.string ByteArray.empty) := by rw [hT3.cell]; exact rowT_get ts k (by omega)
        have hfk := hT3.frozen k
        have hst := Asd.mk (hT3.set (k := k) (by omega))
        rw [hgk.out] at hst
        have HB3 := Asd.mk hB3
        clear hb3 hb3' hB3 hT3
        go_wp2_with fail
        go_roundw
        case rel => exact ⟨k + 1, by go_num, by omega, hst, ⟨HB3.out.setCell (Nat.le_refl _) _⟩⟩
        case measure => simp [intOf]; omega
    · have hkk : k = ts.length := by omega
      have hj := HJ.out wr (w.heap.size + 1) (by rw [hkk] at hT; exact hT.out)
      rw [hts] at hj
      have hkk2 : k = kids.length := by omega
      have HBw := Asd.mk hBw
      clear hkk hBw
      go_wp2_with fail
      go_call hj as e w5 ⟨rfl, hb5⟩
      go_wp2_with fail
      go_ret
      exact ⟨rfl, bnext HBw.out hb5⟩
end Go.Proofs.YthhjhlodgfdlgaaDoor
