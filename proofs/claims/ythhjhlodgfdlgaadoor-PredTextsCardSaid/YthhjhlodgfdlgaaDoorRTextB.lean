import Derived.Test.YthhjhlodgfdlgaaDoorRTextA
set_option linter.unusedVariables false
set_option linter.unusedSimpArgs false
namespace Go.Proofs.YthhjhlodgfdlgaaDoor
open Go Go.RowKit

def RTextOk (d : Nat) (w : World) (k : Pr) : Prop := ∀ W, Below w.heap.size w W → Calls Tryd.prog 29 #[k.v] W (Ret (.string (textB d k)) W)

set_option maxHeartbeats 4000000 in
set_option maxRecDepth 100000 in
theorem rtext_6 (d : Nat) (H : RTextPost d) (hd : d ≤ 5) (p : Pr) (w : World) (hp : InPr w p) (ho : p.op = 6) (ht : TxtOk (d + 1) p) : Calls Tryd.prog 29 #[p.v] w (Ret (.string (textB (d + 1) p)) w) := by
  have hB1 := (Below.refl w.heap.size w).alloc (Nat.le_refl _) (Obj.cells (encPr p).toArray 26)
  have hr : textB (d + 1) p = joinB (p.kids.map (kidT d p.op)) andB := by
    rw [textB, if_neg (by omega), if_neg (by omega), if_neg (by omega), if_neg (by omega), if_neg (by omega), if_pos ho]
    rfl
  rw [hr]
  have hlen := ht.2.2.2.1
  have hts : (p.kids.map (kidT d p.op)).length = p.kids.length := List.length_map ..
  have hget : Asd (∀ k (h : k < p.kids.length) (h2 : k < (p.kids.map (kidT d p.op)).length), (p.kids.map (kidT d p.op))[k] = kidT d p.op p.kids[k]) := ⟨fun k h h2 => by simp⟩
  have hrow := Asd.mk hp.row
  have hbd := bnd_le d (by omega)
  have hzk : ∀ k ∈ p.kids, (textB d k).size ≤ 4000000000 := fun k hk => by
    have := textB_size d k (hp.all k hk).i64s (ht.2.2.2.2.2.2.2 k hk)
    omega
  have hzt : ∀ x ∈ p.kids.map (kidT d p.op), x.size ≤ 4000000002 := by
    intro x hx
    obtain ⟨k, hk, rfl⟩ := List.mem_map.1 hx
    have h1 := hzk k hk
    have h2 := wrapB_size (textB d k) (p.op == 6 && k.op == 7)
    show (wrapB (textB d k) (p.op == 6 && k.op == 7)).size ≤ _
    omega
  have HZK := Asd.mk (fun (k : Nat) (h : k < p.kids.length) => hzk _ (List.getElem_mem h))
  have hzj : Asd (∀ k, k ≤ p.kids.length → (joinB ((p.kids.map (kidT d p.op)).take k) andB).size ≤ 90000000000) := ⟨fun k hk => by
    have h1 := joinB_size ((p.kids.map (kidT d p.op)).take k) andB 4000000002 (fun x hx => hzt x (List.mem_of_mem_take hx))
    have h2 : ((p.kids.map (kidT d p.op)).take k).length ≤ 20 := by simp; omega
    have h3 : andB.size ≤ 5 := by decide
    have h4 := Nat.mul_le_mul h2 (show 4000000002 + andB.size ≤ 4000000007 by omega)
    omega⟩
  have hwi := Asd.mk (fun (k : Nat) (h : k < p.kids.length) => show RTextOk d w p.kids[k] from fun (W : World) (hW : Below w.heap.size w W) =>
    H p.kids[k] W ((hp.all _ (List.getElem_mem h)).low hW) (ht.2.2.2.2.2.2.2 _ (List.getElem_mem h)))
  clear hr hp ht H hbd hzk hzt
  generalize (p.kids.map (kidT d p.op)) = ts at *
  have HTK := Asd.mk (joinB_take ts andB)
  have HFIN : Asd (∀ k, k = ts.length → joinB (ts.take k) andB = joinB ts andB) := ⟨fun k h => by rw [h, List.take_length]⟩
  have H00 : Asd (⟨#[]⟩ = joinB (ts.take 0) andB) := ⟨rfl⟩
  obtain ⟨op, col, cm, ⟨nl, i, str⟩, kd, pat, ka, kc, kids⟩ := p
  simp only [Pr.v, encPr, Pr.op, Pr.col, Pr.cmp, Pr.val, Pr.kind, Pr.pat, Pr.ka, Pr.kc, Pr.kids] at *
  subst ho
  go_enter Tryd.func29, Tryd.ntmps29
  go_wp2_with fail
  go_loopw [4, 5] (fun s u wr => ∃ (k : Nat) (z : ByteArray), u = .int .i64 k ∧ s = .string z ∧ k ≤ kids.length ∧ Asd (z = joinB (ts.take k) andB) ∧ Asd (Below (w.heap.size + 1) (w.alloc (Obj.cells #[Value.int IntKind.i64 6, Value.string col, Value.int IntKind.i64 cm, Value.bool nl, Value.int IntKind.i64 i, Value.string str, Value.int IntKind.i64 kd, Value.string pat, Value.slice ka kids.length kc] 26)) wr)) (fun _ u _ => kids.length - (intOf u).toNat)
  case atStart => exact ⟨0, _, rfl, rfl, by omega, H00, ⟨Below.refl _ _⟩⟩
  case round =>
    obtain ⟨k, z, rfl, rfl, hk, hJ, hB⟩ := hrel
    have hzz : z.size ≤ 90000000000 := by rw [hJ.out]; exact hzj.out k hk
    have hBw := hB1.trans (hB.out.mono (by omega))
    have hp1 := fun o => (bcell hB.out).1 w.heap.size o (by omega)
    have hwr : w.heap.size < wr.heap.size := by have := hB.out.size; simp at this; omega
    by_cases hlt : k < kids.length
    · obtain ⟨b, off, rfl, hbl, hcs⟩ := hrow.out.at_ (by omega)
      obtain ⟨c0, c1, c2, c3, c4, c5, c6, c7, c8⟩ := prCells (o := off + k * 9) hBw hbl (hcs k hlt)
      have hwk := Asd.mk (hwi.out k hlt)
      have hgk := hget.out k hlt (by omega)
      have hzy := HZK.out k hlt
      have htk := HTK.out k (by omega)
      rw [← hJ.out, hgk, kidT] at htk
      clear hcs hgk
      generalize kids[k] = y at *
      generalize hyt : textB d y = t at *
      have hcall := fun W hW => hwk.out W hW
      simp only [Pr.v, encPr] at hcall
      rw [hyt] at hcall
      have HC := Asd.mk hcall
      clear hcall hwk hyt
      generalize y.op = yo at *
      by_cases hk0 : k = 0
      · rw [if_pos hk0] at htk
        have hz0 : z = ⟨#[]⟩ := by rw [hJ.out, hk0]; rfl
        subst hz0
        have hkp : ¬ 0 < k := by omega
        have HK0 := Asd.mk hk0
        clear hk0
        by_cases h7 : yo = 7
        · subst h7
          have HTK2 := Asd.mk htk
          clear htk
          go_wp2_with fail
          go_call (HC.out _ hBw) as e w1 ⟨rfl, hb1⟩
          obtain ⟨hc1, hf1⟩ := bcell hb1
          have hbl2 : b < wr.heap.size := by omega
          go_wp2_with fail
          all_goals try (exfalso; omega)
          go_roundw
          case rel => exact ⟨k + 1, _, by go_num, rfl, by omega, ⟨by rw [HTK2.out]; first | rfl | simp [wrapB, andB, orB]⟩, ⟨hB.out.trans (hb1.mono hwr)⟩⟩
          case measure => simp [intOf]; omega
        · have h7' : (yo == 7) = false := by simpa using h7
          rw [h7'] at htk
          have HTK2 := Asd.mk htk
          clear htk
          go_wp2_with fail
          go_call (HC.out _ hBw) as e w1 ⟨rfl, hb1⟩
          obtain ⟨hc1, hf1⟩ := bcell hb1
          have hbl2 : b < wr.heap.size := by omega
          go_wp2_with fail
          all_goals try (exfalso; omega)
          go_roundw
          case rel => exact ⟨k + 1, _, by go_num, rfl, by omega, ⟨by rw [HTK2.out]; first | rfl | simp [wrapB, andB, orB]⟩, ⟨hB.out.trans (hb1.mono hwr)⟩⟩
          case measure => simp [intOf]; omega
      · have hkp : 0 < k := by omega
        rw [if_neg hk0] at htk
        by_cases h7 : yo = 7
        · subst h7
          have HTK2 := Asd.mk htk
          clear htk
          go_wp2_with fail
          go_call (HC.out _ hBw) as e w1 ⟨rfl, hb1⟩
          obtain ⟨hc1, hf1⟩ := bcell hb1
          have hbl2 : b < wr.heap.size := by omega
          go_wp2_with fail
          all_goals try (exfalso; omega)
          go_roundw
          case rel => exact ⟨k + 1, _, by go_num, rfl, by omega, ⟨by rw [HTK2.out]; first | rfl | simp [wrapB, andB, orB]⟩, ⟨hB.out.trans (hb1.mono hwr)⟩⟩
          case measure => simp [intOf]; omega
        · have h7' : (yo == 7) = false := by simpa using h7
          rw [h7'] at htk
          have HTK2 := Asd.mk htk
          clear htk
          go_wp2_with fail
          go_call (HC.out _ hBw) as e w1 ⟨rfl, hb1⟩
          obtain ⟨hc1, hf1⟩ := bcell hb1
          have hbl2 : b < wr.heap.size := by omega
          go_wp2_with fail
          all_goals try (exfalso; omega)
          go_roundw
          case rel => exact ⟨k + 1, _, by go_num, rfl, by omega, ⟨by rw [HTK2.out]; first | rfl | simp [wrapB, andB, orB]⟩, ⟨hB.out.trans (hb1.mono hwr)⟩⟩
          case measure => simp [intOf]; omega
    · have hfin := HFIN.out k (by omega)
      rw [← hJ.out] at hfin
      have HF := Asd.mk hfin
      clear hfin
      have HBw := Asd.mk hBw
      clear hBw
      go_wp2_with fail
      go_ret
      exact ⟨by rw [← HF.out]; rfl, HBw.out⟩

set_option maxHeartbeats 4000000 in
set_option maxRecDepth 100000 in
theorem rtext_7 (d : Nat) (H : RTextPost d) (hd : d ≤ 5) (p : Pr) (w : World) (hp : InPr w p) (ho : p.op = 7) (ht : TxtOk (d + 1) p) : Calls Tryd.prog 29 #[p.v] w (Ret (.string (textB (d + 1) p)) w) := by
  have hB1 := (Below.refl w.heap.size w).alloc (Nat.le_refl _) (Obj.cells (encPr p).toArray 26)
  have hr : textB (d + 1) p = joinB (p.kids.map (kidT d p.op)) orB := by
    rw [textB, if_neg (by omega), if_neg (by omega), if_neg (by omega), if_neg (by omega), if_neg (by omega), if_neg (show ¬ p.op = 6 by omega)]
    rfl
  rw [hr]
  have hlen := ht.2.2.2.1
  have hts : (p.kids.map (kidT d p.op)).length = p.kids.length := List.length_map ..
  have hget : Asd (∀ k (h : k < p.kids.length) (h2 : k < (p.kids.map (kidT d p.op)).length), (p.kids.map (kidT d p.op))[k] = kidT d p.op p.kids[k]) := ⟨fun k h h2 => by simp⟩
  have hrow := Asd.mk hp.row
  have hbd := bnd_le d (by omega)
  have hzk : ∀ k ∈ p.kids, (textB d k).size ≤ 4000000000 := fun k hk => by
    have := textB_size d k (hp.all k hk).i64s (ht.2.2.2.2.2.2.2 k hk)
    omega
  have hzt : ∀ x ∈ p.kids.map (kidT d p.op), x.size ≤ 4000000002 := by
    intro x hx
    obtain ⟨k, hk, rfl⟩ := List.mem_map.1 hx
    have h1 := hzk k hk
    have h2 := wrapB_size (textB d k) (p.op == 6 && k.op == 7)
    show (wrapB (textB d k) (p.op == 6 && k.op == 7)).size ≤ _
    omega
  have HZK := Asd.mk (fun (k : Nat) (h : k < p.kids.length) => hzk _ (List.getElem_mem h))
  have hzj : Asd (∀ k, k ≤ p.kids.length → (joinB ((p.kids.map (kidT d p.op)).take k) orB).size ≤ 90000000000) := ⟨fun k hk => by
    have h1 := joinB_size ((p.kids.map (kidT d p.op)).take k) orB 4000000002 (fun x hx => hzt x (List.mem_of_mem_take hx))
    have h2 : ((p.kids.map (kidT d p.op)).take k).length ≤ 20 := by simp; omega
    have h3 : orB.size ≤ 5 := by decide
    have h4 := Nat.mul_le_mul h2 (show 4000000002 + orB.size ≤ 4000000007 by omega)
    omega⟩
  have hwi := Asd.mk (fun (k : Nat) (h : k < p.kids.length) => show RTextOk d w p.kids[k] from fun (W : World) (hW : Below w.heap.size w W) =>
    H p.kids[k] W ((hp.all _ (List.getElem_mem h)).low hW) (ht.2.2.2.2.2.2.2 _ (List.getElem_mem h)))
  clear hr hp ht H hbd hzk hzt
  generalize (p.kids.map (kidT d p.op)) = ts at *
  have HTK := Asd.mk (joinB_take ts orB)
  have HFIN : Asd (∀ k, k = ts.length → joinB (ts.take k) orB = joinB ts orB) := ⟨fun k h => by rw [h, List.take_length]⟩
  have H00 : Asd (⟨#[]⟩ = joinB (ts.take 0) orB) := ⟨rfl⟩
  obtain ⟨op, col, cm, ⟨nl, i, str⟩, kd, pat, ka, kc, kids⟩ := p
  simp only [Pr.v, encPr, Pr.op, Pr.col, Pr.cmp, Pr.val, Pr.kind, Pr.pat, Pr.ka, Pr.kc, Pr.kids] at *
  subst ho
  go_enter Tryd.func29, Tryd.ntmps29
  go_wp2_with fail
  go_loopw [4, 5] (fun s u wr => ∃ (k : Nat) (z : ByteArray), u = .int .i64 k ∧ s = .string z ∧ k ≤ kids.length ∧ Asd (z = joinB (ts.take k) orB) ∧ Asd (Below (w.heap.size + 1) (w.alloc (Obj.cells #[Value.int IntKind.i64 7, Value.string col, Value.int IntKind.i64 cm, Value.bool nl, Value.int IntKind.i64 i, Value.string str, Value.int IntKind.i64 kd, Value.string pat, Value.slice ka kids.length kc] 26)) wr)) (fun _ u _ => kids.length - (intOf u).toNat)
  case atStart => exact ⟨0, _, rfl, rfl, by omega, H00, ⟨Below.refl _ _⟩⟩
  case round =>
    obtain ⟨k, z, rfl, rfl, hk, hJ, hB⟩ := hrel
    have hzz : z.size ≤ 90000000000 := by rw [hJ.out]; exact hzj.out k hk
    have hBw := hB1.trans (hB.out.mono (by omega))
    have hp1 := fun o => (bcell hB.out).1 w.heap.size o (by omega)
    have hwr : w.heap.size < wr.heap.size := by have := hB.out.size; simp at this; omega
    by_cases hlt : k < kids.length
    · obtain ⟨b, off, rfl, hbl, hcs⟩ := hrow.out.at_ (by omega)
      obtain ⟨c0, c1, c2, c3, c4, c5, c6, c7, c8⟩ := prCells (o := off + k * 9) hBw hbl (hcs k hlt)
      have hwk := Asd.mk (hwi.out k hlt)
      have hgk := hget.out k hlt (by omega)
      have hzy := HZK.out k hlt
      have htk := HTK.out k (by omega)
      rw [← hJ.out, hgk, kidT] at htk
      clear hcs hgk
      generalize kids[k] = y at *
      generalize hyt : textB d y = t at *
      have hcall := fun W hW => hwk.out W hW
      simp only [Pr.v, encPr] at hcall
      rw [hyt] at hcall
      have HC := Asd.mk hcall
      clear hcall hwk hyt
      generalize y.op = yo at *
      by_cases hk0 : k = 0
      · rw [if_pos hk0] at htk
        have hz0 : z = ⟨#[]⟩ := by rw [hJ.out, hk0]; rfl
        subst hz0
        have hkp : ¬ 0 < k := by omega
        have HK0 := Asd.mk hk0
        clear hk0
        have HTK2 := Asd.mk htk
        clear htk
        go_wp2_with fail
        go_call (HC.out _ hBw) as e w1 ⟨rfl, hb1⟩
        obtain ⟨hc1, hf1⟩ := bcell hb1
        have hbl2 : b < wr.heap.size := by omega
        go_wp2_with fail
        all_goals try (exfalso; omega)
        go_roundw
        case rel => exact ⟨k + 1, _, by go_num, rfl, by omega, ⟨by rw [HTK2.out]; first | rfl | simp [wrapB, andB, orB]⟩, ⟨hB.out.trans (hb1.mono hwr)⟩⟩
        case measure => simp [intOf]; omega
      · have hkp : 0 < k := by omega
        rw [if_neg hk0] at htk
        have HTK2 := Asd.mk htk
        clear htk
        go_wp2_with fail
        go_call (HC.out _ hBw) as e w1 ⟨rfl, hb1⟩
        obtain ⟨hc1, hf1⟩ := bcell hb1
        have hbl2 : b < wr.heap.size := by omega
        go_wp2_with fail
        all_goals try (exfalso; omega)
        go_roundw
        case rel => exact ⟨k + 1, _, by go_num, rfl, by omega, ⟨by rw [HTK2.out]; first | rfl | simp [wrapB, andB, orB]⟩, ⟨hB.out.trans (hb1.mono hwr)⟩⟩
        case measure => simp [intOf]; omega
    · have hfin := HFIN.out k (by omega)
      rw [← hJ.out] at hfin
      have HF := Asd.mk hfin
      clear hfin
      have HBw := Asd.mk hBw
      clear hBw
      go_wp2_with fail
      go_ret
      exact ⟨by rw [← HF.out]; rfl, HBw.out⟩
end Go.Proofs.YthhjhlodgfdlgaaDoor
