import Derived.Test.YthhjhlodgfdlgaaDoorKids
set_option linter.unusedVariables false
set_option linter.unusedSimpArgs false
namespace Go.Proofs.YthhjhlodgfdlgaaDoor
open Go Go.RowKit

mutual
def sizeF (d : Nat) (most : Int) (p : Pr) : Int :=
  match d with
  | 0 => 17
  | d + 1 => if most < 1 then 17 else sizeK d most p.kids 1
def sizeK (d : Nat) (most : Int) (l : List Pr) (n : Int) : Int :=
  match l with
  | [] => n
  | k :: r => if n ≤ 16 then sizeK d most r (n + sizeF d (most - n) k) else n
end
theorem sizeF_bd (d : Nat) : ∀ (most : Int) (p : Pr), 1 ≤ sizeF d most p ∧ sizeF d most p ≤ 17 + 17 * d := by
  induction d with
  | zero => intro most p; simp [sizeF]
  | succ d ih =>
    intro most p
    have hk : ∀ (l : List Pr) (n : Int), 1 ≤ n → n ≤ 17 + 17 * (d + 1 : Nat) → 1 ≤ sizeK d most l n ∧ sizeK d most l n ≤ 17 + 17 * (d + 1 : Nat) := by
      intro l
      induction l with
      | nil => intro n h1 h2; rw [sizeK]; exact ⟨h1, h2⟩
      | cons k r ihr =>
        intro n h1 h2
        rw [sizeK]
        have := ih (most - n) k
        split
        · exact ihr _ (by omega) (by omega)
        · exact ⟨h1, h2⟩
    rw [sizeF]
    split
    · omega
    · exact hk _ _ (by omega) (by omega)
theorem sizeK_drop (d : Nat) (most : Int) (l : List Pr) (k : Nat) (h : k < l.length) (n : Int) : sizeK d most (l.drop k) n = if n ≤ 16 then sizeK d most (l.drop (k + 1)) (n + sizeF d (most - n) l[k]) else n := by
  rw [List.drop_eq_getElem_cons h, sizeK]

set_option maxHeartbeats 1000000 in
set_option maxRecDepth 100000 in
theorem refSize_calls (d : Nat) : ∀ (most : Int) (p : Pr) (w : World), InPr w p → d ≤ 10 → -2000 + 130 * d ≤ most → most ≤ 1000 → Calls Tryd.prog 30 #[p.v, .int .i64 most, .int .i64 d] w (Ret (.int .i64 (sizeF d most p)) w) := by
  induction d with
  | zero =>
    intro most p w hp _ _ _
    rw [sizeF]
    obtain ⟨op, col, cm, ⟨nl, i, str⟩, kd, pat, ka, kc, kids⟩ := p
    clear hp
    simp only [Pr.v, encPr, Pr.op, Pr.col, Pr.cmp, Pr.val, Pr.kind, Pr.pat, Pr.ka, Pr.kc, Pr.kids]
    go_enter Tryd.func30, Tryd.ntmps30
    go_wp2_with fail
    go_ret
    exact ⟨rfl, by go_grown⟩
  | succ d ih =>
    intro most p w hp hd hlo hhi
    have HLO := Asd.mk hlo
    have HHI := Asd.mk hhi
    clear hlo hhi
    have hB1 := (Below.refl w.heap.size w).alloc (Nat.le_refl _) (Obj.cells (encPr p).toArray 26)
    have IH := Asd.mk ih
    have hrow := Asd.mk hp.row
    have hall := Asd.mk hp.all
    have hbig := hp.row.big
    clear ih hp
    by_cases hm : most < 1
    · rw [sizeF, if_pos hm]
      obtain ⟨op, col, cm, ⟨nl, i, str⟩, kd, pat, ka, kc, kids⟩ := p
      simp only [Pr.v, encPr, Pr.op, Pr.col, Pr.cmp, Pr.val, Pr.kind, Pr.pat, Pr.ka, Pr.kc, Pr.kids] at hrow hall hbig hB1 ⊢
      go_enter Tryd.func30, Tryd.ntmps30
      go_wp2_with fail
      go_ret
      exact ⟨rfl, by go_grown⟩
    · rw [sizeF, if_neg hm]
      have hr : ∃ r, sizeK d most p.kids 1 = r := ⟨_, rfl⟩
      obtain ⟨r, hr⟩ := hr
      rw [hr]
      have HR := Asd.mk hr
      clear hr
      have hm1 : 1 ≤ most := by omega
      clear hm
      obtain ⟨op, col, cm, ⟨nl, i, str⟩, kd, pat, ka, kc, kids⟩ := p
      simp only [Pr.v, encPr, Pr.op, Pr.col, Pr.cmp, Pr.val, Pr.kind, Pr.pat, Pr.ka, Pr.kc, Pr.kids] at hrow hall hbig hB1 HR ⊢
      go_enter Tryd.func30, Tryd.ntmps30
      go_wp2_with fail
      go_loopw [7, 8] (fun u v wr => ∃ (nn : Int) (k : Nat), u = .int .i64 nn ∧ v = .int .i64 k ∧ k ≤ kids.length ∧ 1 ≤ nn ∧ nn ≤ 500 ∧ Asd (Below (w.heap.size + 1) (w.alloc (Obj.cells #[Value.int IntKind.i64 op, Value.string col, Value.int IntKind.i64 cm, Value.bool nl, Value.int IntKind.i64 i, Value.string str, Value.int IntKind.i64 kd, Value.string pat, Value.slice ka kids.length kc] 26)) wr) ∧ Asd (sizeK d most (kids.drop k) nn = r)) (fun _ v _ => kids.length - (intOf v).toNat)
      case atStart => exact ⟨1, 0, rfl, rfl, Nat.zero_le _, by omega, by omega, ⟨Below.refl _ _⟩, HR⟩
      case round =>
        obtain ⟨nn, k, rfl, rfl, hk, hn1, hn2, hB, hrk⟩ := hrel
        have hBw := hB1.trans (hB.out.mono (by omega))
        have hp1 := fun o => (bcell hB.out).1 w.heap.size o (by omega)
        by_cases hlt : k < kids.length
        · have hq := hrk.out
          rw [sizeK_drop d most kids k hlt] at hq
          clear hrk
          by_cases h16 : nn ≤ 16
          · rw [if_pos h16] at hq
            obtain ⟨b, off, rfl, hbl, hcs⟩ := hrow.out.at_ (by omega)
            obtain ⟨c0, c1, c2, c3, c4, c5, c6, c7, c8⟩ := prCells (o := off + k * 9) hBw hbl (hcs k hlt)
            have hcall := IH.out (most - nn) kids[k] wr ((hall.out _ (List.getElem_mem hlt)).low hBw) (by omega) (by have := HLO.out; omega) (by have := HHI.out; omega)
            obtain ⟨z1, z2⟩ := sizeF_bd d (most - nn) kids[k]
            have hm2 : -9000 ≤ most := by have := HLO.out; omega
            have hm3 : most ≤ 1000 := HHI.out
            have hq2 := Asd.mk hq
            clear hcs hq
            generalize hy : sizeF d (most - nn) kids[k] = sy at *
            generalize kids[k] = y at *
            clear hy
            try simp only [Pr.v, encPr] at hcall
            go_wp2_with fail
            go_call hcall as e w1 ⟨rfl, hb1⟩
            go_wp2_with fail
            go_roundw
            case rel => exact ⟨nn + sy, k + 1, by go_num, by go_num, by omega, by omega, by omega, ⟨hB.out.trans (hb1.mono (by have := hB.out.size; simp at this; omega))⟩, hq2⟩
            case measure => simp [intOf]; omega
          · rw [if_neg h16] at hq
            obtain rfl : nn = r := hq
            go_wp2_with fail
            go_ret
            exact ⟨rfl, hBw⟩
        · have hkk : k = kids.length := by omega
          have hq := hrk.out
          rw [hkk, List.drop_length, sizeK] at hq
          obtain rfl : nn = r := hq
          clear hkk hrk
          go_wp2_with fail
          go_ret
          exact ⟨rfl, hBw⟩
end Go.Proofs.YthhjhlodgfdlgaaDoor
