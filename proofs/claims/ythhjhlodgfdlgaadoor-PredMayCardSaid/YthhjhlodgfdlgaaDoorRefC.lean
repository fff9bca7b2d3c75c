import Derived.Test.YthhjhlodgfdlgaaDoorPredA
import Derived.Test.YthhjhlodgfdlgaaDoorCell
set_option linter.unusedVariables false
set_option linter.unusedSimpArgs false
namespace Go.Proofs.YthhjhlodgfdlgaaDoor
open Go Go.RowKit

set_option maxHeartbeats 800000 in
theorem refFlat_calls (p q : Pr) (w : World) : Calls Tryd.prog 53 #[p.v, q.v] w (Ret (.bool (flatP p q)) w) := by
  obtain ⟨op, col, cm, ⟨nl, i, str⟩, kd, pat, ka, kc, kids⟩ := p
  obtain ⟨op2, col2, cm2, ⟨nl2, i2, str2⟩, kd2, pat2, ka2, kc2, kids2⟩ := q
  simp only [Pr.v, encPr, flatP, Pr.op, Pr.col, Pr.cmp, Pr.val, Pr.kind, Pr.pat, Pr.ka, Pr.kc, Pr.kids]
  go_enter Tryd.func53, Tryd.ntmps53
  go_wp2_with fail
  all_goals
    go_ret
    refine ⟨?_, by go_grown⟩
    simp_all

set_option maxHeartbeats 2000000 in
theorem refCellMay_calls (ty : Int) (null : Bool) (c : Ce) (w : World) (hs : c.s.size ≤ 9223372036854775807) : Calls Tryd.prog 52 #[.int .i64 ty, .bool null, c.v] w (Ret (.bool (mayC ty null c)) w) := by
  have hm : mayC ty null c = _ := mayC.eq_def ty null c
  obtain ⟨nl, i, s⟩ := c
  simp only [Ce.v, encCe] at hm ⊢
  generalize mayC ty null ⟨nl, i, s⟩ = r at *
  have HM := Asd.mk hm
  clear hm
  have ht : (ty < 1 ∨ 3 < ty) ∨ ty = 1 ∨ ty = 2 ∨ ty = 3 := by omega
  rcases ht with ht | rfl | rfl | rfl
  · obtain rfl : r = false := by
      have h := HM.out
      rw [h]
      have h1 : ¬ ty = 1 := by omega
      have h2 : ¬ ty = 2 := by omega
      have h3 : ¬ ty = 3 := by omega
      simp [h1, h2, h3]
      intros; omega
    clear HM
    have e1 : (decide (ty < 1) || decide (3 < ty)) = true := by simpa using ht
    rcases ht with ht | ht
    · have e2 : decide (ty < 1) = true := by simpa using ht
      go_enter Tryd.func52, Tryd.ntmps52
      go_wp2_with fail
      all_goals go_ret
      all_goals exact ⟨rfl, by go_grown⟩
    · have e2 : decide (ty < 1) = false := by simp; omega
      go_enter Tryd.func52, Tryd.ntmps52
      go_wp2_with fail
      all_goals first
        | (go_ret; exact ⟨rfl, by go_grown⟩)
        | (exfalso; omega)
  all_goals
    cases nl
    all_goals
      go_enter Tryd.func52, Tryd.ntmps52
      go_wp2_with fail
      all_goals go_ret
      all_goals
        refine ⟨?_, by go_grown⟩
        have h := HM.out
        simp_all

def wordCells : Array Value := (words.map fun l => Value.string ⟨l.toArray⟩).toArray
theorem refWords_calls (w : World) : Calls Tryd.prog 77 #[] w fun e w' => e = .returned (.slice (some ⟨w.heap.size, 0, none⟩) 19 19) ∧ w.alloc (.cells wordCells 9) = w' := by
  go_enter Tryd.func77, Tryd.ntmps77
  go_wp2_with fail
  go_ret
  exact ⟨rfl, rfl⟩
theorem wordCells_at (j : Nat) (h : j < 19) : wordCells[j]? = some (Value.string ⟨(words[j]'h).toArray⟩) := by
  simp only [wordCells, List.getElem?_toArray, List.getElem?_map]
  rw [List.getElem?_eq_getElem (show j < words.length from h)]
  rfl
theorem nameB_scan {s : ByteArray} (h : nameScan s = false) : nameB s = false := by simp [nameB, h]
theorem nameB_word {s : ByteArray} (h : wordB s = true) : nameB s = false := by simp [nameB, h]
theorem nameB_rest {s : ByteArray} (h : nameScan s = true) (h2 : wordB s = false) : nameB s = (decide ((1 : Int) ≤ (s.size : Int)) && decide ((s.size : Int) ≤ 12)) := by
  simp only [nameB, h, h2, Bool.not_false, Bool.and_true]
  by_cases h0 : s.size = 0
  · simp [h0]
  · have : 1 ≤ s.size := by omega
    simp [h0]
    have e : (s.size ≤ 12) ↔ ((s.size : Int) ≤ 12) := by omega
    simp [e]
    omega
theorem wordB_false {s : ByteArray} (h : ∀ j, (hj : j < 19) → (s.toList == words[j]'hj) = false) : wordB s = false := by
  rw [wordB, List.any_eq_false]
  intro x hx
  obtain ⟨j, hj, rfl⟩ := List.getElem_of_mem hx
  simpa using h j hj
theorem wordB_true {s : ByteArray} (j : Nat) (hj : j < 19) (h : (s.toList == words[j]'hj) = true) : wordB s = true := by
  rw [wordB, List.any_eq_true]
  exact ⟨_, List.getElem_mem hj, h⟩

set_option maxHeartbeats 1000000 in
set_option maxRecDepth 100000 in
theorem refName_calls (s : ByteArray) (w : World) (hs : s.size ≤ 9223372036854775807) : Calls Tryd.prog 51 #[.string s] w (Ret (.bool (nameB s)) w) := by
  have hT := Asd.mk (@nameScan_true s)
  have hF := Asd.mk (@nameScan_false s)
  have HK : Asd (∀ j, (h : j < s.size) → okAt s j = (letterN (s[j]'h).toNat || (j != 0 && moreN (s[j]'h).toNat))) := ⟨fun j h => by simp [okAt, h]⟩
  have hN1 := Asd.mk (@nameB_scan s)
  have hN2 := Asd.mk (@nameB_word s)
  have hN3 := Asd.mk (@nameB_rest s)
  have hW1 := Asd.mk (@wordB_false s)
  have hW2 := Asd.mk (@wordB_true s)
  generalize wordB s = wb at *
  generalize nameScan s = sc at *
  generalize nameB s = r at *
  have hwords := fun W => refWords_calls W
  go_enter Tryd.func51, Tryd.ntmps51
  go_wp2_with fail
  go_loopw [3] (fun v wr => ∃ k : Nat, v = .int .i64 k ∧ k ≤ s.size ∧ wr = w ∧ Asd (∀ j, j < k → j < s.size → okAt s j = true)) (fun v _ => s.size - (intOf v).toNat)
  case atStart => exact ⟨0, rfl, Nat.zero_le _, rfl, ⟨fun j hj => absurd hj (by omega)⟩⟩
  case round =>
    obtain ⟨k, rfl, hk, rfl, hpre⟩ := hrel
    by_cases hlt : k < s.size
    · have hk1 := HK.out k hlt
      have hc := (s[k]'hlt).toNat_lt
      by_cases hok : okAt s k = true
      · have hg := Asd.mk hok
        rw [hk1] at hok
        clear hk1
        have hok2 : (97 ≤ (s[k]'hlt).toNat ∧ (s[k]'hlt).toNat ≤ 122) ∨ (k ≠ 0 ∧ ((48 ≤ (s[k]'hlt).toNat ∧ (s[k]'hlt).toNat ≤ 57) ∨ (s[k]'hlt).toNat = 95)) := by
          simp only [letterN, moreN, Bool.or_eq_true, Bool.and_eq_true, decide_eq_true_eq, bne_iff_ne, beq_iff_eq] at hok
          exact hok
        clear hok
        have HO := Asd.mk hok2
        clear hok2
        go_wp2_with fail
        all_goals first
          | (exfalso; have := HO.out; omega)
          | (exfalso; have := HO.out; simp_all; done)
          | (exfalso; have := HO.out; simp_all; omega)
          | (go_roundw
             case rel => exact ⟨k + 1, by first | rfl | go_num | simp_all, by omega, (by first | rfl | trivial), ⟨fun j hj hjs => by
               by_cases e : j = k
               · subst e; exact hg.out
               · exact hpre.out j (by omega) hjs⟩⟩
             case measure => simp [intOf]; omega)
      · obtain rfl : r = false := hN1.out (hF.out hlt (by simpa using hok))
        have hok2 : ¬ ((97 ≤ (s[k]'hlt).toNat ∧ (s[k]'hlt).toNat ≤ 122) ∨ (k ≠ 0 ∧ ((48 ≤ (s[k]'hlt).toNat ∧ (s[k]'hlt).toNat ≤ 57) ∨ (s[k]'hlt).toNat = 95))) := by
          rw [hk1] at hok
          simpa only [letterN, moreN, Bool.or_eq_true, Bool.and_eq_true, decide_eq_true_eq, bne_iff_ne, beq_iff_eq] using hok
        clear hk1 hok
        have HO := Asd.mk hok2
        clear hok2
        go_wp2_with fail
        all_goals first
          | (go_ret; exact ⟨rfl, Below.refl _ _⟩)
          | (exfalso; have := HO.out; omega)
          | (exfalso; have := HO.out; simp_all; done)
          | (exfalso; have := HO.out; simp_all; omega)
    · obtain rfl : sc = true := hT.out (fun j hj => hpre.out j (by omega) hj)
      clear hpre
      go_wp2_with fail
      go_call (hwords _) as e w1 ⟨rfl, rfl⟩
      go_wp2_with fail
      go_loopw [8] (fun v wq => ∃ m : Nat, v = .int .i64 m ∧ m ≤ 19 ∧ wq = wr.alloc (.cells wordCells 9) ∧ Asd (∀ j, (hj : j < 19) → j < m → (s.toList == words[j]'hj) = false)) (fun v _ => 19 - (intOf v).toNat)
      case atStart => exact ⟨0, rfl, Nat.zero_le _, rfl, ⟨fun j hj h => absurd h (by omega)⟩⟩
      case round =>
        obtain ⟨m, rfl, hm, rfl, hpre⟩ := hrel
        by_cases h19 : m < 19
        · have hcw := wordCells_at m h19
          have hx : ∃ x : ByteArray, x = ⟨(words[m]'h19).toArray⟩ := ⟨_, rfl⟩
          obtain ⟨x, hx⟩ := hx
          rw [← hx] at hcw
          have hxl : x.toList = words[m]'h19 := by rw [hx, Go.Lib.toList_data]
          have hb : ∃ b, (x.toList == s.toList) = b := ⟨_, rfl⟩
          obtain ⟨b, hb⟩ := hb
          have hb2 : (s.toList == words[m]'h19) = b := by
            rw [← hb, hxl, Bool.eq_iff_iff]; simp only [beq_iff_eq]; exact eq_comm
          have HB2 := Asd.mk hb2
          have hcell : (wr.alloc (.cells wordCells 9)).cell? ⟨wr.heap.size, m, none⟩ = some (.string x) := by
            simp only [World.cell?, alloc_last]
            simpa using hcw
          clear hx hxl hb2 hcw
          cases b with
          | true =>
            obtain rfl : r = false := hN2.out (hW2.out m h19 HB2.out)
            go_wp2_with fail
            all_goals first
              | (go_ret; exact ⟨rfl, by go_grown⟩)
              | (exfalso; simp_all; done)
          | false =>
            go_wp2_with fail
            go_roundw
            case rel => exact ⟨m + 1, by go_num, by omega, (by first | rfl | trivial), ⟨fun j hj h => by
              by_cases e : j = m
              · subst e; exact HB2.out
              · exact hpre.out j hj (by omega)⟩⟩
            case measure => simp [intOf]; omega
        · obtain rfl : wb = false := hW1.out (fun j hj => hpre.out j hj (by omega))
          have hr := hN3.out (by first | rfl | trivial) (by first | rfl | trivial)
          clear hpre hW1 hW2 hN1 hN2 hN3
          by_cases q1 : (1 : Int) ≤ (s.size : Int) <;> by_cases q2 : (s.size : Int) ≤ 12 <;> simp only [q1, q2, decide_true, decide_false, Bool.and_true, Bool.and_false] at hr <;> subst hr
          all_goals go_wp2_with fail
          all_goals go_ret
          all_goals exact ⟨by simp_all, by go_grown⟩
end Go.Proofs.YthhjhlodgfdlgaaDoor
