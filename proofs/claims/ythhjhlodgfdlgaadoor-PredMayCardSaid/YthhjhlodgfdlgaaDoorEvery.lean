import Derived.Test.YthhjhlodgfdlgaaDoorProg
import Derived.Test.YthhjhlodgfdlgaaDoorBase
set_option linter.unusedVariables false
namespace Go.Proofs.YthhjhlodgfdlgaaDoor
open Go Go.RowKit

mutual
def everyF {σ : Type} (f : σ → Pr → σ × Bool) (d : Nat) (p : Pr) (s : σ) : σ × Bool :=
  match d with
  | 0 => (s, false)
  | d + 1 => match f s p with
    | (s1, false) => (s1, false)
    | (s1, true) => everyK f d p.kids s1
def everyK {σ : Type} (f : σ → Pr → σ × Bool) (d : Nat) (l : List Pr) (s : σ) : σ × Bool :=
  match l with
  | [] => (s, true)
  | k :: r => match everyF f d k s with
    | (s1, false) => (s1, false)
    | (s1, true) => everyK f d r s1
end
def EveryPost {σ : Type} (J : σ → List Nat → World → Prop) (r : σ × Bool) (L : List Nat) (W : World) (e : Ending) (W' : World) : Prop :=
  e = .returned (.bool r.2) ∧ ∃ L', Stp L L' W W' ∧ J r.1 L' W'

theorem everyK_drop {σ : Type} (f : σ → Pr → σ × Bool) (d : Nat) (l : List Pr) (k : Nat) (h : k < l.length) (s : σ) :
    everyK f d (l.drop k) s = match everyF f d l[k] s with | (s1, false) => (s1, false) | (s1, true) => everyK f d (l.drop (k + 1)) s1 := by
  rw [List.drop_eq_getElem_cons h, everyK]

set_option maxHeartbeats 1000000 in
theorem every_calls {σ : Type} (f : σ → Pr → σ × Bool) (J : σ → List Nat → World → Prop) (HJ : Held J) (g : Nat) (lb : Array Value) (w0 : World)
    (eg : ∀ args w, (callFunc g args).run Tryd.prog w = .ok (.enter g args) w)
    (hf : Asd (∀ s L W p, Below w0.heap.size w0 W → (∀ k, k ∈ L → w0.heap.size ≤ k) → InPr w0 p → J s L W → Calls Tryd.prog g (#[p.v] ++ lb) W (EveryPost J (f s p) L W)))
    (d : Nat) : ∀ (p : Pr) (s : σ) (L : List Nat) (W : World), InPr w0 p → Below w0.heap.size w0 W → (∀ k, k ∈ L → w0.heap.size ≤ k) → J s L W → d ≤ 1000 →
      Calls Tryd.prog 32 #[p.v, .int .i64 d, .func (.func g) #[] lb] W (EveryPost J (everyF f d p s) L W) := by
  induction d with
  | zero =>
    intro p s L W hp hB hL hs _
    have hs1 := HJ.alloc hs (Obj.cells (encPr p).toArray 26)
    have hS := Stp.of_below (L := L) ((Below.refl _ W).alloc (Nat.le_refl _) (Obj.cells (encPr p).toArray 26))
    have fin : EveryPost J (everyF f 0 p s) L W (.returned (.bool false)) _ := ⟨by simp [everyF], L, hS, by simpa [everyF] using hs1⟩
    clear hs hs1 hS hp
    generalize everyF f 0 p s = r at *
    obtain ⟨op, col, cm, ⟨nl, i, str⟩, kd, pat, ka, kc, kids⟩ := p
    simp only [Pr.v, encPr, Pr.op, Pr.col, Pr.cmp, Pr.val, Pr.kind, Pr.pat, Pr.ka, Pr.kc, Pr.kids] at fin ⊢
    go_enter Tryd.func32, Tryd.ntmps32
    go_wp2_with fail
    go_ret
    exact fin
  | succ d ih =>
    intro p s L W hp hB hL hs hd
    have hs1 := HJ.alloc hs (Obj.cells (encPr p).toArray 26)
    have hB1 := hB.alloc hB.size (Obj.cells (encPr p).toArray 26)
    have hcall := hf.out s L _ p hB1 hL hp hs1
    have hni := HJ.notin hs
    have hrow := Asd.mk hp.row
    have hall := Asd.mk hp.all
    have IH := Asd.mk ih
    have HL := Asd.mk hL
    have hkn : p.kids.length ≤ 9223372036854775807 := hp.row.big
    have hr1 : ∀ s1, f s p = (s1, false) → everyF f (d + 1) p s = (s1, false) := fun s1 h => by rw [everyF, h]
    have hr2 : ∀ s1, f s p = (s1, true) → everyF f (d + 1) p s = everyK f d p.kids s1 := fun s1 h => by rw [everyF, h]
    clear ih hs hs1 hp hL
    generalize everyF f (d + 1) p s = r at *
    generalize hfs : f s p = fr at *
    obtain ⟨s1, b⟩ := fr
    cases b with
    | false =>
      obtain rfl := hr1 s1 rfl
      clear hr1 hr2 hfs
      obtain ⟨op, col, cm, ⟨nl, i, str⟩, kd, pat, ka, kc, kids⟩ := p
      simp only [Pr.v, encPr, Pr.op, Pr.col, Pr.cmp, Pr.val, Pr.kind, Pr.pat, Pr.ka, Pr.kc, Pr.kids] at hcall hkn hB1 hrow hall ⊢
      go_enter Tryd.func32, Tryd.ntmps32
      go_wp2_with fail
      go_call hcall as e w' ⟨rfl, L1, hS1, hs1⟩
      go_wp2_with fail
      go_ret
      exact ⟨rfl, L1, (Stp.of_below ((Below.refl _ W).alloc (Nat.le_refl _) _)).trans hS1, hs1⟩
    | true =>
      have hr := Asd.mk (hr2 s1 rfl)
      clear hr1 hr2 hfs
      obtain ⟨op, col, cm, ⟨nl, i, str⟩, kd, pat, ka, kc, kids⟩ := p
      simp only [Pr.v, encPr, Pr.op, Pr.col, Pr.cmp, Pr.val, Pr.kind, Pr.pat, Pr.ka, Pr.kc, Pr.kids] at hcall hkn hB1 hrow hall hr ⊢
      go_enter Tryd.func32, Tryd.ntmps32
      go_wp2_with fail
      go_call hcall as e w' ⟨rfl, L1, hS1, hs1⟩
      obtain ⟨hc1, hf1⟩ := hS1.cell (g := W.heap.size) (by simp) hni
      go_wp2_with fail
      have hS1' := (Stp.of_below ((Below.refl _ W).alloc (Nat.le_refl _) _)).trans hS1
      clear hS1 hc1 hf1 hcall hB1
      go_loopw [20] (fun v wr => ∃ k : Nat, v = .int .i64 k ∧ k ≤ kids.length ∧ Asd (∃ sk Lk, Stp L Lk W wr ∧ J sk Lk wr ∧ r = everyK f d (kids.drop k) sk)) (fun v _ => kids.length - (intOf v).toNat)
      case atStart => exact ⟨0, rfl, Nat.zero_le _, ⟨s1, L1, hS1', hs1, hr.out⟩⟩
      case round =>
        clear hS1' hs1
        obtain ⟨k, rfl, hk, ⟨sk, Lk, hSk, hsk, hrk⟩⟩ := hrel
        by_cases hlt : k < kids.length
        · obtain ⟨b, off, rfl, hbl, hcs⟩ := hrow.out.at_ (by omega)
          rw [everyK_drop f d kids k hlt] at hrk
          have hBk : Below w0.heap.size w0 wr := hB.trans (hSk.below hB.size HL.out)
          have hLk := hSk.lows hB.size HL.out
          have hy := hall.out kids[k] (List.getElem_mem hlt)
          obtain ⟨c0, c1, c2, c3, c4, c5, c6, c7, c8⟩ := prCells (o := off + k * 9) hBk hbl (hcs k hlt)
          clear hcs hall
          have hcy := IH.out kids[k] sk Lk ((wr.alloc (Obj.cells (encPr kids[k]).toArray 26))) hy (hBk.alloc hBk.size _) hLk (HJ.alloc hsk _) (by omega)
          generalize kids[k] = y at *
          generalize everyF f d y sk = ry at *
          obtain ⟨sy, by_⟩ := ry
          simp only [Pr.v, encPr] at hcy
          have hS2 := hSk.alloc (Obj.cells (encPr y).toArray 26)
          simp only [encPr] at hS2
          clear hy hLk hsk hrow hBk hSk
          cases by_ with
          | false =>
            go_wp2_with fail
            go_call hcy as e w1 ⟨rfl, L2, hS3, hs3⟩
            obtain rfl : r = (sy, false) := hrk
            go_wp2_with fail
            go_ret
            exact ⟨rfl, L2, hS2.trans hS3, hs3⟩
          | true =>
            have hrk' : Asd (r = everyK f d (kids.drop (k + 1)) sy) := ⟨hrk⟩
            clear hrk
            go_wp2_with fail
            go_call hcy as e w1 ⟨rfl, L2, hS3, hs3⟩
            go_wp2_with fail
            go_roundw
            case rel => exact ⟨k + 1, by go_num, by omega, ⟨sy, L2, hS2.trans hS3, hs3, hrk'.out⟩⟩
            case measure => simp [intOf]; omega
        · have hkk : k = kids.length := by omega
          have hrk' : r = (sk, true) := by rw [hrk, hkk, List.drop_length, everyK]
          clear hrk hkk
          obtain rfl := hrk'
          go_wp2_with fail
          go_ret
          exact ⟨rfl, Lk, hSk, hsk⟩
end Go.Proofs.YthhjhlodgfdlgaaDoor
