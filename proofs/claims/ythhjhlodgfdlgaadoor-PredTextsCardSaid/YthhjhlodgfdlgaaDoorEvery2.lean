import Derived.Test.YthhjhlodgfdlgaaDoorEvery
import Derived.Test.YthhjhlodgfdlgaaDoorTextA
set_option linter.unusedVariables false
namespace Go.Proofs.YthhjhlodgfdlgaaDoor
open Go Go.RowKit

/-- How many predicates there may be, down to a depth. -/
def cnt : Nat → Nat
  | 0 => 0
  | d + 1 => 1 + 20 * cnt d
theorem everyF_m {σ : Type} (f : σ → Pr → σ × Bool) (m : σ → Nat) (hm : ∀ s p, m (f s p).1 ≤ m s + 1) (d : Nat) : ∀ p s, TxtOk d p → m (everyF f d p s).1 ≤ m s + cnt d := by
  induction d with
  | zero => intro p s h; exact h.elim
  | succ d ih =>
    intro p s h
    have hk20 := h.2.2.2.1
    have hK : ∀ (l : List Pr) s, (∀ k ∈ l, TxtOk d k) → m (everyK f d l s).1 ≤ m s + l.length * cnt d := by
      intro l
      induction l with
      | nil => intro s _; simp [everyK]
      | cons k r ihr =>
        intro s hl
        have h1 := ih k s (hl k (by simp))
        rw [everyK, List.length_cons, Nat.succ_mul]
        generalize hg : everyF f d k s = g at *
        obtain ⟨s1, b⟩ := g
        cases b with
        | false => simp only; simp only at h1; omega
        | true =>
          have h2 := ihr s1 (fun k hk => hl k (by simp [hk]))
          simp only at h1 ⊢
          generalize r.length * cnt d = zz at *
          omega
    have h0 := hm s p
    have hmul : p.kids.length * cnt d ≤ 20 * cnt d := Nat.mul_le_mul_right _ hk20
    rw [everyF, cnt]
    generalize hg : f s p = g at *
    obtain ⟨s1, b⟩ := g
    cases b with
    | false => simp only; simp only at h0; omega
    | true =>
      have h2 := hK p.kids s1 h.2.2.2.2.2.2.2
      simp only at h0 ⊢
      generalize p.kids.length * cnt d = zz at *
      omega

set_option maxHeartbeats 1000000 in
theorem every2_calls {σ : Type} (f : σ → Pr → σ × Bool) (J : σ → List Nat → World → Prop) (HJ : Held J) (g : Nat) (lb : Array Value) (w0 : World)
    (eg : ∀ args w, (callFunc g args).run Tryd.prog w = .ok (.enter g args) w)
    (m : σ → Nat) (N : Nat) (hm : Asd (∀ s p, m (f s p).1 ≤ m s + 1))
    (hf : Asd (∀ s L W p, Below w0.heap.size w0 W → (∀ k, k ∈ L → w0.heap.size ≤ k) → InPr w0 p → m s < N → J s L W → Calls Tryd.prog g (#[p.v] ++ lb) W (EveryPost J (f s p) L W)))
    (d : Nat) : ∀ (p : Pr) (s : σ) (L : List Nat) (W : World), InPr w0 p → TxtOk d p → m s + cnt d ≤ N → Below w0.heap.size w0 W → (∀ k, k ∈ L → w0.heap.size ≤ k) → J s L W → d ≤ 1000 →
      Calls Tryd.prog 32 #[p.v, .int .i64 d, .func (.func g) #[] lb] W (EveryPost J (everyF f d p s) L W) := by
  induction d with
  | zero =>
    intro p s L W hp ht
    exact ht.elim
  | succ d ih =>
    intro p s L W hp ht hmN hB hL hs hd
    have hcnt : cnt (d + 1) = 1 + 20 * cnt d := rfl
    have hk20 := ht.2.2.2.1
    have htk := Asd.mk ht.2.2.2.2.2.2.2
    have hms := hm.out s p
    have hmul : p.kids.length * cnt d ≤ 20 * cnt d := Nat.mul_le_mul_right _ hk20
    have hMu := Asd.mk (show m (f s p).1 + p.kids.length * cnt d ≤ N by omega)
    have hs1 := HJ.alloc hs (Obj.cells (encPr p).toArray 26)
    have hB1 := hB.alloc hB.size (Obj.cells (encPr p).toArray 26)
    have hcall := hf.out s L _ p hB1 hL hp (by omega) hs1
    clear hmN hcnt hms hmul ht
    have hni := HJ.notin hs
    have hrow := Asd.mk hp.row
    have hall := Asd.mk hp.all
    have IH := Asd.mk ih
    have HL := Asd.mk hL
    have hkn : p.kids.length ≤ 9223372036854775807 := hp.row.big
    have hr1 : ∀ s1, f s p = (s1, false) → everyF f (d + 1) p s = (s1, false) := fun s1 h => by rw [everyF, h]
    have hr2 : ∀ s1, f s p = (s1, true) → everyF f (d + 1) p s = everyK f d p.kids s1 := fun s1 h => by rw [everyF, h]
    clear ih hs hs1 hp hL
    generalize everyF f (d + 1) p s = r at *
    generalize hfs : f s p = fr at *
    obtain ⟨s1, b⟩ := fr
    cases b with
    | false =>
      obtain rfl := hr1 s1 rfl
      clear hr1 hr2 hfs
      obtain ⟨op, col, cm, ⟨nl, i, str⟩, kd, pat, ka, kc, kids⟩ := p
      simp only [Pr.v, encPr, Pr.op, Pr.col, Pr.cmp, Pr.val, Pr.kind, Pr.pat, Pr.ka, Pr.kc, Pr.kids] at hcall hkn hB1 hrow hall ⊢
      go_enter Tryd.func32, Tryd.ntmps32
      go_wp2_with fail
      go_call hcall as e w' ⟨rfl, L1, hS1, hs1⟩
      go_wp2_with fail
      go_ret
      exact ⟨rfl, L1, (Stp.of_below ((Below.refl _ W).alloc (Nat.le_refl _) _)).trans hS1, hs1⟩
    | true =>
      have hr := Asd.mk (hr2 s1 rfl)
      clear hr1 hr2 hfs
      obtain ⟨op, col, cm, ⟨nl, i, str⟩, kd, pat, ka, kc, kids⟩ := p
      simp only [Pr.v, encPr, Pr.op, Pr.col, Pr.cmp, Pr.val, Pr.kind, Pr.pat, Pr.ka, Pr.kc, Pr.kids] at hcall hkn hB1 hrow hall hr htk hMu hk20 ⊢
      go_enter Tryd.func32, Tryd.ntmps32
      go_wp2_with fail
      go_call hcall as e w' ⟨rfl, L1, hS1, hs1⟩
      obtain ⟨hc1, hf1⟩ := hS1.cell (g := W.heap.size) (by simp) hni
      go_wp2_with fail
      have hS1' := (Stp.of_below ((Below.refl _ W).alloc (Nat.le_refl _) _)).trans hS1
      clear hS1 hc1 hf1 hcall hB1
      go_loopw [20] (fun v wr => ∃ k : Nat, v = .int .i64 k ∧ k ≤ kids.length ∧ Asd (∃ sk Lk, Stp L Lk W wr ∧ J sk Lk wr ∧ r = everyK f d (kids.drop k) sk ∧ m sk + (kids.length - k) * cnt d ≤ N)) (fun v _ => kids.length - (intOf v).toNat)
      case atStart => exact ⟨0, rfl, Nat.zero_le _, ⟨s1, L1, hS1', hs1, hr.out, hMu.out⟩⟩
      case round =>
        clear hS1' hs1
        obtain ⟨k, rfl, hk, ⟨sk, Lk, hSk, hsk, hrk, hmk⟩⟩ := hrel
        by_cases hlt : k < kids.length
        · obtain ⟨b, off, rfl, hbl, hcs⟩ := hrow.out.at_ (by omega)
          rw [everyK_drop f d kids k hlt] at hrk
          have hBk : Below w0.heap.size w0 wr := hB.trans (hSk.below hB.size HL.out)
          have hLk := hSk.lows hB.size HL.out
          have hy := hall.out kids[k] (List.getElem_mem hlt)
          obtain ⟨c0, c1, c2, c3, c4, c5, c6, c7, c8⟩ := prCells (o := off + k * 9) hBk hbl (hcs k hlt)
          clear hcs hall
          have hsp : (kids.length - k) * cnt d = (kids.length - (k + 1)) * cnt d + cnt d := by rw [show kids.length - k = (kids.length - (k + 1)) + 1 by omega, Nat.succ_mul]
          have hmy := everyF_m f m hm.out d kids[k] sk (htk.out _ (List.getElem_mem hlt))
          have hcy := IH.out kids[k] sk Lk ((wr.alloc (Obj.cells (encPr kids[k]).toArray 26))) hy (htk.out _ (List.getElem_mem hlt)) (by rw [hsp] at hmk; generalize (kids.length - (k + 1)) * cnt d = zz at *; omega) (hBk.alloc hBk.size _) hLk (HJ.alloc hsk _) (by omega)
          have hmk2 : Asd (m (everyF f d kids[k] sk).1 + (kids.length - (k + 1)) * cnt d ≤ N) := ⟨by rw [hsp] at hmk; generalize (kids.length - (k + 1)) * cnt d = zz at *; omega⟩
          clear hsp hmy hmk
          generalize kids[k] = y at *
          generalize everyF f d y sk = ry at *
          obtain ⟨sy, by_⟩ := ry
          simp only [Pr.v, encPr] at hcy
          have hS2 := hSk.alloc (Obj.cells (encPr y).toArray 26)
          simp only [encPr] at hS2
          clear hy hLk hsk hrow hBk hSk
          cases by_ with
          | false =>
            go_wp2_with fail
            go_call hcy as e w1 ⟨rfl, L2, hS3, hs3⟩
            obtain rfl : r = (sy, false) := hrk
            go_wp2_with fail
            go_ret
            exact ⟨rfl, L2, hS2.trans hS3, hs3⟩
          | true =>
            have hrk' : Asd (r = everyK f d (kids.drop (k + 1)) sy) := ⟨hrk⟩
            clear hrk
            go_wp2_with fail
            go_call hcy as e w1 ⟨rfl, L2, hS3, hs3⟩
            go_wp2_with fail
            go_roundw
            case rel => exact ⟨k + 1, by go_num, by omega, ⟨sy, L2, hS2.trans hS3, hs3, hrk'.out, hmk2.out⟩⟩
            case measure => simp [intOf]; omega
        · have hkk : k = kids.length := by omega
          have hrk' : r = (sk, true) := by rw [hrk, hkk, List.drop_length, everyK]
          clear hrk hkk
          obtain rfl := hrk'
          go_wp2_with fail
          go_ret
          exact ⟨rfl, Lk, hSk, hsk⟩
end Go.Proofs.YthhjhlodgfdlgaaDoor
