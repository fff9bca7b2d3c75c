import Derived.Test.YthhjhlodgfdlgaaDoorRefC
import Derived.Test.YthhjhlodgfdlgaaDoorWLast
import Derived.Test.YthhjhlodgfdlgaaDoorRefB
set_option linter.unusedVariables false
set_option linter.unusedSimpArgs false
namespace Go.Proofs.YthhjhlodgfdlgaaDoor
open Go Go.RowKit Go.Proofs.YthhjhlodgfdlgaaDoorW.PrintLast

def noK (p : Pr) : Pr := .mk p.op p.col p.cmp p.val p.kind p.pat none 0 []
def ownSwV (op cm : Int) (nb mb : Bool) (ps kl : Int) : Bool :=
  if op = 1 then true
  else if op = 2 then nb && decide (1 ≤ cm) && decide (cm ≤ 6) && mb
  else if op = 3 then nb
  else if op = 4 then nb && decide (ps ≤ 40)
  else if op = 5 then kl == 1
  else if op = 6 ∨ op = 7 then decide (2 ≤ kl)
  else false
def ownSw (p : Pr) : Bool := ownSwV p.op p.cmp (nameB p.col) (mayC p.kind false p.val) p.pat.size p.kids.length
def tailV (op kl : Int) (fl : Bool) : Bool := !(decide (op < 5) && decide (0 < kl)) && fl
def kidV (o : Bool) (op kop : Int) : Bool := o && !(decide (6 ≤ op) && kop == op)
def ownP (p : Pr) : Bool := ownSw p && tailV p.op p.kids.length (flatP (noK p) (barePr p))
def oneN : Nat → Pr → Bool
  | 0, _ => false
  | d + 1, p => ownP p && p.kids.all (fun k => kidV (oneN d k) p.op k.op)
theorem tailV_no {op kl : Int} {fl : Bool} (h1 : op < 5) (h2 : 0 < kl) : tailV op kl fl = false := by simp [tailV, h1, h2]
theorem tailV_yes {op kl : Int} {fl : Bool} (h : ¬ (op < 5 ∧ 0 < kl)) : tailV op kl fl = fl := by
  unfold tailV
  by_cases h1 : op < 5
  · have h2 : ¬ 0 < kl := fun h2 => h ⟨h1, h2⟩
    simp [h2]
  · simp [h1]
def deepB : Nat → Pr → Bool
  | 0, _ => false
  | d + 1, p => p.kids.all (deepB d)

theorem barePr_2 {p : Pr} (h : p.op = 2) : barePr p = .mk p.op p.col p.cmp p.val p.kind ByteArray.empty none 0 [] := by simp [barePr, h]
theorem barePr_3 {p : Pr} (h : p.op = 3) : barePr p = .mk p.op p.col 0 ⟨false, 0, ByteArray.empty⟩ 0 ByteArray.empty none 0 [] := by simp [barePr, h]
theorem barePr_4 {p : Pr} (h : p.op = 4) : barePr p = .mk p.op p.col 0 ⟨false, 0, ByteArray.empty⟩ 0 p.pat none 0 [] := by simp [barePr, h]
theorem barePr_else {p : Pr} (h2 : p.op ≠ 2) (h3 : p.op ≠ 3) (h4 : p.op ≠ 4) : barePr p = .mk p.op ByteArray.empty 0 ⟨false, 0, ByteArray.empty⟩ 0 ByteArray.empty none 0 [] := by simp [barePr, h2, h3, h4]

theorem blkCell {W : World} {k : Nat} {cs : Array Value} {t : TypeId} {fr : Nat × Nat} (h : W.heap[k]? = some (.cells cs t fr)) : ∀ o, W.cell? ⟨k, o, none⟩ = cs[o]? := by
  intro o
  simp [World.cell?, h]
/-- What the switch leaves: the predicate's box, its twin without kids, and the bare one. -/
structure OneMid (p : Pr) (w wx : World) : Prop where
  box : Below (w.heap.size + 1) (w.alloc (Obj.cells (encPr p).toArray 26)) wx
  twin : wx.heap[w.heap.size + 1]? = some (.cells (encPr (noK p)).toArray 26 (0, 0))
  bare : wx.heap[w.heap.size + 2]? = some (.cells (encPr (barePr p)).toArray 26 (0, 0))

theorem OneMid.low {p : Pr} {w wx wy : World} (h : OneMid p w wx) (hb : Below wx.heap.size wx wy) : OneMid p w wy := by
  have hs := h.box.size
  have h1 : w.heap.size + 1 < wx.heap.size := (Array.getElem?_eq_some_iff.1 h.twin).1
  have h2 : w.heap.size + 2 < wx.heap.size := (Array.getElem?_eq_some_iff.1 h.bare).1
  exact ⟨h.box.trans (hb.mono (by omega)), (hb.block _ h1).trans h.twin, (hb.block _ h2).trans h.bare⟩
theorem OneMid.start (p : Pr) (w : World) (b : Pr) (hb : b = barePr p) : OneMid p w (((w.alloc (Obj.cells (encPr p).toArray 26)).alloc (Obj.cells (encPr (noK p)).toArray 26)).alloc (Obj.cells (encPr b).toArray 26)) := by
  refine ⟨((Below.refl _ _).alloc (by simp) _).alloc (by simp) _, ?_, ?_⟩
  · rw [Below.heap_alloc _ _ _ (by simp)]
    exact alloc_last2 _ _ _
  · rw [← hb]
    have := alloc_last ((w.alloc (Obj.cells (encPr p).toArray 26)).alloc (Obj.cells (encPr (noK p)).toArray 26)) (Obj.cells (encPr b).toArray 26)
    rwa [World.size_alloc, World.size_alloc] at this

set_option maxHeartbeats 8000000 in
set_option maxRecDepth 100000 in
theorem refOne_calls (d : Nat) : ∀ (p : Pr) (w : World), InPr w p → deepB d p = true → Calls Tryd.prog 31 #[p.v] w (Ret (.bool (oneN d p)) w) := by
  induction d with
  | zero => intro p w _ h; simp [deepB] at h
  | succ d ih =>
    intro p w hp hd
    have hB1 := (Below.refl w.heap.size w).alloc (Nat.le_refl _) (Obj.cells (encPr p).toArray 26)
    have IH := Asd.mk ih
    have hrow := Asd.mk hp.row
    have hall := Asd.mk hp.all
    have hbig := hp.row.big
    have hna := fun W => refName_calls p.col W hp.fine.col
    have hce := fun W => refCellMay_calls p.kind false p.val W hp.fine.vs
    have hfl := fun W => refFlat_calls (noK p) (barePr p) W
    have hdk : Asd (∀ k ∈ p.kids, deepB d k = true) := ⟨by rw [deepB, List.all_eq_true] at hd; exact hd⟩
    have hone : oneN (d + 1) p = (ownP p && p.kids.all (fun k => kidV (oneN d k) p.op k.op)) := rfl
    have hN1 : Asd (ownSw p = false → oneN (d + 1) p = false) := ⟨fun h => by simp [hone, ownP, h]⟩
    have hq1 := hp.fine.pat
    clear ih hp hd
    generalize oneN (d + 1) p = r at *
    have HONE := Asd.mk hone
    clear hone
    have hb2 := Asd.mk (@barePr_2 p)
    have hb3 := Asd.mk (@barePr_3 p)
    have hb4 := Asd.mk (@barePr_4 p)
    have hb0 := Asd.mk (@barePr_else p)
    have hsw := Asd.mk (ownSw.eq_def p)
    generalize hnb : nameB p.col = nb at *
    generalize hmb : mayC p.kind false p.val = mb at *
    generalize hswv : ownSw p = sw at *
    have hq : ∃ M : World → Prop, M = OneMid p w := ⟨_, rfl⟩
    obtain ⟨M, hM⟩ := hq
    have hM0 : Asd (∀ b, b = barePr p → M (((w.alloc (Obj.cells (encPr p).toArray 26)).alloc (Obj.cells (encPr (noK p)).toArray 26)).alloc (Obj.cells (encPr b).toArray 26))) := ⟨fun b hb => by rw [hM]; exact OneMid.start p w b hb⟩
    have hML : Asd (∀ B wx wy, M wx → B = wx.heap.size → Below B wx wy → M wy) := ⟨fun B wx wy h e hb => by rw [hM] at h ⊢; subst e; exact h.low hb⟩
    have hMB : Asd (∀ wx, M wx → Below w.heap.size w wx) := ⟨fun wx h => by rw [hM] at h; exact hB1.trans (h.box.mono (by omega))⟩
    have HM := Asd.mk hM
    clear hM hnb hmb
    have HPE : ∃ q, q = p := ⟨p, rfl⟩
    obtain ⟨q, hqp⟩ := HPE
    have HPQ := Asd.mk hqp
    rw [← hqp] at HONE HM hswv
    have HSW := Asd.mk hswv
    clear hqp hswv
    rw [show barePr p = barePr p from rfl] at hfl
    obtain ⟨op, col, cm, ⟨nl, i, str⟩, kd, pat, ka, kc, kids⟩ := p
    simp only [Pr.v, encPr, Ce.v, encCe, noK, Pr.op, Pr.col, Pr.cmp, Pr.val, Pr.kind, Pr.pat, Pr.ka, Pr.kc, Pr.kids] at hB1 hrow hall hbig hna hce hdk hM0 hb2 hb3 hb4 hb0 hsw hq1 ⊢
    go_enter Tryd.func31, Tryd.ntmps31
    go_upto_block 0 with fail
    go_cut [5] (fun s5 wx => M wx ∧ Asd (sw = true))
    case first =>
      by_cases e1 : op = 1
      · subst e1
        have hs : sw = true := by rw [hsw.out]; simp [ownSwV]
        have hm := hM0.out _ (hb0.out (by decide) (by decide) (by decide)).symm
        go_wp2_with fail
        go_meet
        exact ⟨hm, ⟨hs⟩⟩
      by_cases e2 : op = 2
      · subst e2
        have hs : sw = (nb && decide (1 ≤ cm) && decide (cm ≤ 6) && mb) := by rw [hsw.out]; simp [ownSwV]
        have hm := hM0.out _ (hb2.out rfl).symm
        clear e1
        cases nb <;> by_cases q1 : 1 ≤ cm <;> by_cases q2 : cm ≤ 6 <;> cases mb <;> simp [q1, q2] at hs <;> subst hs
        all_goals try obtain rfl : r = false := hN1.out rfl
        all_goals go_wp2_with (first | (go_at_call 51; refine (hna _).mono ?_; rintro e w3 ⟨rfl, hbb3⟩; obtain ⟨hc3, hf3⟩ := bcell hbb3) | (go_at_call 52; refine (hce _).mono ?_; rintro e w4 ⟨rfl, hbb4⟩))
        all_goals first
          | (exfalso; omega)
          | (go_ret; exact ⟨rfl, hMB.out _ hm⟩)
          | (go_ret; exact ⟨rfl, hMB.out _ (hML.out _ _ _ hm (by simp) hbb3)⟩)
          | (go_ret; exact ⟨rfl, hMB.out _ (hML.out _ _ _ (hML.out _ _ _ hm (by simp) hbb3) rfl hbb4)⟩)
          | (go_meet; exact ⟨hm, ⟨by first | rfl | trivial⟩⟩)
          | (go_meet; exact ⟨hML.out _ _ _ hm (by simp) hbb3, ⟨by first | rfl | trivial⟩⟩)
          | (go_meet; exact ⟨hML.out _ _ _ (hML.out _ _ _ hm (by simp) hbb3) rfl hbb4, ⟨by first | rfl | trivial⟩⟩)
      by_cases e3 : op = 3
      · subst e3
        have hs : sw = nb := by rw [hsw.out]; simp [ownSwV]
        have hm := hM0.out _ (hb3.out rfl).symm
        clear e1 e2
        cases nb <;> subst hs
        all_goals try obtain rfl : r = false := hN1.out rfl
        all_goals go_wp2_with (first | (go_at_call 51; refine (hna _).mono ?_; rintro e w3 ⟨rfl, hbb3⟩; obtain ⟨hc3, hf3⟩ := bcell hbb3) | (go_at_call 52; refine (hce _).mono ?_; rintro e w4 ⟨rfl, hbb4⟩))
        all_goals first
          | (exfalso; omega)
          | (go_ret; exact ⟨rfl, hMB.out _ hm⟩)
          | (go_ret; exact ⟨rfl, hMB.out _ (hML.out _ _ _ hm (by simp) hbb3)⟩)
          | (go_ret; exact ⟨rfl, hMB.out _ (hML.out _ _ _ (hML.out _ _ _ hm (by simp) hbb3) rfl hbb4)⟩)
          | (go_meet; exact ⟨hm, ⟨by first | rfl | trivial⟩⟩)
          | (go_meet; exact ⟨hML.out _ _ _ hm (by simp) hbb3, ⟨by first | rfl | trivial⟩⟩)
          | (go_meet; exact ⟨hML.out _ _ _ (hML.out _ _ _ hm (by simp) hbb3) rfl hbb4, ⟨by first | rfl | trivial⟩⟩)
      by_cases e4 : op = 4
      · subst e4
        have hs : sw = (nb && decide ((pat.size : Int) ≤ 40)) := by rw [hsw.out]; simp [ownSwV]
        have hm := hM0.out _ (hb4.out rfl).symm
        clear e1 e2 e3
        cases nb <;> by_cases q1 : (pat.size : Int) ≤ 40 <;> simp [q1] at hs <;> subst hs
        all_goals try obtain rfl : r = false := hN1.out rfl
        all_goals go_wp2_with (first | (go_at_call 51; refine (hna _).mono ?_; rintro e w3 ⟨rfl, hbb3⟩; obtain ⟨hc3, hf3⟩ := bcell hbb3) | (go_at_call 52; refine (hce _).mono ?_; rintro e w4 ⟨rfl, hbb4⟩))
        all_goals first
          | (exfalso; omega)
          | (go_ret; exact ⟨rfl, hMB.out _ hm⟩)
          | (go_ret; exact ⟨rfl, hMB.out _ (hML.out _ _ _ hm (by simp) hbb3)⟩)
          | (go_ret; exact ⟨rfl, hMB.out _ (hML.out _ _ _ (hML.out _ _ _ hm (by simp) hbb3) rfl hbb4)⟩)
          | (go_meet; exact ⟨hm, ⟨by first | rfl | trivial⟩⟩)
          | (go_meet; exact ⟨hML.out _ _ _ hm (by simp) hbb3, ⟨by first | rfl | trivial⟩⟩)
          | (go_meet; exact ⟨hML.out _ _ _ (hML.out _ _ _ hm (by simp) hbb3) rfl hbb4, ⟨by first | rfl | trivial⟩⟩)
      have hm := hM0.out _ (hb0.out e2 e3 e4).symm
      by_cases e5 : op = 5
      · subst e5
        have hs : sw = ((kids.length : Int) == 1) := by rw [hsw.out]; simp [ownSwV]
        clear e1 e2 e3 e4
        cases hk1 : ((kids.length : Int) == 1) <;> rw [hk1] at hs <;> subst hs
        all_goals try obtain rfl : r = false := hN1.out rfl
        all_goals have hk2 : ((kids.length : Int) != 1) = !((kids.length : Int) == 1) := rfl
        all_goals rw [hk1] at hk2
        all_goals go_wp2_with fail
        all_goals first
          | (exfalso; omega)
          | (go_ret; exact ⟨rfl, hMB.out _ hm⟩)
          | (go_ret; exact ⟨rfl, hMB.out _ (hML.out _ _ _ hm (by simp) hbb3)⟩)
          | (go_ret; exact ⟨rfl, hMB.out _ (hML.out _ _ _ (hML.out _ _ _ hm (by simp) hbb3) rfl hbb4)⟩)
          | (go_meet; exact ⟨hm, ⟨by first | rfl | trivial⟩⟩)
          | (go_meet; exact ⟨hML.out _ _ _ hm (by simp) hbb3, ⟨by first | rfl | trivial⟩⟩)
          | (go_meet; exact ⟨hML.out _ _ _ (hML.out _ _ _ hm (by simp) hbb3) rfl hbb4, ⟨by first | rfl | trivial⟩⟩)
      by_cases e6 : op = 6 ∨ op = 7
      · have hs : sw = decide ((2 : Int) ≤ (kids.length : Int)) := by rw [hsw.out]; simp [ownSwV, e1, e2, e3, e4, e5, e6]
        by_cases q1 : (2 : Int) ≤ (kids.length : Int) <;> simp only [q1, decide_true, decide_false] at hs <;> subst hs
        all_goals try obtain rfl : r = false := hN1.out rfl
        all_goals rcases e6 with rfl | rfl
        all_goals clear e1 e2 e3 e4 e5
        all_goals go_wp2_with fail
        all_goals first
          | (exfalso; omega)
          | (go_ret; exact ⟨rfl, hMB.out _ hm⟩)
          | (go_ret; exact ⟨rfl, hMB.out _ (hML.out _ _ _ hm (by simp) hbb3)⟩)
          | (go_ret; exact ⟨rfl, hMB.out _ (hML.out _ _ _ (hML.out _ _ _ hm (by simp) hbb3) rfl hbb4)⟩)
          | (go_meet; exact ⟨hm, ⟨by first | rfl | trivial⟩⟩)
          | (go_meet; exact ⟨hML.out _ _ _ hm (by simp) hbb3, ⟨by first | rfl | trivial⟩⟩)
          | (go_meet; exact ⟨hML.out _ _ _ (hML.out _ _ _ hm (by simp) hbb3) rfl hbb4, ⟨by first | rfl | trivial⟩⟩)
      · have hs : sw = false := by rw [hsw.out]; simp [ownSwV, e1, e2, e3, e4, e5, e6]
        subst hs
        obtain rfl : r = false := hN1.out rfl
        have e6' : ¬ op = 6 := fun h => e6 (.inl h)
        have e7' : ¬ op = 7 := fun h => e6 (.inr h)
        clear e6
        go_wp2_with fail
        all_goals first
          | (exfalso; omega)
          | (go_ret; exact ⟨rfl, hMB.out _ hm⟩)
          | (go_ret; exact ⟨rfl, hMB.out _ (hML.out _ _ _ hm (by simp) hbb3)⟩)
          | (go_ret; exact ⟨rfl, hMB.out _ (hML.out _ _ _ (hML.out _ _ _ hm (by simp) hbb3) rfl hbb4)⟩)
          | (go_meet; exact ⟨hm, ⟨by first | rfl | trivial⟩⟩)
          | (go_meet; exact ⟨hML.out _ _ _ hm (by simp) hbb3, ⟨by first | rfl | trivial⟩⟩)
          | (go_meet; exact ⟨hML.out _ _ _ (hML.out _ _ _ hm (by simp) hbb3) rfl hbb4, ⟨by first | rfl | trivial⟩⟩)
    case rest =>
      obtain ⟨hm, hs⟩ := hcut
      have hmid : OneMid q w wc := by rw [← HM.out]; exact hm
      have hBx := hMB.out _ hm
      have hr2 := HONE.out
      have hsq : sw = true := hs.out
      have hswq := HSW.out
      rw [HPQ.out] at hmid hr2 hswq
      rw [hsq] at hswq
      have hpb := hmid.box
      have hp1 := fun o => (bcell hpb).1 w.heap.size o (by omega)
      have htw := blkCell hmid.twin
      have hba : ∀ o, wc.cell? ⟨w.heap.size + 1 + 1, o, none⟩ = _ := blkCell hmid.bare
      have h3 : w.heap.size + 1 < wc.heap.size := (Array.getElem?_eq_some_iff.1 hmid.twin).1
      rw [ownP, hswq, Bool.true_and] at hr2
      clear hm hmid HM hM0 hML hMB hb2 hb3 hb4 hb0 hsw hna hce HONE HPQ hN1 hs hsq hswq HSW
      generalize flatP (noK (.mk op col cm ⟨nl, i, str⟩ kd pat ka kc kids)) (barePr (.mk op col cm ⟨nl, i, str⟩ kd pat ka kc kids)) = fl at *
      generalize barePr (.mk op col cm ⟨nl, i, str⟩ kd pat ka kc kids) = B at *
      obtain ⟨bop, bcol, bcm, ⟨bnl, bi, bstr⟩, bkd, bpat, bka, bkc, bkids⟩ := B
      simp only [Pr.v, encPr, noK, Pr.op, Pr.col, Pr.cmp, Pr.val, Pr.kind, Pr.pat, Pr.ka, Pr.kc, Pr.kids] at hpb htw hba hfl hp1
      change r = (tailV op kids.length fl && kids.all (fun k => kidV (oneN d k) op k.op)) at hr2
      have hpb := Asd.mk hpb
      by_cases hk0 : kids = []
      · rw [tailV_yes (by rw [hk0]; simp)] at hr2
        subst hk0
        simp only [List.all_nil, Bool.and_true] at hr2
        subst hr2
        by_cases h5 : op < 5
        all_goals
          go_wp2_with fail
          go_call (hfl _) as e w1 ⟨rfl, hb1⟩
          have hp2 := fun o => ((bcell hb1).1 w.heap.size o (by omega)).trans (hp1 o)
          cases r with
          | false =>
            go_wp2_with fail
            go_ret
            exact ⟨rfl, bnext hBx hb1⟩
          | true =>
            go_wp2_with fail
            go_rounds 1
            all_goals go_ret
            all_goals exact ⟨rfl, bnext hBx hb1⟩
      have hlp : 0 < kids.length := by
        cases kids
        · exact absurd rfl hk0
        · rw [List.length_cons]; omega
      by_cases h5 : op < 5
      · obtain rfl : r = false := by rw [hr2, tailV_no h5 (by omega)]; rfl
        clear hr2
        go_wp2_with fail
        go_ret
        exact ⟨rfl, hBx⟩
      · rw [tailV_yes (fun h => h5 h.1)] at hr2
        have HR2 := Asd.mk hr2
        clear hr2
        have h5'' : 5 ≤ op := by omega
        clear h5
        go_wp2_with fail
        go_call (hfl _) as e w1 ⟨rfl, hb1⟩
        have hp2 := fun o => ((bcell hb1).1 w.heap.size o (by omega)).trans (hp1 o)
        have hB2 : Below (w.heap.size + 1) (w.alloc (Obj.cells #[Value.int IntKind.i64 op, Value.string col, Value.int IntKind.i64 cm, Value.bool nl, Value.int IntKind.i64 i, Value.string str, Value.int IntKind.i64 kd, Value.string pat, Value.slice ka kids.length kc] 26)) w1 := hpb.out.trans (hb1.mono (by omega))
        clear hp1 htw hba hfl
        cases fl with
        | false =>
          obtain rfl : r = false := by rw [HR2.out]; rfl
          go_wp2_with fail
          go_ret
          exact ⟨rfl, bnext hBx hb1⟩
        | true =>
          have hT : Asd ((∀ j, (hj : j < kids.length) → kidV (oneN d kids[j]) op kids[j].op = true) → r = true) := ⟨fun h => by
            rw [HR2.out, Bool.true_and, List.all_eq_true]; intro x hx; obtain ⟨j, hj, rfl⟩ := List.getElem_of_mem hx; exact h j hj⟩
          have hF : Asd (∀ j, (hj : j < kids.length) → kidV (oneN d kids[j]) op kids[j].op = false → r = false) := ⟨fun j hj h => by
            rw [HR2.out, Bool.true_and, List.all_eq_false]; exact ⟨_, List.getElem_mem hj, by simp [h]⟩⟩
          clear HR2
          go_wp2_with fail
          clear hp2
          go_loopw [5] (fun v wr => ∃ k : Nat, v = .int .i64 k ∧ k ≤ kids.length ∧ Asd (Below (w.heap.size + 1) (w.alloc (Obj.cells #[Value.int IntKind.i64 op, Value.string col, Value.int IntKind.i64 cm, Value.bool nl, Value.int IntKind.i64 i, Value.string str, Value.int IntKind.i64 kd, Value.string pat, Value.slice ka kids.length kc] 26)) wr) ∧ Asd (∀ j, (hj : j < kids.length) → j < k → kidV (oneN d kids[j]) op kids[j].op = true)) (fun v _ => kids.length - (intOf v).toNat)
          case atStart => exact ⟨0, rfl, Nat.zero_le _, ⟨hB2⟩, ⟨fun j hj h => absurd h (by omega)⟩⟩
          case round =>
            obtain ⟨k, rfl, hk, hB, hpre⟩ := hrel
            clear hBx hB2 hb1
            have hBw := hB1.trans (hB.out.mono (by omega))
            have hp1 := fun o => (bcell hB.out).1 w.heap.size o (by omega)
            have hwr : w.heap.size < wr.heap.size := by have := hB.out.size; simp at this; omega
            by_cases hlt : k < kids.length
            · obtain ⟨b, off, rfl, hbl, hcs⟩ := hrow.out.at_ (by omega)
              obtain ⟨c0, c1, c2, c3, c4, c5, c6, c7, c8⟩ := prCells (o := off + k * 9) hBw hbl (hcs k hlt)
              have hcall := fun W (h : Below w.heap.size w W) => IH.out kids[k] W ((hall.out _ (List.getElem_mem hlt)).low h) (hdk.out _ (List.getElem_mem hlt))
              have hFk := hF.out k hlt
              have hpk := hpre.out
              have hstep : Asd (kidV (oneN d kids[k]) op kids[k].op = true → ∀ j, (hj : j < kids.length) → j < k + 1 → kidV (oneN d kids[j]) op kids[j].op = true) := ⟨fun h j hj hjk => by
                by_cases e : j = k
                · subst e; exact h
                · exact hpk j hj (by omega)⟩
              clear hcs hpk hpre
              generalize hsy : oneN d kids[k] = sy at *
              generalize kids[k] = y at *
              clear hsy
              simp only [Pr.v, encPr] at hcall
              generalize hyo : y.op = yo at *
              have hdrw := hBw.drew
              cases sy with
              | false =>
                obtain rfl : r = false := hFk (by simp [kidV])
                clear hFk hstep
                go_wp2_with fail
                have hkeep : ∀ W, Below wr.heap.size wr W → (W.cell? ⟨w.heap.size, 0, none⟩ = some (.int .i64 op) ∧ W.cell? ⟨w.heap.size, 8, none⟩ = some (.slice (some ⟨b, off, none⟩) kids.length kc) ∧ W.cell? ⟨b, off + k * 9, none⟩ = some (.int .i64 yo) ∧ W.cell? ⟨b, off + k * 9 + 1, none⟩ = some (.string y.col) ∧ W.cell? ⟨b, off + k * 9 + 2, none⟩ = some (.int .i64 y.cmp) ∧ W.cell? ⟨b, off + k * 9 + 3, none⟩ = some (.bool y.val.nl) ∧ W.cell? ⟨b, off + k * 9 + 4, none⟩ = some (.int .i64 y.val.i) ∧ W.cell? ⟨b, off + k * 9 + 5, none⟩ = some (.string y.val.s) ∧ W.cell? ⟨b, off + k * 9 + 6, none⟩ = some (.int .i64 y.kind) ∧ W.cell? ⟨b, off + k * 9 + 7, none⟩ = some (.string y.pat) ∧ W.cell? ⟨b, off + k * 9 + 8, none⟩ = some (.slice y.ka y.kids.length y.kc)) := by
                  intro W hW
                  have hbw : b < wr.heap.size := by omega
                  have g := fun o => hW.cell (p := ⟨b, o, none⟩) hbw
                  have g2 := fun o => hW.cell (p := ⟨w.heap.size, o, none⟩) hwr
                  refine ⟨?_, ?_, (g _).trans c0, (g _).trans c1, (g _).trans c2, (g _).trans c3, (g _).trans c4, (g _).trans c5, (g _).trans c6, (g _).trans c7, (g _).trans c8⟩
                  · rw [g2, hp1]; simp
                  · rw [g2, hp1]; simp
                have HKEEP := Asd.mk hkeep
                clear hkeep
                refine start_ (n := 23) (S := fun w' => w'.cell? ⟨w.heap.size, 0, none⟩ = some (.int .i64 op) ∧ w'.cell? ⟨w.heap.size, 8, none⟩ = some (.slice (some ⟨b, off, none⟩) kids.length kc) ∧ w'.cell? ⟨b, off + k * 9, none⟩ = some (.int .i64 yo) ∧ w'.cell? ⟨b, off + k * 9 + 1, none⟩ = some (.string y.col) ∧ w'.cell? ⟨b, off + k * 9 + 2, none⟩ = some (.int .i64 y.cmp) ∧ w'.cell? ⟨b, off + k * 9 + 3, none⟩ = some (.bool y.val.nl) ∧ w'.cell? ⟨b, off + k * 9 + 4, none⟩ = some (.int .i64 y.val.i) ∧ w'.cell? ⟨b, off + k * 9 + 5, none⟩ = some (.string y.val.s) ∧ w'.cell? ⟨b, off + k * 9 + 6, none⟩ = some (.int .i64 y.kind) ∧ w'.cell? ⟨b, off + k * 9 + 7, none⟩ = some (.string y.pat) ∧ w'.cell? ⟨b, off + k * 9 + 8, none⟩ = some (.slice y.ka y.kids.length y.kc)) (ds := []) #[false, false, false, false, false, false, false, false, false, false, false, false, false, false, false, false, false, false, false, false, false, false, false] (by kernel_rfl) rfl rfl ⟨(HKEEP.out _ (Below.refl _ _).drew).1, (HKEEP.out _ (Below.refl _ _).drew).2.1, (HKEEP.out _ (Below.refl _ _).drew).2.2.1, (HKEEP.out _ (Below.refl _ _).drew).2.2.2.1, (HKEEP.out _ (Below.refl _ _).drew).2.2.2.2.1, (HKEEP.out _ (Below.refl _ _).drew).2.2.2.2.2.1, (HKEEP.out _ (Below.refl _ _).drew).2.2.2.2.2.2.1, (HKEEP.out _ (Below.refl _ _).drew).2.2.2.2.2.2.2.1, (HKEEP.out _ (Below.refl _ _).drew).2.2.2.2.2.2.2.2.1, (HKEEP.out _ (Below.refl _ _).drew).2.2.2.2.2.2.2.2.2.1, (HKEEP.out _ (Below.refl _ _).drew).2.2.2.2.2.2.2.2.2.2⟩ (fun hHeld => ?_)
                refine pure_ (i := 0) (N := some 115) (v := ?_) (a' := ?_) #[true, false, false, false, false, false, false, false, false, false, false, false, false, false, false, false, false, false, false, false, false, false, false] rfl rfl (by kernel_rfl) (fun _ _ _ h => h) (Or.inl ⟨by rfl, ?_⟩) ?_ ?_
                rotate_left
                · intro w'
                  go_simp
                  with_reducible rfl
                rotate_left
                · simp only [Act.put, List.setIfInBounds_toArray, List.set_cons_zero, List.set_cons_succ, i64_w, i32_w]
                  rfl
                refine pure_ (i := 2) (N := some 117) (v := ?_) (a' := ?_) #[true, false, true, false, false, false, false, false, false, false, false, false, false, false, false, false, false, false, false, false, false, false, false] rfl rfl (by kernel_rfl) (fun _ _ _ h => h) (Or.inl ⟨by rfl, ?_⟩) ?_ ?_
                rotate_left
                · intro w'
                  go_simp
                  with_reducible rfl
                rotate_left
                · simp only [Act.put, List.setIfInBounds_toArray, List.set_cons_zero, List.set_cons_succ, i64_w, i32_w]
                  rfl
                refine take_ (i := 1) (N := some 116) (v := ?_) (a' := ?_) #[true, true, true, false, false, false, false, false, false, false, false, false, false, false, false, false, false, false, false, false, false, false, false] rfl rfl (by kernel_rfl) (fun _ _ _ h => h) (Or.inl ⟨by rfl, ?_⟩) hHeld ?_ ?_
                rotate_left
                · rintro w' ⟨s0, s1, s2, s3, s4, s5, s6, s7, s8, s9, s10⟩
                  go_simp
                  with_reducible rfl
                rotate_left
                · simp only [Act.put, List.setIfInBounds_toArray, List.set_cons_zero, List.set_cons_succ, i64_w, i32_w]
                  rfl
                refine pure_ (i := 3) (N := some 118) (v := ?_) (a' := ?_) #[true, true, true, true, false, false, false, false, false, false, false, false, false, false, false, false, false, false, false, false, false, false, false] rfl rfl (by kernel_rfl) (fun _ _ _ h => h) (Or.inl ⟨by rfl, ?_⟩) ?_ ?_
                rotate_left
                · intro w'
                  go_simp
                  with_reducible rfl
                rotate_left
                · simp only [Act.put, List.setIfInBounds_toArray, List.set_cons_zero, List.set_cons_succ, i64_w, i32_w]
                  rfl
                refine take_ (i := 4) (N := some 119) (v := ?_) (a' := ?_) #[true, true, true, true, true, false, false, false, false, false, false, false, false, false, false, false, false, false, false, false, false, false, false] rfl rfl (by kernel_rfl) (fun _ _ _ h => h) (Or.inl ⟨by rfl, ?_⟩) hHeld ?_ ?_
                rotate_left
                · rintro w' ⟨s0, s1, s2, s3, s4, s5, s6, s7, s8, s9, s10⟩
                  go_simp
                  with_reducible rfl
                rotate_left
                · simp only [Act.put, List.setIfInBounds_toArray, List.set_cons_zero, List.set_cons_succ, i64_w, i32_w]
                  rfl
                refine one_ (i := 5) (N := some 120) #[true, true, true, true, true, true, false, false, false, false, false, false, false, false, false, false, false, false, false, false, false, false, false] rfl rfl (by kernel_rfl) (by decide) (fun K hK => ?_)
                refine goes_ Tryd.func31 (by kernel_rfl) rfl #[.agg #[.int .i64 yo, .string y.col, .int .i64 y.cmp, .bool y.val.nl, .int .i64 y.val.i, .string y.val.s, .int .i64 y.kind, .string y.pat, .slice y.ka y.kids.length y.kc]] (by rfl) rfl rfl (by simp only [List.map_toArray, List.map_cons, List.map_nil]; rfl) ?_
                with_reducible refine (hcall _ hBw.drew).mono ?_
                rintro e w2 ⟨rfl, hb2⟩
                refine ⟨_, rfl, ?_⟩
                refine hK.out _ _ ⟨(HKEEP.out _ (bundrew hb2)).1, (HKEEP.out _ (bundrew hb2)).2.1, (HKEEP.out _ (bundrew hb2)).2.2.1, (HKEEP.out _ (bundrew hb2)).2.2.2.1, (HKEEP.out _ (bundrew hb2)).2.2.2.2.1, (HKEEP.out _ (bundrew hb2)).2.2.2.2.2.1, (HKEEP.out _ (bundrew hb2)).2.2.2.2.2.2.1, (HKEEP.out _ (bundrew hb2)).2.2.2.2.2.2.2.1, (HKEEP.out _ (bundrew hb2)).2.2.2.2.2.2.2.2.1, (HKEEP.out _ (bundrew hb2)).2.2.2.2.2.2.2.2.2.1, (HKEEP.out _ (bundrew hb2)).2.2.2.2.2.2.2.2.2.2⟩ (fun hHeld => ?_)
                clear hK K
                refine norm_ (a' := ?_) ?_ ?_
                rotate_left
                · show Act.put _ (some 120) _ = _
                  simp only [Act.put, List.setIfInBounds_toArray, List.set_cons_zero, List.set_cons_succ, i64_w, i32_w]
                  rfl
                refine pure_ (i := 6) (N := some 121) (v := ?_) (a' := ?_) #[true, true, true, true, true, true, true, false, false, false, false, false, false, false, false, false, false, false, false, false, false, false, false] rfl rfl (by kernel_rfl) (fun _ _ _ h => h) (Or.inl ⟨by rfl, ?_⟩) ?_ ?_
                rotate_left
                · intro w'
                  go_simp
                  with_reducible rfl
                rotate_left
                · simp only [Act.put, List.setIfInBounds_toArray, List.set_cons_zero, List.set_cons_succ, i64_w, i32_w]
                  rfl
                refine pure_ (i := 7) (N := some 122) (v := ?_) (a' := ?_) #[true, true, true, true, true, true, true, true, false, false, false, false, false, false, false, false, false, false, false, false, false, false, false] rfl rfl (by kernel_rfl) (fun _ _ _ h => h) (Or.inl ⟨by rfl, ?_⟩) ?_ ?_
                rotate_left
                · intro w'
                  go_simp
                  with_reducible rfl
                rotate_left
                · simp only [Act.put, List.setIfInBounds_toArray, List.set_cons_zero, List.set_cons_succ, i64_w, i32_w]
                  rfl
                refine pure_ (i := 8) (N := some 123) (v := undef) (a' := ?_) #[true, true, true, true, true, true, true, true, true, false, false, false, false, false, false, false, false, false, false, false, false, false, false] rfl rfl (by kernel_rfl) (fun _ _ _ h => h) (Or.inr ⟨by rfl, rfl⟩) ?_ ?_
                rotate_left
                · simp only [Act.put, List.setIfInBounds_toArray, List.set_cons_zero, List.set_cons_succ, i64_w, i32_w]
                  rfl
                refine pure_ (i := 9) (N := some 124) (v := undef) (a' := ?_) #[true, true, true, true, true, true, true, true, true, true, false, false, false, false, false, false, false, false, false, false, false, false, false] rfl rfl (by kernel_rfl) (fun _ _ _ h => h) (Or.inr ⟨by rfl, rfl⟩) ?_ ?_
                rotate_left
                · simp only [Act.put, List.setIfInBounds_toArray, List.set_cons_zero, List.set_cons_succ, i64_w, i32_w]
                  rfl
                refine pure_ (i := 10) (N := some 125) (v := undef) (a' := ?_) #[true, true, true, true, true, true, true, true, true, true, true, false, false, false, false, false, false, false, false, false, false, false, false] rfl rfl (by kernel_rfl) (fun _ _ _ h => h) (Or.inr ⟨by rfl, rfl⟩) ?_ ?_
                rotate_left
                · simp only [Act.put, List.setIfInBounds_toArray, List.set_cons_zero, List.set_cons_succ, i64_w, i32_w]
                  rfl
                refine pure_ (i := 11) (N := some 126) (v := undef) (a' := ?_) #[true, true, true, true, true, true, true, true, true, true, true, true, false, false, false, false, false, false, false, false, false, false, false] rfl rfl (by kernel_rfl) (fun _ _ _ h => h) (Or.inr ⟨by rfl, rfl⟩) ?_ ?_
                rotate_left
                · simp only [Act.put, List.setIfInBounds_toArray, List.set_cons_zero, List.set_cons_succ, i64_w, i32_w]
                  rfl
                refine pure_ (i := 12) (N := some 127) (v := undef) (a' := ?_) #[true, true, true, true, true, true, true, true, true, true, true, true, true, false, false, false, false, false, false, false, false, false, false] rfl rfl (by kernel_rfl) (fun _ _ _ h => h) (Or.inr ⟨by rfl, rfl⟩) ?_ ?_
                rotate_left
                · simp only [Act.put, List.setIfInBounds_toArray, List.set_cons_zero, List.set_cons_succ, i64_w, i32_w]
                  rfl
                refine pure_ (i := 13) (N := some 128) (v := undef) (a' := ?_) #[true, true, true, true, true, true, true, true, true, true, true, true, true, true, false, false, false, false, false, false, false, false, false] rfl rfl (by kernel_rfl) (fun _ _ _ h => h) (Or.inr ⟨by rfl, rfl⟩) ?_ ?_
                rotate_left
                · simp only [Act.put, List.setIfInBounds_toArray, List.set_cons_zero, List.set_cons_succ, i64_w, i32_w]
                  rfl
                refine pure_ (i := 14) (N := some 129) (v := undef) (a' := ?_) #[true, true, true, true, true, true, true, true, true, true, true, true, true, true, true, false, false, false, false, false, false, false, false] rfl rfl (by kernel_rfl) (fun _ _ _ h => h) (Or.inr ⟨by rfl, rfl⟩) ?_ ?_
                rotate_left
                · simp only [Act.put, List.setIfInBounds_toArray, List.set_cons_zero, List.set_cons_succ, i64_w, i32_w]
                  rfl
                refine pure_ (i := 15) (N := some 130) (v := undef) (a' := ?_) #[true, true, true, true, true, true, true, true, true, true, true, true, true, true, true, true, false, false, false, false, false, false, false] rfl rfl (by kernel_rfl) (fun _ _ _ h => h) (Or.inr ⟨by rfl, rfl⟩) ?_ ?_
                rotate_left
                · simp only [Act.put, List.setIfInBounds_toArray, List.set_cons_zero, List.set_cons_succ, i64_w, i32_w]
                  rfl
                refine pure_ (i := 16) (N := some 131) (v := undef) (a' := ?_) #[true, true, true, true, true, true, true, true, true, true, true, true, true, true, true, true, true, false, false, false, false, false, false] rfl rfl (by kernel_rfl) (fun _ _ _ h => h) (Or.inr ⟨by rfl, rfl⟩) ?_ ?_
                rotate_left
                · simp only [Act.put, List.setIfInBounds_toArray, List.set_cons_zero, List.set_cons_succ, i64_w, i32_w]
                  rfl
                refine pure_ (i := 17) (N := some 132) (v := undef) (a' := ?_) #[true, true, true, true, true, true, true, true, true, true, true, true, true, true, true, true, true, true, false, false, false, false, false] rfl rfl (by kernel_rfl) (fun _ _ _ h => h) (Or.inr ⟨by rfl, rfl⟩) ?_ ?_
                rotate_left
                · simp only [Act.put, List.setIfInBounds_toArray, List.set_cons_zero, List.set_cons_succ, i64_w, i32_w]
                  rfl
                refine pure_ (i := 18) (N := some 133) (v := undef) (a' := ?_) #[true, true, true, true, true, true, true, true, true, true, true, true, true, true, true, true, true, true, true, false, false, false, false] rfl rfl (by kernel_rfl) (fun _ _ _ h => h) (Or.inr ⟨by rfl, rfl⟩) ?_ ?_
                rotate_left
                · simp only [Act.put, List.setIfInBounds_toArray, List.set_cons_zero, List.set_cons_succ, i64_w, i32_w]
                  rfl
                refine pure_ (i := 19) (N := some 134) (v := undef) (a' := ?_) #[true, true, true, true, true, true, true, true, true, true, true, true, true, true, true, true, true, true, true, true, false, false, false] rfl rfl (by kernel_rfl) (fun _ _ _ h => h) (Or.inr ⟨by rfl, rfl⟩) ?_ ?_
                rotate_left
                · simp only [Act.put, List.setIfInBounds_toArray, List.set_cons_zero, List.set_cons_succ, i64_w, i32_w]
                  rfl
                refine pure_ (i := 20) (N := some 135) (v := undef) (a' := ?_) #[true, true, true, true, true, true, true, true, true, true, true, true, true, true, true, true, true, true, true, true, true, false, false] rfl rfl (by kernel_rfl) (fun _ _ _ h => h) (Or.inr ⟨by rfl, rfl⟩) ?_ ?_
                rotate_left
                · simp only [Act.put, List.setIfInBounds_toArray, List.set_cons_zero, List.set_cons_succ, i64_w, i32_w]
                  rfl
                refine pure_ (i := 21) (N := some 136) (v := undef) (a' := ?_) #[true, true, true, true, true, true, true, true, true, true, true, true, true, true, true, true, true, true, true, true, true, true, false] rfl rfl (by kernel_rfl) (fun _ _ _ h => h) (Or.inr ⟨by rfl, rfl⟩) ?_ ?_
                rotate_left
                · simp only [Act.put, List.setIfInBounds_toArray, List.set_cons_zero, List.set_cons_succ, i64_w, i32_w]
                  rfl
                refine pure_ (i := 22) (N := some 137) (v := ?_) (a' := ?_) #[true, true, true, true, true, true, true, true, true, true, true, true, true, true, true, true, true, true, true, true, true, true, true] rfl rfl (by kernel_rfl) (fun _ _ _ h => h) (Or.inl ⟨by rfl, ?_⟩) ?_ ?_
                rotate_left
                · intro w'
                  go_simp
                  with_reducible rfl
                rotate_left
                · simp only [Act.put, List.setIfInBounds_toArray, List.set_cons_zero, List.set_cons_succ, i64_w, i32_w]
                  rfl
                refine done_ (by kernel_rfl) ?_
                all_goals go_wp2_with fail
                all_goals (go_ret; exact ⟨rfl, bnext hBw (bundrew hb2)⟩)
              | true =>
                by_cases h6 : 6 ≤ op
                · by_cases heq : yo = op
                  · obtain rfl : r = false := hFk (by simp [kidV, h6, heq])
                    clear hFk hstep
                    have heq' : (yo == op) = true := by simpa using heq
                    have h6' : decide (6 ≤ op) = true := by simpa using h6
                    have HEQ := Asd.mk heq
                    clear heq
                    go_wp2_with fail
                    have hkeep : ∀ W, Below wr.heap.size wr W → (W.cell? ⟨w.heap.size, 0, none⟩ = some (.int .i64 op) ∧ W.cell? ⟨w.heap.size, 8, none⟩ = some (.slice (some ⟨b, off, none⟩) kids.length kc) ∧ W.cell? ⟨b, off + k * 9, none⟩ = some (.int .i64 yo) ∧ W.cell? ⟨b, off + k * 9 + 1, none⟩ = some (.string y.col) ∧ W.cell? ⟨b, off + k * 9 + 2, none⟩ = some (.int .i64 y.cmp) ∧ W.cell? ⟨b, off + k * 9 + 3, none⟩ = some (.bool y.val.nl) ∧ W.cell? ⟨b, off + k * 9 + 4, none⟩ = some (.int .i64 y.val.i) ∧ W.cell? ⟨b, off + k * 9 + 5, none⟩ = some (.string y.val.s) ∧ W.cell? ⟨b, off + k * 9 + 6, none⟩ = some (.int .i64 y.kind) ∧ W.cell? ⟨b, off + k * 9 + 7, none⟩ = some (.string y.pat) ∧ W.cell? ⟨b, off + k * 9 + 8, none⟩ = some (.slice y.ka y.kids.length y.kc)) := by
                      intro W hW
                      have hbw : b < wr.heap.size := by omega
                      have g := fun o => hW.cell (p := ⟨b, o, none⟩) hbw
                      have g2 := fun o => hW.cell (p := ⟨w.heap.size, o, none⟩) hwr
                      refine ⟨?_, ?_, (g _).trans c0, (g _).trans c1, (g _).trans c2, (g _).trans c3, (g _).trans c4, (g _).trans c5, (g _).trans c6, (g _).trans c7, (g _).trans c8⟩
                      · rw [g2, hp1]; simp
                      · rw [g2, hp1]; simp
                    have HKEEP := Asd.mk hkeep
                    clear hkeep
                    refine start_ (n := 23) (S := fun w' => w'.cell? ⟨w.heap.size, 0, none⟩ = some (.int .i64 op) ∧ w'.cell? ⟨w.heap.size, 8, none⟩ = some (.slice (some ⟨b, off, none⟩) kids.length kc) ∧ w'.cell? ⟨b, off + k * 9, none⟩ = some (.int .i64 yo) ∧ w'.cell? ⟨b, off + k * 9 + 1, none⟩ = some (.string y.col) ∧ w'.cell? ⟨b, off + k * 9 + 2, none⟩ = some (.int .i64 y.cmp) ∧ w'.cell? ⟨b, off + k * 9 + 3, none⟩ = some (.bool y.val.nl) ∧ w'.cell? ⟨b, off + k * 9 + 4, none⟩ = some (.int .i64 y.val.i) ∧ w'.cell? ⟨b, off + k * 9 + 5, none⟩ = some (.string y.val.s) ∧ w'.cell? ⟨b, off + k * 9 + 6, none⟩ = some (.int .i64 y.kind) ∧ w'.cell? ⟨b, off + k * 9 + 7, none⟩ = some (.string y.pat) ∧ w'.cell? ⟨b, off + k * 9 + 8, none⟩ = some (.slice y.ka y.kids.length y.kc)) (ds := []) #[false, false, false, false, false, false, false, false, false, false, false, false, false, false, false, false, false, false, false, false, false, false, false] (by kernel_rfl) rfl rfl ⟨(HKEEP.out _ (Below.refl _ _).drew).1, (HKEEP.out _ (Below.refl _ _).drew).2.1, (HKEEP.out _ (Below.refl _ _).drew).2.2.1, (HKEEP.out _ (Below.refl _ _).drew).2.2.2.1, (HKEEP.out _ (Below.refl _ _).drew).2.2.2.2.1, (HKEEP.out _ (Below.refl _ _).drew).2.2.2.2.2.1, (HKEEP.out _ (Below.refl _ _).drew).2.2.2.2.2.2.1, (HKEEP.out _ (Below.refl _ _).drew).2.2.2.2.2.2.2.1, (HKEEP.out _ (Below.refl _ _).drew).2.2.2.2.2.2.2.2.1, (HKEEP.out _ (Below.refl _ _).drew).2.2.2.2.2.2.2.2.2.1, (HKEEP.out _ (Below.refl _ _).drew).2.2.2.2.2.2.2.2.2.2⟩ (fun hHeld => ?_)
                    refine pure_ (i := 0) (N := some 115) (v := ?_) (a' := ?_) #[true, false, false, false, false, false, false, false, false, false, false, false, false, false, false, false, false, false, false, false, false, false, false] rfl rfl (by kernel_rfl) (fun _ _ _ h => h) (Or.inl ⟨by rfl, ?_⟩) ?_ ?_
                    rotate_left
                    · intro w'
                      go_simp
                      with_reducible rfl
                    rotate_left
                    · simp only [Act.put, List.setIfInBounds_toArray, List.set_cons_zero, List.set_cons_succ, i64_w, i32_w]
                      rfl
                    refine pure_ (i := 2) (N := some 117) (v := ?_) (a' := ?_) #[true, false, true, false, false, false, false, false, false, false, false, false, false, false, false, false, false, false, false, false, false, false, false] rfl rfl (by kernel_rfl) (fun _ _ _ h => h) (Or.inl ⟨by rfl, ?_⟩) ?_ ?_
                    rotate_left
                    · intro w'
                      go_simp
                      with_reducible rfl
                    rotate_left
                    · simp only [Act.put, List.setIfInBounds_toArray, List.set_cons_zero, List.set_cons_succ, i64_w, i32_w]
                      rfl
                    refine take_ (i := 1) (N := some 116) (v := ?_) (a' := ?_) #[true, true, true, false, false, false, false, false, false, false, false, false, false, false, false, false, false, false, false, false, false, false, false] rfl rfl (by kernel_rfl) (fun _ _ _ h => h) (Or.inl ⟨by rfl, ?_⟩) hHeld ?_ ?_
                    rotate_left
                    · rintro w' ⟨s0, s1, s2, s3, s4, s5, s6, s7, s8, s9, s10⟩
                      go_simp
                      with_reducible rfl
                    rotate_left
                    · simp only [Act.put, List.setIfInBounds_toArray, List.set_cons_zero, List.set_cons_succ, i64_w, i32_w]
                      rfl
                    refine pure_ (i := 3) (N := some 118) (v := ?_) (a' := ?_) #[true, true, true, true, false, false, false, false, false, false, false, false, false, false, false, false, false, false, false, false, false, false, false] rfl rfl (by kernel_rfl) (fun _ _ _ h => h) (Or.inl ⟨by rfl, ?_⟩) ?_ ?_
                    rotate_left
                    · intro w'
                      go_simp
                      with_reducible rfl
                    rotate_left
                    · simp only [Act.put, List.setIfInBounds_toArray, List.set_cons_zero, List.set_cons_succ, i64_w, i32_w]
                      rfl
                    refine take_ (i := 4) (N := some 119) (v := ?_) (a' := ?_) #[true, true, true, true, true, false, false, false, false, false, false, false, false, false, false, false, false, false, false, false, false, false, false] rfl rfl (by kernel_rfl) (fun _ _ _ h => h) (Or.inl ⟨by rfl, ?_⟩) hHeld ?_ ?_
                    rotate_left
                    · rintro w' ⟨s0, s1, s2, s3, s4, s5, s6, s7, s8, s9, s10⟩
                      go_simp
                      with_reducible rfl
                    rotate_left
                    · simp only [Act.put, List.setIfInBounds_toArray, List.set_cons_zero, List.set_cons_succ, i64_w, i32_w]
                      rfl
                    refine one_ (i := 5) (N := some 120) #[true, true, true, true, true, true, false, false, false, false, false, false, false, false, false, false, false, false, false, false, false, false, false] rfl rfl (by kernel_rfl) (by decide) (fun K hK => ?_)
                    refine goes_ Tryd.func31 (by kernel_rfl) rfl #[.agg #[.int .i64 yo, .string y.col, .int .i64 y.cmp, .bool y.val.nl, .int .i64 y.val.i, .string y.val.s, .int .i64 y.kind, .string y.pat, .slice y.ka y.kids.length y.kc]] (by rfl) rfl rfl (by simp only [List.map_toArray, List.map_cons, List.map_nil]; rfl) ?_
                    with_reducible refine (hcall _ hBw.drew).mono ?_
                    rintro e w2 ⟨rfl, hb2⟩
                    refine ⟨_, rfl, ?_⟩
                    refine hK.out _ _ ⟨(HKEEP.out _ (bundrew hb2)).1, (HKEEP.out _ (bundrew hb2)).2.1, (HKEEP.out _ (bundrew hb2)).2.2.1, (HKEEP.out _ (bundrew hb2)).2.2.2.1, (HKEEP.out _ (bundrew hb2)).2.2.2.2.1, (HKEEP.out _ (bundrew hb2)).2.2.2.2.2.1, (HKEEP.out _ (bundrew hb2)).2.2.2.2.2.2.1, (HKEEP.out _ (bundrew hb2)).2.2.2.2.2.2.2.1, (HKEEP.out _ (bundrew hb2)).2.2.2.2.2.2.2.2.1, (HKEEP.out _ (bundrew hb2)).2.2.2.2.2.2.2.2.2.1, (HKEEP.out _ (bundrew hb2)).2.2.2.2.2.2.2.2.2.2⟩ (fun hHeld => ?_)
                    clear hK K
                    refine norm_ (a' := ?_) ?_ ?_
                    rotate_left
                    · show Act.put _ (some 120) _ = _
                      simp only [Act.put, List.setIfInBounds_toArray, List.set_cons_zero, List.set_cons_succ, i64_w, i32_w]
                      rfl
                    refine pure_ (i := 6) (N := some 121) (v := ?_) (a' := ?_) #[true, true, true, true, true, true, true, false, false, false, false, false, false, false, false, false, false, false, false, false, false, false, false] rfl rfl (by kernel_rfl) (fun _ _ _ h => h) (Or.inl ⟨by rfl, ?_⟩) ?_ ?_
                    rotate_left
                    · intro w'
                      go_simp
                      with_reducible rfl
                    rotate_left
                    · simp only [Act.put, List.setIfInBounds_toArray, List.set_cons_zero, List.set_cons_succ, i64_w, i32_w]
                      rfl
                    refine pure_ (i := 7) (N := some 122) (v := ?_) (a' := ?_) #[true, true, true, true, true, true, true, true, false, false, false, false, false, false, false, false, false, false, false, false, false, false, false] rfl rfl (by kernel_rfl) (fun _ _ _ h => h) (Or.inl ⟨by rfl, ?_⟩) ?_ ?_
                    rotate_left
                    · intro w'
                      go_simp
                      with_reducible rfl
                    rotate_left
                    · simp only [Act.put, List.setIfInBounds_toArray, List.set_cons_zero, List.set_cons_succ, i64_w, i32_w]
                      rfl
                    refine pure_ (i := 8) (N := some 123) (v := ?_) (a' := ?_) #[true, true, true, true, true, true, true, true, true, false, false, false, false, false, false, false, false, false, false, false, false, false, false] rfl rfl (by kernel_rfl) (fun _ _ _ h => h) (Or.inl ⟨by rfl, ?_⟩) ?_ ?_
                    rotate_left
                    · intro w'
                      go_simp
                      with_reducible rfl
                    rotate_left
                    · simp only [Act.put, List.setIfInBounds_toArray, List.set_cons_zero, List.set_cons_succ, i64_w, i32_w]
                      rfl
                    refine take_ (i := 9) (N := some 124) (v := ?_) (a' := ?_) #[true, true, true, true, true, true, true, true, true, true, false, false, false, false, false, false, false, false, false, false, false, false, false] rfl rfl (by kernel_rfl) (fun _ _ _ h => h) (Or.inl ⟨by rfl, ?_⟩) hHeld ?_ ?_
                    rotate_left
                    · rintro w' ⟨s0, s1, s2, s3, s4, s5, s6, s7, s8, s9, s10⟩
                      go_simp
                      with_reducible rfl
                    rotate_left
                    · simp only [Act.put, List.setIfInBounds_toArray, List.set_cons_zero, List.set_cons_succ, i64_w, i32_w]
                      rfl
                    refine pure_ (i := 10) (N := some 125) (v := ?_) (a' := ?_) #[true, true, true, true, true, true, true, true, true, true, true, false, false, false, false, false, false, false, false, false, false, false, false] rfl rfl (by kernel_rfl) (fun _ _ _ h => h) (Or.inl ⟨by rfl, ?_⟩) ?_ ?_
                    rotate_left
                    · intro w'
                      go_simp
                      with_reducible rfl
                    rotate_left
                    · simp only [Act.put, List.setIfInBounds_toArray, List.set_cons_zero, List.set_cons_succ, i64_w, i32_w]
                      rfl
                    refine pure_ (i := 11) (N := some 126) (v := ?_) (a' := ?_) #[true, true, true, true, true, true, true, true, true, true, true, true, false, false, false, false, false, false, false, false, false, false, false] rfl rfl (by kernel_rfl) (fun _ _ _ h => h) (Or.inl ⟨by rfl, ?_⟩) ?_ ?_
                    rotate_left
                    · intro w'
                      go_simp
                      with_reducible rfl
                    rotate_left
                    · simp only [Act.put, List.setIfInBounds_toArray, List.set_cons_zero, List.set_cons_succ, i64_w, i32_w]
                      rfl
                    refine pure_ (i := 12) (N := some 127) (v := ?_) (a' := ?_) #[true, true, true, true, true, true, true, true, true, true, true, true, true, false, false, false, false, false, false, false, false, false, false] rfl rfl (by kernel_rfl) (fun _ _ _ h => h) (Or.inl ⟨by rfl, ?_⟩) ?_ ?_
                    rotate_left
                    · intro w'
                      go_simp
                      with_reducible rfl
                    rotate_left
                    · simp only [Act.put, List.setIfInBounds_toArray, List.set_cons_zero, List.set_cons_succ, i64_w, i32_w]
                      rfl
                    refine pure_ (i := 14) (N := some 129) (v := ?_) (a' := ?_) #[true, true, true, true, true, true, true, true, true, true, true, true, true, false, true, false, false, false, false, false, false, false, false] rfl rfl (by kernel_rfl) (fun _ _ _ h => h) (Or.inl ⟨by rfl, ?_⟩) ?_ ?_
                    rotate_left
                    · intro w'
                      go_simp
                      with_reducible rfl
                    rotate_left
                    · simp only [Act.put, List.setIfInBounds_toArray, List.set_cons_zero, List.set_cons_succ, i64_w, i32_w]
                      rfl
                    refine pure_ (i := 18) (N := some 133) (v := ?_) (a' := ?_) #[true, true, true, true, true, true, true, true, true, true, true, true, true, false, true, false, false, false, true, false, false, false, false] rfl rfl (by kernel_rfl) (fun _ _ _ h => h) (Or.inl ⟨by rfl, ?_⟩) ?_ ?_
                    rotate_left
                    · intro w'
                      go_simp
                      with_reducible rfl
                    rotate_left
                    · simp only [Act.put, List.setIfInBounds_toArray, List.set_cons_zero, List.set_cons_succ, i64_w, i32_w]
                      rfl
                    refine take_ (i := 13) (N := some 128) (v := ?_) (a' := ?_) #[true, true, true, true, true, true, true, true, true, true, true, true, true, true, true, false, false, false, true, false, false, false, false] rfl rfl (by kernel_rfl) (fun _ _ _ h => h) (Or.inl ⟨by rfl, ?_⟩) hHeld ?_ ?_
                    rotate_left
                    · rintro w' ⟨s0, s1, s2, s3, s4, s5, s6, s7, s8, s9, s10⟩
                      go_simp
                      with_reducible rfl
                    rotate_left
                    · simp only [Act.put, List.setIfInBounds_toArray, List.set_cons_zero, List.set_cons_succ, i64_w, i32_w]
                      rfl
                    refine pure_ (i := 15) (N := some 130) (v := ?_) (a' := ?_) #[true, true, true, true, true, true, true, true, true, true, true, true, true, true, true, true, false, false, true, false, false, false, false] rfl rfl (by kernel_rfl) (fun _ _ _ h => h) (Or.inl ⟨by rfl, ?_⟩) ?_ ?_
                    rotate_left
                    · intro w'
                      go_simp
                      with_reducible rfl
                    rotate_left
                    · simp only [Act.put, List.setIfInBounds_toArray, List.set_cons_zero, List.set_cons_succ, i64_w, i32_w]
                      rfl
                    refine pure_ (i := 16) (N := some 131) (v := ?_) (a' := ?_) #[true, true, true, true, true, true, true, true, true, true, true, true, true, true, true, true, true, false, true, false, false, false, false] rfl rfl (by kernel_rfl) (fun _ _ _ h => h) (Or.inl ⟨by rfl, ?_⟩) ?_ ?_
                    rotate_left
                    · intro w'
                      go_simp
                      with_reducible rfl
                    rotate_left
                    · simp only [Act.put, List.setIfInBounds_toArray, List.set_cons_zero, List.set_cons_succ, i64_w, i32_w]
                      rfl
                    refine take_ (i := 17) (N := some 132) (v := ?_) (a' := ?_) #[true, true, true, true, true, true, true, true, true, true, true, true, true, true, true, true, true, true, true, false, false, false, false] rfl rfl (by kernel_rfl) (fun _ _ _ h => h) (Or.inl ⟨by rfl, ?_⟩) hHeld ?_ ?_
                    rotate_left
                    · rintro w' ⟨s0, s1, s2, s3, s4, s5, s6, s7, s8, s9, s10⟩
                      go_simp
                      with_reducible rfl
                    rotate_left
                    · simp only [Act.put, List.setIfInBounds_toArray, List.set_cons_zero, List.set_cons_succ, i64_w, i32_w]
                      rfl
                    refine take_ (i := 19) (N := some 134) (v := ?_) (a' := ?_) #[true, true, true, true, true, true, true, true, true, true, true, true, true, true, true, true, true, true, true, true, false, false, false] rfl rfl (by kernel_rfl) (fun _ _ _ h => h) (Or.inl ⟨by rfl, ?_⟩) hHeld ?_ ?_
                    rotate_left
                    · rintro w' ⟨s0, s1, s2, s3, s4, s5, s6, s7, s8, s9, s10⟩
                      go_simp
                      with_reducible rfl
                    rotate_left
                    · simp only [Act.put, List.setIfInBounds_toArray, List.set_cons_zero, List.set_cons_succ, i64_w, i32_w]
                      rfl
                    refine pure_ (i := 20) (N := some 135) (v := ?_) (a' := ?_) #[true, true, true, true, true, true, true, true, true, true, true, true, true, true, true, true, true, true, true, true, true, false, false] rfl rfl (by kernel_rfl) (fun _ _ _ h => h) (Or.inl ⟨by rfl, ?_⟩) ?_ ?_
                    rotate_left
                    · intro w'
                      go_simp
                      with_reducible rfl
                    rotate_left
                    · simp only [Act.put, List.setIfInBounds_toArray, List.set_cons_zero, List.set_cons_succ, i64_w, i32_w]
                      rfl
                    refine pure_ (i := 21) (N := some 136) (v := ?_) (a' := ?_) #[true, true, true, true, true, true, true, true, true, true, true, true, true, true, true, true, true, true, true, true, true, true, false] rfl rfl (by kernel_rfl) (fun _ _ _ h => h) (Or.inl ⟨by rfl, ?_⟩) ?_ ?_
                    rotate_left
                    · intro w'
                      go_simp
                      with_reducible rfl
                    rotate_left
                    · simp only [Act.put, List.setIfInBounds_toArray, List.set_cons_zero, List.set_cons_succ, i64_w, i32_w]
                      rfl
                    refine pure_ (i := 22) (N := some 137) (v := ?_) (a' := ?_) #[true, true, true, true, true, true, true, true, true, true, true, true, true, true, true, true, true, true, true, true, true, true, true] rfl rfl (by kernel_rfl) (fun _ _ _ h => h) (Or.inl ⟨by rfl, ?_⟩) ?_ ?_
                    rotate_left
                    · intro w'
                      go_simp
                      with_reducible rfl
                    rotate_left
                    · simp only [Act.put, List.setIfInBounds_toArray, List.set_cons_zero, List.set_cons_succ, i64_w, i32_w]
                      rfl
                    refine done_ (by kernel_rfl) ?_
                    all_goals go_wp2_with fail
                    all_goals (go_ret; exact ⟨rfl, bnext hBw (bundrew hb2)⟩)
                  · have hst := Asd.mk (hstep.out (by simp [kidV, heq]))
                    clear hFk hstep
                    have heq' : (yo == op) = false := by simpa using heq
                    have h6' : decide (6 ≤ op) = true := by simpa using h6
                    go_wp2_with fail
                    have hkeep : ∀ W, Below wr.heap.size wr W → (W.cell? ⟨w.heap.size, 0, none⟩ = some (.int .i64 op) ∧ W.cell? ⟨w.heap.size, 8, none⟩ = some (.slice (some ⟨b, off, none⟩) kids.length kc) ∧ W.cell? ⟨b, off + k * 9, none⟩ = some (.int .i64 yo) ∧ W.cell? ⟨b, off + k * 9 + 1, none⟩ = some (.string y.col) ∧ W.cell? ⟨b, off + k * 9 + 2, none⟩ = some (.int .i64 y.cmp) ∧ W.cell? ⟨b, off + k * 9 + 3, none⟩ = some (.bool y.val.nl) ∧ W.cell? ⟨b, off + k * 9 + 4, none⟩ = some (.int .i64 y.val.i) ∧ W.cell? ⟨b, off + k * 9 + 5, none⟩ = some (.string y.val.s) ∧ W.cell? ⟨b, off + k * 9 + 6, none⟩ = some (.int .i64 y.kind) ∧ W.cell? ⟨b, off + k * 9 + 7, none⟩ = some (.string y.pat) ∧ W.cell? ⟨b, off + k * 9 + 8, none⟩ = some (.slice y.ka y.kids.length y.kc)) := by
                      intro W hW
                      have hbw : b < wr.heap.size := by omega
                      have g := fun o => hW.cell (p := ⟨b, o, none⟩) hbw
                      have g2 := fun o => hW.cell (p := ⟨w.heap.size, o, none⟩) hwr
                      refine ⟨?_, ?_, (g _).trans c0, (g _).trans c1, (g _).trans c2, (g _).trans c3, (g _).trans c4, (g _).trans c5, (g _).trans c6, (g _).trans c7, (g _).trans c8⟩
                      · rw [g2, hp1]; simp
                      · rw [g2, hp1]; simp
                    have HKEEP := Asd.mk hkeep
                    clear hkeep
                    refine start_ (n := 23) (S := fun w' => w'.cell? ⟨w.heap.size, 0, none⟩ = some (.int .i64 op) ∧ w'.cell? ⟨w.heap.size, 8, none⟩ = some (.slice (some ⟨b, off, none⟩) kids.length kc) ∧ w'.cell? ⟨b, off + k * 9, none⟩ = some (.int .i64 yo) ∧ w'.cell? ⟨b, off + k * 9 + 1, none⟩ = some (.string y.col) ∧ w'.cell? ⟨b, off + k * 9 + 2, none⟩ = some (.int .i64 y.cmp) ∧ w'.cell? ⟨b, off + k * 9 + 3, none⟩ = some (.bool y.val.nl) ∧ w'.cell? ⟨b, off + k * 9 + 4, none⟩ = some (.int .i64 y.val.i) ∧ w'.cell? ⟨b, off + k * 9 + 5, none⟩ = some (.string y.val.s) ∧ w'.cell? ⟨b, off + k * 9 + 6, none⟩ = some (.int .i64 y.kind) ∧ w'.cell? ⟨b, off + k * 9 + 7, none⟩ = some (.string y.pat) ∧ w'.cell? ⟨b, off + k * 9 + 8, none⟩ = some (.slice y.ka y.kids.length y.kc)) (ds := []) #[false, false, false, false, false, false, false, false, false, false, false, false, false, false, false, false, false, false, false, false, false, false, false] (by kernel_rfl) rfl rfl ⟨(HKEEP.out _ (Below.refl _ _).drew).1, (HKEEP.out _ (Below.refl _ _).drew).2.1, (HKEEP.out _ (Below.refl _ _).drew).2.2.1, (HKEEP.out _ (Below.refl _ _).drew).2.2.2.1, (HKEEP.out _ (Below.refl _ _).drew).2.2.2.2.1, (HKEEP.out _ (Below.refl _ _).drew).2.2.2.2.2.1, (HKEEP.out _ (Below.refl _ _).drew).2.2.2.2.2.2.1, (HKEEP.out _ (Below.refl _ _).drew).2.2.2.2.2.2.2.1, (HKEEP.out _ (Below.refl _ _).drew).2.2.2.2.2.2.2.2.1, (HKEEP.out _ (Below.refl _ _).drew).2.2.2.2.2.2.2.2.2.1, (HKEEP.out _ (Below.refl _ _).drew).2.2.2.2.2.2.2.2.2.2⟩ (fun hHeld => ?_)
                    refine pure_ (i := 0) (N := some 115) (v := ?_) (a' := ?_) #[true, false, false, false, false, false, false, false, false, false, false, false, false, false, false, false, false, false, false, false, false, false, false] rfl rfl (by kernel_rfl) (fun _ _ _ h => h) (Or.inl ⟨by rfl, ?_⟩) ?_ ?_
                    rotate_left
                    · intro w'
                      go_simp
                      with_reducible rfl
                    rotate_left
                    · simp only [Act.put, List.setIfInBounds_toArray, List.set_cons_zero, List.set_cons_succ, i64_w, i32_w]
                      rfl
                    refine pure_ (i := 2) (N := some 117) (v := ?_) (a' := ?_) #[true, false, true, false, false, false, false, false, false, false, false, false, false, false, false, false, false, false, false, false, false, false, false] rfl rfl (by kernel_rfl) (fun _ _ _ h => h) (Or.inl ⟨by rfl, ?_⟩) ?_ ?_
                    rotate_left
                    · intro w'
                      go_simp
                      with_reducible rfl
                    rotate_left
                    · simp only [Act.put, List.setIfInBounds_toArray, List.set_cons_zero, List.set_cons_succ, i64_w, i32_w]
                      rfl
                    refine take_ (i := 1) (N := some 116) (v := ?_) (a' := ?_) #[true, true, true, false, false, false, false, false, false, false, false, false, false, false, false, false, false, false, false, false, false, false, false] rfl rfl (by kernel_rfl) (fun _ _ _ h => h) (Or.inl ⟨by rfl, ?_⟩) hHeld ?_ ?_
                    rotate_left
                    · rintro w' ⟨s0, s1, s2, s3, s4, s5, s6, s7, s8, s9, s10⟩
                      go_simp
                      with_reducible rfl
                    rotate_left
                    · simp only [Act.put, List.setIfInBounds_toArray, List.set_cons_zero, List.set_cons_succ, i64_w, i32_w]
                      rfl
                    refine pure_ (i := 3) (N := some 118) (v := ?_) (a' := ?_) #[true, true, true, true, false, false, false, false, false, false, false, false, false, false, false, false, false, false, false, false, false, false, false] rfl rfl (by kernel_rfl) (fun _ _ _ h => h) (Or.inl ⟨by rfl, ?_⟩) ?_ ?_
                    rotate_left
                    · intro w'
                      go_simp
                      with_reducible rfl
                    rotate_left
                    · simp only [Act.put, List.setIfInBounds_toArray, List.set_cons_zero, List.set_cons_succ, i64_w, i32_w]
                      rfl
                    refine take_ (i := 4) (N := some 119) (v := ?_) (a' := ?_) #[true, true, true, true, true, false, false, false, false, false, false, false, false, false, false, false, false, false, false, false, false, false, false] rfl rfl (by kernel_rfl) (fun _ _ _ h => h) (Or.inl ⟨by rfl, ?_⟩) hHeld ?_ ?_
                    rotate_left
                    · rintro w' ⟨s0, s1, s2, s3, s4, s5, s6, s7, s8, s9, s10⟩
                      go_simp
                      with_reducible rfl
                    rotate_left
                    · simp only [Act.put, List.setIfInBounds_toArray, List.set_cons_zero, List.set_cons_succ, i64_w, i32_w]
                      rfl
                    refine one_ (i := 5) (N := some 120) #[true, true, true, true, true, true, false, false, false, false, false, false, false, false, false, false, false, false, false, false, false, false, false] rfl rfl (by kernel_rfl) (by decide) (fun K hK => ?_)
                    refine goes_ Tryd.func31 (by kernel_rfl) rfl #[.agg #[.int .i64 yo, .string y.col, .int .i64 y.cmp, .bool y.val.nl, .int .i64 y.val.i, .string y.val.s, .int .i64 y.kind, .string y.pat, .slice y.ka y.kids.length y.kc]] (by rfl) rfl rfl (by simp only [List.map_toArray, List.map_cons, List.map_nil]; rfl) ?_
                    with_reducible refine (hcall _ hBw.drew).mono ?_
                    rintro e w2 ⟨rfl, hb2⟩
                    refine ⟨_, rfl, ?_⟩
                    refine hK.out _ _ ⟨(HKEEP.out _ (bundrew hb2)).1, (HKEEP.out _ (bundrew hb2)).2.1, (HKEEP.out _ (bundrew hb2)).2.2.1, (HKEEP.out _ (bundrew hb2)).2.2.2.1, (HKEEP.out _ (bundrew hb2)).2.2.2.2.1, (HKEEP.out _ (bundrew hb2)).2.2.2.2.2.1, (HKEEP.out _ (bundrew hb2)).2.2.2.2.2.2.1, (HKEEP.out _ (bundrew hb2)).2.2.2.2.2.2.2.1, (HKEEP.out _ (bundrew hb2)).2.2.2.2.2.2.2.2.1, (HKEEP.out _ (bundrew hb2)).2.2.2.2.2.2.2.2.2.1, (HKEEP.out _ (bundrew hb2)).2.2.2.2.2.2.2.2.2.2⟩ (fun hHeld => ?_)
                    clear hK K
                    refine norm_ (a' := ?_) ?_ ?_
                    rotate_left
                    · show Act.put _ (some 120) _ = _
                      simp only [Act.put, List.setIfInBounds_toArray, List.set_cons_zero, List.set_cons_succ, i64_w, i32_w]
                      rfl
                    refine pure_ (i := 6) (N := some 121) (v := ?_) (a' := ?_) #[true, true, true, true, true, true, true, false, false, false, false, false, false, false, false, false, false, false, false, false, false, false, false] rfl rfl (by kernel_rfl) (fun _ _ _ h => h) (Or.inl ⟨by rfl, ?_⟩) ?_ ?_
                    rotate_left
                    · intro w'
                      go_simp
                      with_reducible rfl
                    rotate_left
                    · simp only [Act.put, List.setIfInBounds_toArray, List.set_cons_zero, List.set_cons_succ, i64_w, i32_w]
                      rfl
                    refine pure_ (i := 7) (N := some 122) (v := ?_) (a' := ?_) #[true, true, true, true, true, true, true, true, false, false, false, false, false, false, false, false, false, false, false, false, false, false, false] rfl rfl (by kernel_rfl) (fun _ _ _ h => h) (Or.inl ⟨by rfl, ?_⟩) ?_ ?_
                    rotate_left
                    · intro w'
                      go_simp
                      with_reducible rfl
                    rotate_left
                    · simp only [Act.put, List.setIfInBounds_toArray, List.set_cons_zero, List.set_cons_succ, i64_w, i32_w]
                      rfl
                    refine pure_ (i := 8) (N := some 123) (v := ?_) (a' := ?_) #[true, true, true, true, true, true, true, true, true, false, false, false, false, false, false, false, false, false, false, false, false, false, false] rfl rfl (by kernel_rfl) (fun _ _ _ h => h) (Or.inl ⟨by rfl, ?_⟩) ?_ ?_
                    rotate_left
                    · intro w'
                      go_simp
                      with_reducible rfl
                    rotate_left
                    · simp only [Act.put, List.setIfInBounds_toArray, List.set_cons_zero, List.set_cons_succ, i64_w, i32_w]
                      rfl
                    refine take_ (i := 9) (N := some 124) (v := ?_) (a' := ?_) #[true, true, true, true, true, true, true, true, true, true, false, false, false, false, false, false, false, false, false, false, false, false, false] rfl rfl (by kernel_rfl) (fun _ _ _ h => h) (Or.inl ⟨by rfl, ?_⟩) hHeld ?_ ?_
                    rotate_left
                    · rintro w' ⟨s0, s1, s2, s3, s4, s5, s6, s7, s8, s9, s10⟩
                      go_simp
                      with_reducible rfl
                    rotate_left
                    · simp only [Act.put, List.setIfInBounds_toArray, List.set_cons_zero, List.set_cons_succ, i64_w, i32_w]
                      rfl
                    refine pure_ (i := 10) (N := some 125) (v := ?_) (a' := ?_) #[true, true, true, true, true, true, true, true, true, true, true, false, false, false, false, false, false, false, false, false, false, false, false] rfl rfl (by kernel_rfl) (fun _ _ _ h => h) (Or.inl ⟨by rfl, ?_⟩) ?_ ?_
                    rotate_left
                    · intro w'
                      go_simp
                      with_reducible rfl
                    rotate_left
                    · simp only [Act.put, List.setIfInBounds_toArray, List.set_cons_zero, List.set_cons_succ, i64_w, i32_w]
                      rfl
                    refine pure_ (i := 11) (N := some 126) (v := ?_) (a' := ?_) #[true, true, true, true, true, true, true, true, true, true, true, true, false, false, false, false, false, false, false, false, false, false, false] rfl rfl (by kernel_rfl) (fun _ _ _ h => h) (Or.inl ⟨by rfl, ?_⟩) ?_ ?_
                    rotate_left
                    · intro w'
                      go_simp
                      with_reducible rfl
                    rotate_left
                    · simp only [Act.put, List.setIfInBounds_toArray, List.set_cons_zero, List.set_cons_succ, i64_w, i32_w]
                      rfl
                    refine pure_ (i := 12) (N := some 127) (v := ?_) (a' := ?_) #[true, true, true, true, true, true, true, true, true, true, true, true, true, false, false, false, false, false, false, false, false, false, false] rfl rfl (by kernel_rfl) (fun _ _ _ h => h) (Or.inl ⟨by rfl, ?_⟩) ?_ ?_
                    rotate_left
                    · intro w'
                      go_simp
                      with_reducible rfl
                    rotate_left
                    · simp only [Act.put, List.setIfInBounds_toArray, List.set_cons_zero, List.set_cons_succ, i64_w, i32_w]
                      rfl
                    refine pure_ (i := 14) (N := some 129) (v := ?_) (a' := ?_) #[true, true, true, true, true, true, true, true, true, true, true, true, true, false, true, false, false, false, false, false, false, false, false] rfl rfl (by kernel_rfl) (fun _ _ _ h => h) (Or.inl ⟨by rfl, ?_⟩) ?_ ?_
                    rotate_left
                    · intro w'
                      go_simp
                      with_reducible rfl
                    rotate_left
                    · simp only [Act.put, List.setIfInBounds_toArray, List.set_cons_zero, List.set_cons_succ, i64_w, i32_w]
                      rfl
                    refine pure_ (i := 18) (N := some 133) (v := ?_) (a' := ?_) #[true, true, true, true, true, true, true, true, true, true, true, true, true, false, true, false, false, false, true, false, false, false, false] rfl rfl (by kernel_rfl) (fun _ _ _ h => h) (Or.inl ⟨by rfl, ?_⟩) ?_ ?_
                    rotate_left
                    · intro w'
                      go_simp
                      with_reducible rfl
                    rotate_left
                    · simp only [Act.put, List.setIfInBounds_toArray, List.set_cons_zero, List.set_cons_succ, i64_w, i32_w]
                      rfl
                    refine take_ (i := 13) (N := some 128) (v := ?_) (a' := ?_) #[true, true, true, true, true, true, true, true, true, true, true, true, true, true, true, false, false, false, true, false, false, false, false] rfl rfl (by kernel_rfl) (fun _ _ _ h => h) (Or.inl ⟨by rfl, ?_⟩) hHeld ?_ ?_
                    rotate_left
                    · rintro w' ⟨s0, s1, s2, s3, s4, s5, s6, s7, s8, s9, s10⟩
                      go_simp
                      with_reducible rfl
                    rotate_left
                    · simp only [Act.put, List.setIfInBounds_toArray, List.set_cons_zero, List.set_cons_succ, i64_w, i32_w]
                      rfl
                    refine pure_ (i := 15) (N := some 130) (v := ?_) (a' := ?_) #[true, true, true, true, true, true, true, true, true, true, true, true, true, true, true, true, false, false, true, false, false, false, false] rfl rfl (by kernel_rfl) (fun _ _ _ h => h) (Or.inl ⟨by rfl, ?_⟩) ?_ ?_
                    rotate_left
                    · intro w'
                      go_simp
                      with_reducible rfl
                    rotate_left
                    · simp only [Act.put, List.setIfInBounds_toArray, List.set_cons_zero, List.set_cons_succ, i64_w, i32_w]
                      rfl
                    refine pure_ (i := 16) (N := some 131) (v := ?_) (a' := ?_) #[true, true, true, true, true, true, true, true, true, true, true, true, true, true, true, true, true, false, true, false, false, false, false] rfl rfl (by kernel_rfl) (fun _ _ _ h => h) (Or.inl ⟨by rfl, ?_⟩) ?_ ?_
                    rotate_left
                    · intro w'
                      go_simp
                      with_reducible rfl
                    rotate_left
                    · simp only [Act.put, List.setIfInBounds_toArray, List.set_cons_zero, List.set_cons_succ, i64_w, i32_w]
                      rfl
                    refine take_ (i := 17) (N := some 132) (v := ?_) (a' := ?_) #[true, true, true, true, true, true, true, true, true, true, true, true, true, true, true, true, true, true, true, false, false, false, false] rfl rfl (by kernel_rfl) (fun _ _ _ h => h) (Or.inl ⟨by rfl, ?_⟩) hHeld ?_ ?_
                    rotate_left
                    · rintro w' ⟨s0, s1, s2, s3, s4, s5, s6, s7, s8, s9, s10⟩
                      go_simp
                      with_reducible rfl
                    rotate_left
                    · simp only [Act.put, List.setIfInBounds_toArray, List.set_cons_zero, List.set_cons_succ, i64_w, i32_w]
                      rfl
                    refine take_ (i := 19) (N := some 134) (v := ?_) (a' := ?_) #[true, true, true, true, true, true, true, true, true, true, true, true, true, true, true, true, true, true, true, true, false, false, false] rfl rfl (by kernel_rfl) (fun _ _ _ h => h) (Or.inl ⟨by rfl, ?_⟩) hHeld ?_ ?_
                    rotate_left
                    · rintro w' ⟨s0, s1, s2, s3, s4, s5, s6, s7, s8, s9, s10⟩
                      go_simp
                      with_reducible rfl
                    rotate_left
                    · simp only [Act.put, List.setIfInBounds_toArray, List.set_cons_zero, List.set_cons_succ, i64_w, i32_w]
                      rfl
                    refine pure_ (i := 20) (N := some 135) (v := ?_) (a' := ?_) #[true, true, true, true, true, true, true, true, true, true, true, true, true, true, true, true, true, true, true, true, true, false, false] rfl rfl (by kernel_rfl) (fun _ _ _ h => h) (Or.inl ⟨by rfl, ?_⟩) ?_ ?_
                    rotate_left
                    · intro w'
                      go_simp
                      with_reducible rfl
                    rotate_left
                    · simp only [Act.put, List.setIfInBounds_toArray, List.set_cons_zero, List.set_cons_succ, i64_w, i32_w]
                      rfl
                    refine pure_ (i := 21) (N := some 136) (v := ?_) (a' := ?_) #[true, true, true, true, true, true, true, true, true, true, true, true, true, true, true, true, true, true, true, true, true, true, false] rfl rfl (by kernel_rfl) (fun _ _ _ h => h) (Or.inl ⟨by rfl, ?_⟩) ?_ ?_
                    rotate_left
                    · intro w'
                      go_simp
                      with_reducible rfl
                    rotate_left
                    · simp only [Act.put, List.setIfInBounds_toArray, List.set_cons_zero, List.set_cons_succ, i64_w, i32_w]
                      rfl
                    refine pure_ (i := 22) (N := some 137) (v := ?_) (a' := ?_) #[true, true, true, true, true, true, true, true, true, true, true, true, true, true, true, true, true, true, true, true, true, true, true] rfl rfl (by kernel_rfl) (fun _ _ _ h => h) (Or.inl ⟨by rfl, ?_⟩) ?_ ?_
                    rotate_left
                    · intro w'
                      go_simp
                      with_reducible rfl
                    rotate_left
                    · simp only [Act.put, List.setIfInBounds_toArray, List.set_cons_zero, List.set_cons_succ, i64_w, i32_w]
                      rfl
                    refine done_ (by kernel_rfl) ?_
                    go_wp2_with fail
                    go_roundw
                    case rel => exact ⟨k + 1, by go_num, by omega, ⟨hB.out.trans ((bundrew hb2).mono hwr)⟩, hst⟩
                    case measure => simp [intOf]; omega
                · have hst := Asd.mk (hstep.out (by simp [kidV, h6]))
                  clear hFk hstep
                  have h6' : decide (6 ≤ op) = false := by simpa using h6
                  go_wp2_with fail
                  have hkeep : ∀ W, Below wr.heap.size wr W → (W.cell? ⟨w.heap.size, 0, none⟩ = some (.int .i64 op) ∧ W.cell? ⟨w.heap.size, 8, none⟩ = some (.slice (some ⟨b, off, none⟩) kids.length kc) ∧ W.cell? ⟨b, off + k * 9, none⟩ = some (.int .i64 yo) ∧ W.cell? ⟨b, off + k * 9 + 1, none⟩ = some (.string y.col) ∧ W.cell? ⟨b, off + k * 9 + 2, none⟩ = some (.int .i64 y.cmp) ∧ W.cell? ⟨b, off + k * 9 + 3, none⟩ = some (.bool y.val.nl) ∧ W.cell? ⟨b, off + k * 9 + 4, none⟩ = some (.int .i64 y.val.i) ∧ W.cell? ⟨b, off + k * 9 + 5, none⟩ = some (.string y.val.s) ∧ W.cell? ⟨b, off + k * 9 + 6, none⟩ = some (.int .i64 y.kind) ∧ W.cell? ⟨b, off + k * 9 + 7, none⟩ = some (.string y.pat) ∧ W.cell? ⟨b, off + k * 9 + 8, none⟩ = some (.slice y.ka y.kids.length y.kc)) := by
                    intro W hW
                    have hbw : b < wr.heap.size := by omega
                    have g := fun o => hW.cell (p := ⟨b, o, none⟩) hbw
                    have g2 := fun o => hW.cell (p := ⟨w.heap.size, o, none⟩) hwr
                    refine ⟨?_, ?_, (g _).trans c0, (g _).trans c1, (g _).trans c2, (g _).trans c3, (g _).trans c4, (g _).trans c5, (g _).trans c6, (g _).trans c7, (g _).trans c8⟩
                    · rw [g2, hp1]; simp
                    · rw [g2, hp1]; simp
                  have HKEEP := Asd.mk hkeep
                  clear hkeep
                  refine start_ (n := 23) (S := fun w' => w'.cell? ⟨w.heap.size, 0, none⟩ = some (.int .i64 op) ∧ w'.cell? ⟨w.heap.size, 8, none⟩ = some (.slice (some ⟨b, off, none⟩) kids.length kc) ∧ w'.cell? ⟨b, off + k * 9, none⟩ = some (.int .i64 yo) ∧ w'.cell? ⟨b, off + k * 9 + 1, none⟩ = some (.string y.col) ∧ w'.cell? ⟨b, off + k * 9 + 2, none⟩ = some (.int .i64 y.cmp) ∧ w'.cell? ⟨b, off + k * 9 + 3, none⟩ = some (.bool y.val.nl) ∧ w'.cell? ⟨b, off + k * 9 + 4, none⟩ = some (.int .i64 y.val.i) ∧ w'.cell? ⟨b, off + k * 9 + 5, none⟩ = some (.string y.val.s) ∧ w'.cell? ⟨b, off + k * 9 + 6, none⟩ = some (.int .i64 y.kind) ∧ w'.cell? ⟨b, off + k * 9 + 7, none⟩ = some (.string y.pat) ∧ w'.cell? ⟨b, off + k * 9 + 8, none⟩ = some (.slice y.ka y.kids.length y.kc)) (ds := []) #[false, false, false, false, false, false, false, false, false, false, false, false, false, false, false, false, false, false, false, false, false, false, false] (by kernel_rfl) rfl rfl ⟨(HKEEP.out _ (Below.refl _ _).drew).1, (HKEEP.out _ (Below.refl _ _).drew).2.1, (HKEEP.out _ (Below.refl _ _).drew).2.2.1, (HKEEP.out _ (Below.refl _ _).drew).2.2.2.1, (HKEEP.out _ (Below.refl _ _).drew).2.2.2.2.1, (HKEEP.out _ (Below.refl _ _).drew).2.2.2.2.2.1, (HKEEP.out _ (Below.refl _ _).drew).2.2.2.2.2.2.1, (HKEEP.out _ (Below.refl _ _).drew).2.2.2.2.2.2.2.1, (HKEEP.out _ (Below.refl _ _).drew).2.2.2.2.2.2.2.2.1, (HKEEP.out _ (Below.refl _ _).drew).2.2.2.2.2.2.2.2.2.1, (HKEEP.out _ (Below.refl _ _).drew).2.2.2.2.2.2.2.2.2.2⟩ (fun hHeld => ?_)
                  refine pure_ (i := 0) (N := some 115) (v := ?_) (a' := ?_) #[true, false, false, false, false, false, false, false, false, false, false, false, false, false, false, false, false, false, false, false, false, false, false] rfl rfl (by kernel_rfl) (fun _ _ _ h => h) (Or.inl ⟨by rfl, ?_⟩) ?_ ?_
                  rotate_left
                  · intro w'
                    go_simp
                    with_reducible rfl
                  rotate_left
                  · simp only [Act.put, List.setIfInBounds_toArray, List.set_cons_zero, List.set_cons_succ, i64_w, i32_w]
                    rfl
                  refine pure_ (i := 2) (N := some 117) (v := ?_) (a' := ?_) #[true, false, true, false, false, false, false, false, false, false, false, false, false, false, false, false, false, false, false, false, false, false, false] rfl rfl (by kernel_rfl) (fun _ _ _ h => h) (Or.inl ⟨by rfl, ?_⟩) ?_ ?_
                  rotate_left
                  · intro w'
                    go_simp
                    with_reducible rfl
                  rotate_left
                  · simp only [Act.put, List.setIfInBounds_toArray, List.set_cons_zero, List.set_cons_succ, i64_w, i32_w]
                    rfl
                  refine take_ (i := 1) (N := some 116) (v := ?_) (a' := ?_) #[true, true, true, false, false, false, false, false, false, false, false, false, false, false, false, false, false, false, false, false, false, false, false] rfl rfl (by kernel_rfl) (fun _ _ _ h => h) (Or.inl ⟨by rfl, ?_⟩) hHeld ?_ ?_
                  rotate_left
                  · rintro w' ⟨s0, s1, s2, s3, s4, s5, s6, s7, s8, s9, s10⟩
                    go_simp
                    with_reducible rfl
                  rotate_left
                  · simp only [Act.put, List.setIfInBounds_toArray, List.set_cons_zero, List.set_cons_succ, i64_w, i32_w]
                    rfl
                  refine pure_ (i := 3) (N := some 118) (v := ?_) (a' := ?_) #[true, true, true, true, false, false, false, false, false, false, false, false, false, false, false, false, false, false, false, false, false, false, false] rfl rfl (by kernel_rfl) (fun _ _ _ h => h) (Or.inl ⟨by rfl, ?_⟩) ?_ ?_
                  rotate_left
                  · intro w'
                    go_simp
                    with_reducible rfl
                  rotate_left
                  · simp only [Act.put, List.setIfInBounds_toArray, List.set_cons_zero, List.set_cons_succ, i64_w, i32_w]
                    rfl
                  refine take_ (i := 4) (N := some 119) (v := ?_) (a' := ?_) #[true, true, true, true, true, false, false, false, false, false, false, false, false, false, false, false, false, false, false, false, false, false, false] rfl rfl (by kernel_rfl) (fun _ _ _ h => h) (Or.inl ⟨by rfl, ?_⟩) hHeld ?_ ?_
                  rotate_left
                  · rintro w' ⟨s0, s1, s2, s3, s4, s5, s6, s7, s8, s9, s10⟩
                    go_simp
                    with_reducible rfl
                  rotate_left
                  · simp only [Act.put, List.setIfInBounds_toArray, List.set_cons_zero, List.set_cons_succ, i64_w, i32_w]
                    rfl
                  refine one_ (i := 5) (N := some 120) #[true, true, true, true, true, true, false, false, false, false, false, false, false, false, false, false, false, false, false, false, false, false, false] rfl rfl (by kernel_rfl) (by decide) (fun K hK => ?_)
                  refine goes_ Tryd.func31 (by kernel_rfl) rfl #[.agg #[.int .i64 yo, .string y.col, .int .i64 y.cmp, .bool y.val.nl, .int .i64 y.val.i, .string y.val.s, .int .i64 y.kind, .string y.pat, .slice y.ka y.kids.length y.kc]] (by rfl) rfl rfl (by simp only [List.map_toArray, List.map_cons, List.map_nil]; rfl) ?_
                  with_reducible refine (hcall _ hBw.drew).mono ?_
                  rintro e w2 ⟨rfl, hb2⟩
                  refine ⟨_, rfl, ?_⟩
                  refine hK.out _ _ ⟨(HKEEP.out _ (bundrew hb2)).1, (HKEEP.out _ (bundrew hb2)).2.1, (HKEEP.out _ (bundrew hb2)).2.2.1, (HKEEP.out _ (bundrew hb2)).2.2.2.1, (HKEEP.out _ (bundrew hb2)).2.2.2.2.1, (HKEEP.out _ (bundrew hb2)).2.2.2.2.2.1, (HKEEP.out _ (bundrew hb2)).2.2.2.2.2.2.1, (HKEEP.out _ (bundrew hb2)).2.2.2.2.2.2.2.1, (HKEEP.out _ (bundrew hb2)).2.2.2.2.2.2.2.2.1, (HKEEP.out _ (bundrew hb2)).2.2.2.2.2.2.2.2.2.1, (HKEEP.out _ (bundrew hb2)).2.2.2.2.2.2.2.2.2.2⟩ (fun hHeld => ?_)
                  clear hK K
                  refine norm_ (a' := ?_) ?_ ?_
                  rotate_left
                  · show Act.put _ (some 120) _ = _
                    simp only [Act.put, List.setIfInBounds_toArray, List.set_cons_zero, List.set_cons_succ, i64_w, i32_w]
                    rfl
                  refine pure_ (i := 6) (N := some 121) (v := ?_) (a' := ?_) #[true, true, true, true, true, true, true, false, false, false, false, false, false, false, false, false, false, false, false, false, false, false, false] rfl rfl (by kernel_rfl) (fun _ _ _ h => h) (Or.inl ⟨by rfl, ?_⟩) ?_ ?_
                  rotate_left
                  · intro w'
                    go_simp
                    with_reducible rfl
                  rotate_left
                  · simp only [Act.put, List.setIfInBounds_toArray, List.set_cons_zero, List.set_cons_succ, i64_w, i32_w]
                    rfl
                  refine pure_ (i := 7) (N := some 122) (v := ?_) (a' := ?_) #[true, true, true, true, true, true, true, true, false, false, false, false, false, false, false, false, false, false, false, false, false, false, false] rfl rfl (by kernel_rfl) (fun _ _ _ h => h) (Or.inl ⟨by rfl, ?_⟩) ?_ ?_
                  rotate_left
                  · intro w'
                    go_simp
                    with_reducible rfl
                  rotate_left
                  · simp only [Act.put, List.setIfInBounds_toArray, List.set_cons_zero, List.set_cons_succ, i64_w, i32_w]
                    rfl
                  refine pure_ (i := 8) (N := some 123) (v := ?_) (a' := ?_) #[true, true, true, true, true, true, true, true, true, false, false, false, false, false, false, false, false, false, false, false, false, false, false] rfl rfl (by kernel_rfl) (fun _ _ _ h => h) (Or.inl ⟨by rfl, ?_⟩) ?_ ?_
                  rotate_left
                  · intro w'
                    go_simp
                    with_reducible rfl
                  rotate_left
                  · simp only [Act.put, List.setIfInBounds_toArray, List.set_cons_zero, List.set_cons_succ, i64_w, i32_w]
                    rfl
                  refine take_ (i := 9) (N := some 124) (v := ?_) (a' := ?_) #[true, true, true, true, true, true, true, true, true, true, false, false, false, false, false, false, false, false, false, false, false, false, false] rfl rfl (by kernel_rfl) (fun _ _ _ h => h) (Or.inl ⟨by rfl, ?_⟩) hHeld ?_ ?_
                  rotate_left
                  · rintro w' ⟨s0, s1, s2, s3, s4, s5, s6, s7, s8, s9, s10⟩
                    go_simp
                    with_reducible rfl
                  rotate_left
                  · simp only [Act.put, List.setIfInBounds_toArray, List.set_cons_zero, List.set_cons_succ, i64_w, i32_w]
                    rfl
                  refine pure_ (i := 10) (N := some 125) (v := ?_) (a' := ?_) #[true, true, true, true, true, true, true, true, true, true, true, false, false, false, false, false, false, false, false, false, false, false, false] rfl rfl (by kernel_rfl) (fun _ _ _ h => h) (Or.inl ⟨by rfl, ?_⟩) ?_ ?_
                  rotate_left
                  · intro w'
                    go_simp
                    with_reducible rfl
                  rotate_left
                  · simp only [Act.put, List.setIfInBounds_toArray, List.set_cons_zero, List.set_cons_succ, i64_w, i32_w]
                    rfl
                  refine pure_ (i := 11) (N := some 126) (v := ?_) (a' := ?_) #[true, true, true, true, true, true, true, true, true, true, true, true, false, false, false, false, false, false, false, false, false, false, false] rfl rfl (by kernel_rfl) (fun _ _ _ h => h) (Or.inl ⟨by rfl, ?_⟩) ?_ ?_
                  rotate_left
                  · intro w'
                    go_simp
                    with_reducible rfl
                  rotate_left
                  · simp only [Act.put, List.setIfInBounds_toArray, List.set_cons_zero, List.set_cons_succ, i64_w, i32_w]
                    rfl
                  refine pure_ (i := 12) (N := some 127) (v := undef) (a' := ?_) #[true, true, true, true, true, true, true, true, true, true, true, true, true, false, false, false, false, false, false, false, false, false, false] rfl rfl (by kernel_rfl) (fun _ _ _ h => h) (Or.inr ⟨by rfl, rfl⟩) ?_ ?_
                  rotate_left
                  · simp only [Act.put, List.setIfInBounds_toArray, List.set_cons_zero, List.set_cons_succ, i64_w, i32_w]
                    rfl
                  refine pure_ (i := 13) (N := some 128) (v := undef) (a' := ?_) #[true, true, true, true, true, true, true, true, true, true, true, true, true, true, false, false, false, false, false, false, false, false, false] rfl rfl (by kernel_rfl) (fun _ _ _ h => h) (Or.inr ⟨by rfl, rfl⟩) ?_ ?_
                  rotate_left
                  · simp only [Act.put, List.setIfInBounds_toArray, List.set_cons_zero, List.set_cons_succ, i64_w, i32_w]
                    rfl
                  refine pure_ (i := 14) (N := some 129) (v := undef) (a' := ?_) #[true, true, true, true, true, true, true, true, true, true, true, true, true, true, true, false, false, false, false, false, false, false, false] rfl rfl (by kernel_rfl) (fun _ _ _ h => h) (Or.inr ⟨by rfl, rfl⟩) ?_ ?_
                  rotate_left
                  · simp only [Act.put, List.setIfInBounds_toArray, List.set_cons_zero, List.set_cons_succ, i64_w, i32_w]
                    rfl
                  refine pure_ (i := 15) (N := some 130) (v := undef) (a' := ?_) #[true, true, true, true, true, true, true, true, true, true, true, true, true, true, true, true, false, false, false, false, false, false, false] rfl rfl (by kernel_rfl) (fun _ _ _ h => h) (Or.inr ⟨by rfl, rfl⟩) ?_ ?_
                  rotate_left
                  · simp only [Act.put, List.setIfInBounds_toArray, List.set_cons_zero, List.set_cons_succ, i64_w, i32_w]
                    rfl
                  refine pure_ (i := 16) (N := some 131) (v := undef) (a' := ?_) #[true, true, true, true, true, true, true, true, true, true, true, true, true, true, true, true, true, false, false, false, false, false, false] rfl rfl (by kernel_rfl) (fun _ _ _ h => h) (Or.inr ⟨by rfl, rfl⟩) ?_ ?_
                  rotate_left
                  · simp only [Act.put, List.setIfInBounds_toArray, List.set_cons_zero, List.set_cons_succ, i64_w, i32_w]
                    rfl
                  refine pure_ (i := 17) (N := some 132) (v := undef) (a' := ?_) #[true, true, true, true, true, true, true, true, true, true, true, true, true, true, true, true, true, true, false, false, false, false, false] rfl rfl (by kernel_rfl) (fun _ _ _ h => h) (Or.inr ⟨by rfl, rfl⟩) ?_ ?_
                  rotate_left
                  · simp only [Act.put, List.setIfInBounds_toArray, List.set_cons_zero, List.set_cons_succ, i64_w, i32_w]
                    rfl
                  refine pure_ (i := 18) (N := some 133) (v := undef) (a' := ?_) #[true, true, true, true, true, true, true, true, true, true, true, true, true, true, true, true, true, true, true, false, false, false, false] rfl rfl (by kernel_rfl) (fun _ _ _ h => h) (Or.inr ⟨by rfl, rfl⟩) ?_ ?_
                  rotate_left
                  · simp only [Act.put, List.setIfInBounds_toArray, List.set_cons_zero, List.set_cons_succ, i64_w, i32_w]
                    rfl
                  refine pure_ (i := 19) (N := some 134) (v := undef) (a' := ?_) #[true, true, true, true, true, true, true, true, true, true, true, true, true, true, true, true, true, true, true, true, false, false, false] rfl rfl (by kernel_rfl) (fun _ _ _ h => h) (Or.inr ⟨by rfl, rfl⟩) ?_ ?_
                  rotate_left
                  · simp only [Act.put, List.setIfInBounds_toArray, List.set_cons_zero, List.set_cons_succ, i64_w, i32_w]
                    rfl
                  refine pure_ (i := 20) (N := some 135) (v := undef) (a' := ?_) #[true, true, true, true, true, true, true, true, true, true, true, true, true, true, true, true, true, true, true, true, true, false, false] rfl rfl (by kernel_rfl) (fun _ _ _ h => h) (Or.inr ⟨by rfl, rfl⟩) ?_ ?_
                  rotate_left
                  · simp only [Act.put, List.setIfInBounds_toArray, List.set_cons_zero, List.set_cons_succ, i64_w, i32_w]
                    rfl
                  refine pure_ (i := 21) (N := some 136) (v := ?_) (a' := ?_) #[true, true, true, true, true, true, true, true, true, true, true, true, true, true, true, true, true, true, true, true, true, true, false] rfl rfl (by kernel_rfl) (fun _ _ _ h => h) (Or.inl ⟨by rfl, ?_⟩) ?_ ?_
                  rotate_left
                  · intro w'
                    go_simp
                    with_reducible rfl
                  rotate_left
                  · simp only [Act.put, List.setIfInBounds_toArray, List.set_cons_zero, List.set_cons_succ, i64_w, i32_w]
                    rfl
                  refine pure_ (i := 22) (N := some 137) (v := ?_) (a' := ?_) #[true, true, true, true, true, true, true, true, true, true, true, true, true, true, true, true, true, true, true, true, true, true, true] rfl rfl (by kernel_rfl) (fun _ _ _ h => h) (Or.inl ⟨by rfl, ?_⟩) ?_ ?_
                  rotate_left
                  · intro w'
                    go_simp
                    with_reducible rfl
                  rotate_left
                  · simp only [Act.put, List.setIfInBounds_toArray, List.set_cons_zero, List.set_cons_succ, i64_w, i32_w]
                    rfl
                  refine done_ (by kernel_rfl) ?_
                  go_wp2_with fail
                  go_roundw
                  case rel => exact ⟨k + 1, by go_num, by omega, ⟨hB.out.trans ((bundrew hb2).mono hwr)⟩, hst⟩
                  case measure => simp [intOf]; omega
            · obtain rfl := hT.out (fun j hj => hpre.out j hj (by omega))
              go_wp2_with fail
              go_ret
              exact ⟨rfl, hBw⟩
end Go.Proofs.YthhjhlodgfdlgaaDoor
