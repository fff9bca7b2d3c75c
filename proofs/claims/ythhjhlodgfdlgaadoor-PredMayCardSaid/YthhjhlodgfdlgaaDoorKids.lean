import Derived.Test.YthhjhlodgfdlgaaDoorPredA
set_option linter.unusedVariables false
set_option linter.unusedSimpArgs false
namespace Go.Proofs.YthhjhlodgfdlgaaDoor
open Go Go.RowKit

/-- The first place of a list where something is so; -1: there is none. -/
def idxP {α : Type} (f : α → Bool) (l : List α) : Int := match l.findIdx? f with | some i => i | none => -1
theorem idxP_hit {α : Type} (f : α → Bool) (l : List α) (k : Nat) (h : k < l.length) (hk : f l[k] = true) (hb : ∀ j, (hj : j < k) → f (l[j]'(by omega)) = false) : idxP f l = k := by
  have : l.findIdx? f = some k := by
    rw [List.findIdx?_eq_some_iff_getElem]
    exact ⟨h, hk, fun j hj => by simp [hb j hj]⟩
  simp [idxP, this]
theorem idxP_miss {α : Type} (f : α → Bool) (l : List α) (hb : ∀ j, (hj : j < l.length) → f l[j] = false) : idxP f l = -1 := by
  have : l.findIdx? f = none := by
    rw [List.findIdx?_eq_none_iff]
    intro x hx
    obtain ⟨j, hj, rfl⟩ := List.getElem_of_mem hx
    exact hb j hj
  simp [idxP, this]
theorem idxP_any {α : Type} (f : α → Bool) (l : List α) : decide (0 ≤ idxP f l) = l.any f := by
  rw [Bool.eq_iff_iff]
  unfold idxP
  cases h : l.findIdx? f with
  | none =>
    rw [List.findIdx?_eq_none_iff] at h
    simp
    exact h
  | some i =>
    rw [List.findIdx?_eq_some_iff_getElem] at h
    obtain ⟨h1, h2, _⟩ := h
    simp
    exact ⟨_, List.getElem_mem h1, h2⟩

/-- A function value that answers f of what lies below a world, and turns nothing. -/
def AskPr (g : Nat) (lb : Array Value) (f : Pr → Bool) (w : World) (l : List Pr) : Prop :=
  ∀ (W : World) (x : Pr), Below w.heap.size w W → x ∈ l → Calls Tryd.prog g (#[x.v] ++ lb) W (Ret (.bool (f x)) W)

theorem bstep {B : Nat} {a b c : World} (h : Below B a b) (hB : B ≤ b.heap.size) (k : Below b.heap.size b c) : Below B a c := h.trans (k.mono hB)

set_option maxHeartbeats 1000000 in
theorem idxPr_calls (g : Nat) (lb : Array Value) (eg : ∀ args w, (callFunc g args).run Tryd.prog w = .ok (.enter g args) w) (f : Pr → Bool) (ad : Option Addr) (cap : Nat) (l : List Pr) (w : World)
    (hf : AskPr g lb f w l) (hr : RowAt w ad l) :
    Calls Tryd.prog 79 #[.slice ad l.length cap, .func (.func g) #[] lb] w (Ret (.int .i64 (idxP f l)) w) := by
  have hbig := hr.big
  have HF := Asd.mk hf
  have HR := Asd.mk hr
  clear hf hr
  go_enter Tryd.func79, Tryd.ntmps79
  go_wp2_with fail
  go_loopw [8] (fun v wr => ∃ k : Nat, v = .int .i64 k ∧ k ≤ l.length ∧ Asd (Below w.heap.size w wr) ∧ Asd (∀ j, (hj : j < l.length) → j < k → f l[j] = false)) (fun v _ => l.length - (intOf v).toNat)
  case atStart => exact ⟨0, rfl, Nat.zero_le _, ⟨Below.refl _ _⟩, ⟨fun j hj h => absurd h (by omega)⟩⟩
  case round =>
    obtain ⟨k, rfl, hk, hB, hpre⟩ := hrel
    by_cases hlt : k < l.length
    · obtain ⟨b, off, rfl, hbl, hcs⟩ := HR.out.at_ (by omega)
      obtain ⟨c0, c1, c2, c3, c4, c5, c6, c7, c8⟩ := prCells (o := off + k * 9) hB.out hbl (hcs k hlt)
      have hcall := HF.out wr l[k] hB.out (List.getElem_mem hlt)
      have hhit := fun h => idxP_hit f l k hlt h (fun j hj => hpre.out j (by omega) hj)
      have hfk : Asd (∀ b, f l[k] = b → f l[k] = b) := ⟨fun _ h => h⟩
      have hval : ∃ b, f l[k] = b := ⟨_, rfl⟩
      obtain ⟨bb, hbb⟩ := hval
      rw [hbb] at hcall hhit
      have HBB := Asd.mk hbb
      clear hbb hcs hfk
      simp only [Pr.v, encPr] at hcall
      generalize hy : l[k] = y at *
      have HY := Asd.mk hy
      clear hy
      cases bb with
      | true =>
        have hi := Asd.mk (hhit rfl)
        clear hhit
        go_wp2_with fail
        go_call hcall as e w' ⟨rfl, hb'⟩
        go_wp2_with fail
        go_ret
        exact ⟨by rw [hi.out]; rfl, bstep hB.out hB.out.size hb'⟩
      | false =>
        clear hhit
        go_wp2_with fail
        go_call hcall as e w' ⟨rfl, hb'⟩
        go_wp2_with fail
        go_roundw
        case rel => exact ⟨k + 1, by go_num, by omega, ⟨bstep hB.out hB.out.size hb'⟩, ⟨fun j hj h => by
          by_cases e : j = k
          · subst e; rw [HY.out]; exact HBB.out
          · exact hpre.out j hj (by omega)⟩⟩
        case measure => simp [intOf]; omega
    · have hkk : k = l.length := by omega
      have hi := Asd.mk (idxP_miss f l (fun j hj => hpre.out j hj (by omega)))
      clear hkk
      go_wp2_with fail
      go_ret
      exact ⟨by rw [hi.out]; rfl, hB.out⟩

theorem anyPr_calls (g : Nat) (lb : Array Value) (eg : ∀ args w, (callFunc g args).run Tryd.prog w = .ok (.enter g args) w) (f : Pr → Bool) (ad : Option Addr) (cap : Nat) (l : List Pr) (w : World)
    (hf : AskPr g lb f w l) (hr : RowAt w ad l) :
    Calls Tryd.prog 59 #[.slice ad l.length cap, .func (.func g) #[] lb] w (Ret (.bool (l.any f)) w) := by
  have hc := idxPr_calls g lb eg f ad cap l w hf hr
  rw [← idxP_any]
  clear hf hr
  generalize idxP f l = i at *
  go_enter Tryd.func59, Tryd.ntmps59
  go_wp2_with fail
  go_call hc as e w' ⟨rfl, hb'⟩
  go_wp2_with fail
  all_goals go_ret
  all_goals exact ⟨by simp_all, hb'⟩

theorem kids1_calls (k : Pr) (op : Int) (b : Nat) (W : World) (hb : b < W.heap.size) (hc : W.cell? ⟨b, 0, none⟩ = some (.int .i64 op)) :
    Calls Tryd.prog 60 #[k.v, .pointer (some ⟨b, 0, none⟩)] W (Ret (.bool (k.op == op)) W) := by
  obtain ⟨kop, col, cm, ⟨nl, i, str⟩, kd, pat, ka, kc, kids⟩ := k
  simp only [Pr.v, encPr, Pr.op, Pr.col, Pr.cmp, Pr.val, Pr.kind, Pr.pat, Pr.ka, Pr.kc, Pr.kids]
  go_enter Tryd.func60, Tryd.ntmps60
  go_wp2_with fail
  all_goals go_ret
  all_goals exact ⟨by simp_all, by go_grown⟩

def kidsP (p : Pr) : Bool :=
  if listP p then decide (2 ≤ p.kids.length) && !p.kids.any (fun k => k.op == p.op)
  else if p.op = 5 then (p.kids.length : Int) == 1
  else (p.kids.length : Int) == 0
end Go.Proofs.YthhjhlodgfdlgaaDoor
