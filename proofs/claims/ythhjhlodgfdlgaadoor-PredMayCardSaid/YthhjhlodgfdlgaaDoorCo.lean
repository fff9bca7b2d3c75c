import Derived.Test.YthhjhlodgfdlgaaDoorKids
import Derived.Test.YthhjhlodgfdlgaaDoorRefC
set_option linter.unusedVariables false
set_option linter.unusedSimpArgs false
namespace Go.Proofs.YthhjhlodgfdlgaaDoor
open Go Go.RowKit

/-- A column: its name, its type, may its cells be null? -/
structure Co where
  name : ByteArray
  ty : Int
  nl : Bool
def encCo (c : Co) : List Value := [.string c.name, .int .i64 c.ty, .bool c.nl]
instance : Enc Co := ⟨3, encCo, fun _ => rfl⟩
def Co.v (c : Co) : Value := .agg (encCo c).toArray
instance : Inhabited Co := ⟨⟨ByteArray.empty, 0, false⟩⟩
theorem coCells {B : Nat} {w0 wr : World} {b o : Nat} {y : Co} (hb : Below B w0 wr) (hlt : b < B) (h : ∀ i v, (Enc.enc y)[i]? = some v → w0.cell? ⟨b, o + i, none⟩ = some v) :
    wr.cell? ⟨b, o, none⟩ = some (.string y.name) ∧ wr.cell? ⟨b, o + 1, none⟩ = some (.int .i64 y.ty) ∧ wr.cell? ⟨b, o + 2, none⟩ = some (.bool y.nl) := by
  have g : ∀ i v, (Enc.enc y)[i]? = some v → wr.cell? ⟨b, o + i, none⟩ = some v := fun i v hv => (hb.cell (p := ⟨b, _, none⟩) hlt).trans (h i v hv)
  exact ⟨g 0 _ rfl, g 1 _ rfl, g 2 _ rfl⟩

/-- A function value that answers f of what lies below a world, and turns nothing. -/
def AskCo (g : Nat) (lb : Array Value) (f : Co → Bool) (w : World) (l : List Co) : Prop :=
  ∀ (W : World) (x : Co), Below w.heap.size w W → x ∈ l → Calls Tryd.prog g (#[x.v] ++ lb) W (Ret (.bool (f x)) W)

set_option maxHeartbeats 1000000 in
theorem idxCo_calls (g : Nat) (lb : Array Value) (eg : ∀ args w, (callFunc g args).run Tryd.prog w = .ok (.enter g args) w) (f : Co → Bool) (ad : Option Addr) (cap : Nat) (l : List Co) (w : World)
    (hf : AskCo g lb f w l) (hr : RowAt w ad l) :
    Calls Tryd.prog 80 #[.slice ad l.length cap, .func (.func g) #[] lb] w (Ret (.int .i64 (idxP f l)) w) := by
  have hbig := hr.big
  have HF := Asd.mk hf
  have HR := Asd.mk hr
  clear hf hr
  go_enter Tryd.func80, Tryd.ntmps80
  go_wp2_with fail
  go_loopw [8] (fun v wr => ∃ k : Nat, v = .int .i64 k ∧ k ≤ l.length ∧ Asd (Below w.heap.size w wr) ∧ Asd (∀ j, (hj : j < l.length) → j < k → f l[j] = false)) (fun v _ => l.length - (intOf v).toNat)
  case atStart => exact ⟨0, rfl, Nat.zero_le _, ⟨Below.refl _ _⟩, ⟨fun j hj h => absurd h (by omega)⟩⟩
  case round =>
    obtain ⟨k, rfl, hk, hB, hpre⟩ := hrel
    by_cases hlt : k < l.length
    · obtain ⟨b, off, rfl, hbl, hcs⟩ := HR.out.at_ (by omega)
      obtain ⟨c0, c1, c2⟩ := coCells (o := off + k * 3) hB.out hbl (hcs k hlt)
      have hcall := HF.out wr l[k] hB.out (List.getElem_mem hlt)
      have hhit := fun h => idxP_hit f l k hlt h (fun j hj => hpre.out j (by omega) hj)
      have hval : ∃ b, f l[k] = b := ⟨_, rfl⟩
      obtain ⟨bb, hbb⟩ := hval
      rw [hbb] at hcall hhit
      have HBB := Asd.mk hbb
      clear hbb hcs
      simp only [Co.v, encCo] at hcall
      generalize hy : l[k] = y at *
      have HY := Asd.mk hy
      clear hy
      cases bb with
      | true =>
        have hi := Asd.mk (hhit rfl)
        clear hhit
        go_wp2_with fail
        go_call hcall as e w' ⟨rfl, hb'⟩
        go_wp2_with fail
        go_ret
        exact ⟨by rw [hi.out]; rfl, bstep hB.out hB.out.size hb'⟩
      | false =>
        clear hhit
        go_wp2_with fail
        go_call hcall as e w' ⟨rfl, hb'⟩
        go_wp2_with fail
        go_roundw
        case rel => exact ⟨k + 1, by go_num, by omega, ⟨bstep hB.out hB.out.size hb'⟩, ⟨fun j hj h => by
          by_cases e : j = k
          · subst e; rw [HY.out]; exact HBB.out
          · exact hpre.out j hj (by omega)⟩⟩
        case measure => simp [intOf]; omega
    · have hkk : k = l.length := by omega
      have hi := Asd.mk (idxP_miss f l (fun j hj => hpre.out j hj (by omega)))
      clear hkk
      go_wp2_with fail
      go_ret
      exact ⟨by rw [hi.out]; rfl, hB.out⟩

theorem anyCo_calls (g : Nat) (lb : Array Value) (eg : ∀ args w, (callFunc g args).run Tryd.prog w = .ok (.enter g args) w) (f : Co → Bool) (ad : Option Addr) (cap : Nat) (l : List Co) (w : World)
    (hf : AskCo g lb f w l) (hr : RowAt w ad l) :
    Calls Tryd.prog 61 #[.slice ad l.length cap, .func (.func g) #[] lb] w (Ret (.bool (l.any f)) w) := by
  have hc := idxCo_calls g lb eg f ad cap l w hf hr
  rw [← idxP_any]
  clear hf hr
  generalize idxP f l = i at *
  go_enter Tryd.func61, Tryd.ntmps61
  go_wp2_with fail
  go_call hc as e w' ⟨rfl, hb'⟩
  go_wp2_with fail
  all_goals go_ret
  all_goals exact ⟨by simp_all, hb'⟩

theorem check1_calls (x : Co) (nm : ByteArray) (b : Nat) (W : World) (hb : b < W.heap.size) (hc : W.cell? ⟨b, 0, none⟩ = some (.string nm)) :
    Calls Tryd.prog 62 #[x.v, .pointer (some ⟨b, 0, none⟩)] W (Ret (.bool (x.name.toList == nm.toList)) W) := by
  obtain ⟨xn, xt, xl⟩ := x
  simp only [Co.v, encCo]
  go_enter Tryd.func62, Tryd.ntmps62
  go_wp2_with fail
  all_goals go_ret
  all_goals exact ⟨by simp_all, by go_grown⟩
theorem find1_calls (x : Co) (nm : ByteArray) (b : Nat) (W : World) (hb : b < W.heap.size) (hc : W.cell? ⟨b, 0, none⟩ = some (.string nm)) :
    Calls Tryd.prog 81 #[x.v, .pointer (some ⟨b, 0, none⟩)] W (Ret (.bool (x.name.toList == nm.toList)) W) := by
  obtain ⟨xn, xt, xl⟩ := x
  simp only [Co.v, encCo]
  go_enter Tryd.func81, Tryd.ntmps81
  go_wp2_with fail
  all_goals go_ret
  all_goals exact ⟨by simp_all, by go_grown⟩

/-- Where a column is; -1: nowhere. -/
def findI (cols : List Co) (nm : ByteArray) : Int := idxP (fun c => c.name.toList == nm.toList) cols
theorem idxP_bd {α : Type} (f : α → Bool) (l : List α) : -1 ≤ idxP f l ∧ idxP f l < l.length := by
  unfold idxP
  cases h : l.findIdx? f with
  | none => simp; omega
  | some i =>
    rw [List.findIdx?_eq_some_iff_getElem] at h
    obtain ⟨h1, _, _⟩ := h
    simp; omega
/-- What Find answers. -/
def FindRet (i : Int) (w : World) (e : Ending) (w' : World) : Prop := e = .returned (.tuple #[.int .i64 (if 0 ≤ i then i else 0), .bool (decide (0 ≤ i))]) ∧ Below w.heap.size w w'

set_option maxHeartbeats 1000000 in
theorem find_calls (cols : List Co) (nm : ByteArray) (ad : Option Addr) (cap : Nat) (w : World) (hr : RowAt w ad cols) :
    Calls Tryd.prog 63 #[.slice ad cols.length cap, .string nm] w (FindRet (findI cols nm) w) := by
  have eg := enters_of Tryd.func81 (by kernel_rfl) rfl
  have hB1 := (Below.refl w.heap.size w).alloc (Nat.le_refl _) (Obj.cells #[.string nm] 9)
  have hx : Asd (∀ W, Below w.heap.size w W → W.cell? ⟨w.heap.size, 0, none⟩ = some (.string nm) → w.heap.size < W.heap.size → Calls Tryd.prog 80 #[.slice ad cols.length cap, .func (.func 81) #[] #[.pointer (some ⟨w.heap.size, 0, none⟩)]] W (Ret (.int .i64 (findI cols nm)) W)) :=
    ⟨fun W hb hc hlt => idxCo_calls _ _ eg _ ad cap cols W (fun W' x hb' _ => find1_calls x nm _ W' (Nat.lt_of_lt_of_le hlt hb'.size) ((hb'.cell (p := ⟨_, _, none⟩) hlt).trans hc)) (hr.low hb)⟩
  have hbd : -1 ≤ findI cols nm ∧ findI cols nm < cols.length := idxP_bd _ _
  clear hr
  generalize findI cols nm = i at *
  obtain ⟨hb0, hb1⟩ := hbd
  have hx1 := hx.out _ hB1 (by simp) (by simp)
  clear hx
  by_cases h0 : 0 ≤ i
  · have e1 : FindRet i w = (fun e w' => e = .returned (.tuple #[.int .i64 i, .bool true]) ∧ Below w.heap.size w w') := by
      funext e w'; simp [FindRet, h0]
    rw [e1]
    clear e1
    go_enter Tryd.func63, Tryd.ntmps63
    go_wp2_with fail
    go_call hx1 as e w1 ⟨rfl, hb2⟩
    go_wp2_with fail
    all_goals go_ret2
    all_goals exact ⟨by simp_all, bnext hB1 hb2⟩
  · have e1 : FindRet i w = (fun e w' => e = .returned (.tuple #[.int .i64 0, .bool false]) ∧ Below w.heap.size w w') := by
      funext e w'; simp [FindRet, h0]
    rw [e1]
    clear e1
    go_enter Tryd.func63, Tryd.ntmps63
    go_wp2_with fail
    go_call hx1 as e w1 ⟨rfl, hb2⟩
    go_wp2_with fail
    all_goals go_ret2
    all_goals exact ⟨by simp_all, bnext hB1 hb2⟩
end Go.Proofs.YthhjhlodgfdlgaaDoor
