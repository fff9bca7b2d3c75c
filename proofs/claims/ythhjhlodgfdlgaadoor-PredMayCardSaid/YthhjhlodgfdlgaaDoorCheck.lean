import Derived.Test.YthhjhlodgfdlgaaDoorCo
set_option linter.unusedVariables false
set_option linter.unusedSimpArgs false
namespace Go.Proofs.YthhjhlodgfdlgaaDoor
open Go Go.RowKit

theorem RowAt.take {α : Type} [Enc α] {w : World} {ad : Option Addr} {xs : List α} (h : RowAt w ad xs) (k : Nat) : RowAt w ad (xs.take k) := by
  refine ⟨by have := h.big; simp; omega, fun hp => ?_⟩
  obtain ⟨b, off, e, hlt, hc⟩ := h.at_ (by simp at hp; omega)
  refine ⟨b, off, e, hlt, fun j hj i v hv => ?_⟩
  simp at hj
  rw [List.getElem_take] at hv
  exact hc j (by omega) i v hv

def badAt (cols : List Co) (i : Nat) : Bool := match cols[i]? with
  | some c => (cols.take i).any (fun x => x.name.toList == c.name.toList) || !nameB c.name || decide (c.ty < 1) || decide (3 < c.ty)
  | none => false
/-- Why columns may not be. -/
def errC (cols : List Co) : Int := if cols.length = 0 then 1 else if (List.range cols.length).any (badAt cols) then 1 else if 6 < cols.length then 4 else 0
theorem errC_bad {cols : List Co} (k : Nat) (hk : k < cols.length) (h : badAt cols k = true) : errC cols = 1 := by
  have h1 : (List.range cols.length).any (badAt cols) = true := by rw [List.any_eq_true]; exact ⟨k, by simpa using hk, h⟩
  unfold errC; rw [h1]; simp
theorem errC_ok {cols : List Co} (h : ∀ k, k < cols.length → badAt cols k = false) (h0 : 0 < cols.length) : errC cols = if 6 < cols.length then 4 else 0 := by
  have h1 : (List.range cols.length).any (badAt cols) = false := by rw [List.any_eq_false]; intro x hx; simp at hx; simp [h x hx]
  have h2 : ¬ cols.length = 0 := by omega
  unfold errC; rw [h1]; simp [h2]
theorem errC_none {cols : List Co} (h : cols.length = 0) : errC cols = 1 := by unfold errC; rw [if_pos h]
theorem badAt_at {cols : List Co} (k : Nat) (hk : k < cols.length) : badAt cols k = ((cols.take k).any (fun x => x.name.toList == cols[k].name.toList) || !nameB cols[k].name || decide (cols[k].ty < 1) || decide (3 < cols[k].ty)) := by
  simp [badAt, hk]

set_option maxHeartbeats 2000000 in
set_option maxRecDepth 100000 in
theorem schemaCheck_calls (cols : List Co) (ad : Option Addr) (cap : Nat) (w : World) (hr : RowAt w ad cols) (hcap : cols.length ≤ cap) (hcm : cap ≤ 9223372036854775807) (hfine : ∀ c ∈ cols, c.name.size ≤ 9223372036854775807) :
    Calls Tryd.prog 38 #[.slice ad cols.length cap] w (Ret (.int .i64 (errC cols)) w) := by
  have eg := Asd.mk (enters_of Tryd.func62 (by kernel_rfl) rfl)
  have HR := Asd.mk hr
  have HF := Asd.mk hfine
  have hbig := hr.big
  have H0 := Asd.mk (@errC_none cols)
  have H1 := Asd.mk (@errC_bad cols)
  have H2 := Asd.mk (@errC_ok cols)
  have HB := Asd.mk (@badAt_at cols)
  clear hr hfine
  generalize errC cols = r at *
  by_cases h0 : cols.length = 0
  · obtain rfl : r = 1 := H0.out h0
    rw [h0]
    go_enter Tryd.func38, Tryd.ntmps38
    go_wp2_with fail
    go_ret
    exact ⟨rfl, Below.refl _ _⟩
  have hz : ((cols.length : Int) == 0) = false := by simp; intro h; exact h0 (by rw [h]; rfl)
  go_enter Tryd.func38, Tryd.ntmps38
  go_wp2_with fail
  go_loopw [11] (fun v wr => ∃ k : Nat, v = .int .i64 k ∧ k ≤ cols.length ∧ Asd (Below w.heap.size w wr) ∧ Asd (∀ j, j < cols.length → j < k → badAt cols j = false)) (fun v _ => cols.length - (intOf v).toNat)
  case atStart => exact ⟨0, rfl, Nat.zero_le _, ⟨Below.refl _ _⟩, ⟨fun j hj h => absurd h (by omega)⟩⟩
  case round =>
    obtain ⟨k, rfl, hk, hB, hpre⟩ := hrel
    by_cases hlt : k < cols.length
    · obtain ⟨b, off, rfl, hbl, hcs⟩ := HR.out.at_ (by omega)
      obtain ⟨c0, c1, c2⟩ := coCells (o := off + k * 3) hB.out hbl (hcs k hlt)
      have hba := HB.out k hlt
      have hsz := HF.out cols[k] (List.getElem_mem hlt)
      have hbad := H1.out k hlt
      have hB1 := hB.out.alloc hB.out.size (Obj.cells (encCo cols[k]).toArray 56)
      have hany := anyCo_calls 62 #[.pointer (some ⟨wr.heap.size, 0, none⟩)] eg.out (fun x => x.name.toList == cols[k].name.toList) (some ⟨b, off, none⟩) cap (cols.take k) (wr.alloc (Obj.cells (encCo cols[k]).toArray 56))
        (fun W x hb _ => check1_calls x cols[k].name wr.heap.size W (by have := hb.size; simp at this; omega) ((hb.cell (p := ⟨_, _, none⟩) (by simp)).trans (by simp [encCo]))) ((HR.out.take k).low hB1)
      have hlk : (cols.take k).length = k := by rw [List.length_take]; omega
      rw [hlk] at hany
      have hbadk : Asd (∀ q, badAt cols k = q → badAt cols k = q) := ⟨fun _ h => h⟩
      rw [hba] at hbad
      have hstep : Asd (((cols.take k).any (fun x => x.name.toList == cols[k].name.toList) || !nameB cols[k].name || decide (cols[k].ty < 1) || decide (3 < cols[k].ty)) = false → ∀ j, j < cols.length → j < k + 1 → badAt cols j = false) := ⟨fun h j hj hjk => by
        by_cases e : j = k
        · subst e; rw [hba]; exact h
        · exact hpre.out j hj (by omega)⟩
      have hname := fun W => name_calls cols[k].name W hsz
      clear hba hbadk hlk hcs hpre H0 H1 H2 HB
      generalize (cols.take k).any (fun x => x.name.toList == cols[k].name.toList) = tw at *
      generalize nameB cols[k].name = nb at *
      generalize cols[k] = y at *
      obtain ⟨yn, yt, yl⟩ := y
      simp only [encCo] at *
      have HBad := Asd.mk hbad
      clear hbad
      have hd : (tw || !nb || decide (yt < 1) || decide (3 < yt)) = true ∨ (tw = false ∧ nb = true ∧ ¬ yt < 1 ∧ ¬ 3 < yt) := by
        cases tw <;> cases nb <;> by_cases q1 : yt < 1 <;> by_cases q2 : 3 < yt <;> simp [q1, q2]
      have HD := Asd.mk hd
      clear hd
      cases tw with
      | true =>
        obtain rfl : r = 1 := HBad.out (by simp)
        go_wp2_with fail
        go_call hany as e w1 ⟨rfl, hb1⟩
        go_wp2_with fail
        go_ret
        exact ⟨rfl, bnext hB1 hb1⟩
      | false =>
        cases nb with
        | false =>
          obtain rfl : r = 1 := HBad.out (by simp)
          go_wp2_with fail
          go_call hany as e w1 ⟨rfl, hb1⟩
          obtain ⟨hc1, hf1⟩ := bcell hb1
          go_wp2_with fail
          go_call (hname _) as e w2 ⟨rfl, hb2⟩
          go_wp2_with fail
          go_ret
          exact ⟨rfl, bnext (bnext hB1 hb1) hb2⟩
        | true =>
          by_cases q1 : yt < 1
          · obtain rfl : r = 1 := HBad.out (by simp [q1])
            go_wp2_with fail
            go_call hany as e w1 ⟨rfl, hb1⟩
            obtain ⟨hc1, hf1⟩ := bcell hb1
            go_wp2_with fail
            go_call (hname _) as e w2 ⟨rfl, hb2⟩
            obtain ⟨hc2, hf2⟩ := bcell (hb1.trans (hb2.mono hb1.size))
            go_wp2_with fail
            go_ret
            exact ⟨rfl, bnext (bnext hB1 hb1) hb2⟩
          · by_cases q2 : 3 < yt
            · obtain rfl : r = 1 := HBad.out (by simp [q2])
              go_wp2_with fail
              go_call hany as e w1 ⟨rfl, hb1⟩
              obtain ⟨hc1, hf1⟩ := bcell hb1
              go_wp2_with fail
              go_call (hname _) as e w2 ⟨rfl, hb2⟩
              obtain ⟨hc2, hf2⟩ := bcell (hb1.trans (hb2.mono hb1.size))
              go_wp2_with fail
              go_ret
              exact ⟨rfl, bnext (bnext hB1 hb1) hb2⟩
            · have hnx := Asd.mk (hstep.out (by simp [q1, q2]))
              clear HBad hstep HD
              go_wp2_with fail
              go_call hany as e w1 ⟨rfl, hb1⟩
              obtain ⟨hc1, hf1⟩ := bcell hb1
              go_wp2_with fail
              go_call (hname _) as e w2 ⟨rfl, hb2⟩
              obtain ⟨hc2, hf2⟩ := bcell (hb1.trans (hb2.mono hb1.size))
              go_wp2_with fail
              go_roundw
              case rel => exact ⟨k + 1, by go_num, by omega, ⟨bnext (bnext hB1 hb1) hb2⟩, hnx⟩
              case measure => simp [intOf]; omega
    · have hkk : k = cols.length := by omega
      have hr := H2.out (fun j hj => hpre.out j hj (by omega)) (by omega)
      clear H0 H1 H2 HB hpre
      by_cases h6 : 6 < cols.length
      · rw [if_pos h6] at hr
        subst hr
        have h6' : decide ((6 : Int) < (cols.length : Int)) = true := by simp; omega
        clear hkk
        go_wp2_with fail
        go_ret
        exact ⟨rfl, hB.out⟩
      · rw [if_neg h6] at hr
        subst hr
        have h6' : decide ((6 : Int) < (cols.length : Int)) = false := by simp; omega
        clear hkk
        go_wp2_with fail
        go_ret
        exact ⟨rfl, hB.out⟩

set_option maxHeartbeats 1000000 in
set_option maxRecDepth 100000 in
theorem refFind_calls (cols : List Co) (nm : ByteArray) (ad : Option Addr) (cap : Nat) (w : World) (hr : RowAt w ad cols) :
    Calls Tryd.prog 64 #[.slice ad cols.length cap, .string nm] w (Ret (.int .i64 (findI cols nm)) w) := by
  have HR := Asd.mk hr
  have hbig := hr.big
  have HH := Asd.mk (idxP_hit (fun c : Co => c.name.toList == nm.toList) cols)
  have HM := Asd.mk (idxP_miss (fun c : Co => c.name.toList == nm.toList) cols)
  have hdef : findI cols nm = idxP (fun c => c.name.toList == nm.toList) cols := rfl
  rw [hdef]
  generalize idxP (fun c : Co => c.name.toList == nm.toList) cols = r at *
  clear hr hdef
  go_enter Tryd.func64, Tryd.ntmps64
  go_wp2_with fail
  go_loopw [5] (fun v wr => ∃ k : Nat, v = .int .i64 k ∧ k ≤ cols.length ∧ Asd (Below w.heap.size w wr) ∧ Asd (∀ j, (hj : j < cols.length) → j < k → (cols[j].name.toList == nm.toList) = false)) (fun v _ => cols.length - (intOf v).toNat)
  case atStart => exact ⟨0, rfl, Nat.zero_le _, ⟨Below.refl _ _⟩, ⟨fun j hj h => absurd h (by omega)⟩⟩
  case round =>
    obtain ⟨k, rfl, hk, hB, hpre⟩ := hrel
    by_cases hlt : k < cols.length
    · obtain ⟨b, off, rfl, hbl, hcs⟩ := HR.out.at_ (by omega)
      obtain ⟨c0, c1, c2⟩ := coCells (o := off + k * 3) hB.out hbl (hcs k hlt)
      have hhit := fun h => HH.out k hlt h (fun j hj => hpre.out j (by omega) hj)
      have hstep : Asd ((cols[k].name.toList == nm.toList) = false → ∀ j, (hj : j < cols.length) → j < k + 1 → (cols[j].name.toList == nm.toList) = false) := ⟨fun h j hj hjk => by
        by_cases e : j = k
        · subst e; exact h
        · exact hpre.out j hj (by omega)⟩
      clear hcs hpre HH HM
      generalize cols[k] = y at *
      obtain ⟨yn, yt, yl⟩ := y
      simp only at *
      have HHit := Asd.mk hhit
      clear hhit
      cases hq : (yn.toList == nm.toList) with
      | true =>
        obtain rfl : r = k := HHit.out hq
        go_wp2_with fail
        go_ret
        exact ⟨rfl, hB.out⟩
      | false =>
        have hnx := Asd.mk (hstep.out hq)
        clear HHit hstep
        go_wp2_with fail
        go_roundw
        case rel => exact ⟨k + 1, by go_num, by omega, ⟨hB.out⟩, hnx⟩
        case measure => simp [intOf]; omega
    · obtain rfl : r = -1 := HM.out (fun j hj => hpre.out j hj (by omega))
      clear HH HM hpre
      go_wp2_with fail
      go_ret
      exact ⟨rfl, hB.out⟩

def smallL (cols : List Co) : Bool := (cols.take 30).all (fun c => !decide (100 < c.name.size)) && decide ((cols.length : Int) ≤ 20)
end Go.Proofs.YthhjhlodgfdlgaaDoor
