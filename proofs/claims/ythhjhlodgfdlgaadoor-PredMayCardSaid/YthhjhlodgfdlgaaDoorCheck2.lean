import Derived.Test.YthhjhlodgfdlgaaDoorCheck
set_option linter.unusedVariables false
set_option linter.unusedSimpArgs false
namespace Go.Proofs.YthhjhlodgfdlgaaDoor
open Go Go.RowKit

theorem badAt_twice {cols : List Co} (k m : Nat) (hk : k < cols.length) (hm : m < k) (h : (cols[m].name.toList == cols[k].name.toList) = true) : badAt cols k = true := by
  rw [badAt_at k hk]
  have h1 : (cols.take k).any (fun x => x.name.toList == cols[k].name.toList) = true := by
    rw [List.any_eq_true]
    exact ⟨cols[m], by rw [List.mem_take_iff_getElem]; exact ⟨m, by omega, rfl⟩, h⟩
  simp [h1]
theorem badAt_once {cols : List Co} (k : Nat) (hk : k < cols.length) (h : ∀ m, (hm : m < k) → (cols[m].name.toList == cols[k].name.toList) = false) : badAt cols k = (!nameB cols[k].name || decide (cols[k].ty < 1) || decide (3 < cols[k].ty)) := by
  rw [badAt_at k hk]
  have h1 : (cols.take k).any (fun x => x.name.toList == cols[k].name.toList) = false := by
    rw [List.any_eq_false]
    intro x hx
    rw [List.mem_take_iff_getElem] at hx
    obtain ⟨m, hm, rfl⟩ := hx
    simpa using h m (by omega)
  simp [h1]
theorem badAt_own {cols : List Co} (k : Nat) (hk : k < cols.length) (h : (!nameB cols[k].name || decide (cols[k].ty < 1) || decide (3 < cols[k].ty)) = true) : badAt cols k = true := by
  rw [badAt_at k hk, Bool.or_assoc, Bool.or_assoc]
  rw [Bool.or_assoc] at h
  rw [h]; simp

set_option maxHeartbeats 2000000 in
set_option maxRecDepth 100000 in
theorem refCheck_calls (cols : List Co) (ad : Option Addr) (cap : Nat) (w : World) (hr : RowAt w ad cols) (hfine : ∀ c ∈ cols, c.name.size ≤ 9223372036854775807) :
    Calls Tryd.prog 41 #[.slice ad cols.length cap] w (Ret (.int .i64 (errC cols)) w) := by
  have HR := Asd.mk hr
  have HF := Asd.mk hfine
  have hbig := hr.big
  have H0 := Asd.mk (@errC_none cols)
  have H1 := Asd.mk (@errC_bad cols)
  have H2 := Asd.mk (@errC_ok cols)
  have HT := Asd.mk (@badAt_twice cols)
  have HO := Asd.mk (@badAt_once cols)
  have HW := Asd.mk (@badAt_own cols)
  clear hr hfine
  generalize errC cols = r at *
  go_enter Tryd.func41, Tryd.ntmps41
  go_wp2_with fail
  go_loopw [3] (fun v wr => ∃ k : Nat, v = .int .i64 k ∧ k ≤ cols.length ∧ Asd (Below w.heap.size w wr) ∧ Asd (∀ j, j < cols.length → j < k → badAt cols j = false)) (fun v _ => cols.length - (intOf v).toNat)
  case atStart => exact ⟨0, rfl, Nat.zero_le _, ⟨Below.refl _ _⟩, ⟨fun j hj h => absurd h (by omega)⟩⟩
  case round =>
    obtain ⟨k, rfl, hk, hB, hpre⟩ := hrel
    by_cases hlt : k < cols.length
    · obtain ⟨b, off, rfl, hbl, hcs⟩ := HR.out.at_ (by omega)
      obtain ⟨c0, c1, c2⟩ := coCells (o := off + k * 3) hB.out hbl (hcs k hlt)
      have hsz := HF.out cols[k] (List.getElem_mem hlt)
      have hname := fun W => name_calls cols[k].name W hsz
      have hname := fun W => refName_calls cols[k].name W hsz
      have hown := HW.out k hlt
      have honce := HO.out k hlt
      have htw := fun m hm => HT.out k m hlt hm
      have hbad := H1.out k hlt
      have hstep : Asd (badAt cols k = false → ∀ j, j < cols.length → j < k + 1 → badAt cols j = false) := ⟨fun h j hj hjk => by
        by_cases e : j = k
        · subst e; exact h
        · exact hpre.out j hj (by omega)⟩
      have hcm : Asd (∀ m, (hm : m < k) → ∀ W, Below w.heap.size w W → W.cell? ⟨b, off + m * 3, none⟩ = some (.string (cols[m]'(by omega)).name)) := ⟨fun m hm W hW => (coCells (o := off + m * 3) hW hbl (hcs m (by omega))).1⟩
      have hck : Asd (∀ W, Below w.heap.size w W → W.cell? ⟨b, off + k * 3, none⟩ = some (.string cols[k].name)) := ⟨fun W hW => (coCells (o := off + k * 3) hW hbl (hcs k (by omega))).1⟩
      have hcc : Asd (∀ W, Below w.heap.size w W → W.cell? ⟨b, off + k * 3, none⟩ = some (.string cols[k].name) ∧ W.cell? ⟨b, off + k * 3 + 1, none⟩ = some (.int .i64 cols[k].ty)) := ⟨fun W hW => ⟨(coCells (o := off + k * 3) hW hbl (hcs k (by omega))).1, (coCells (o := off + k * 3) hW hbl (hcs k (by omega))).2.1⟩⟩
      clear hcs hpre H0 H1 H2 HT HO HW
      generalize badAt cols k = bk at *
      generalize nameB cols[k].name = nb at *
      generalize hy : cols[k] = y at *
      have HY := Asd.mk hy
      clear hy
      obtain ⟨yn, yt, yl⟩ := y
      simp only at *
      have HBad := Asd.mk hbad
      have HOwn := Asd.mk hown
      have HOnce := Asd.mk honce
      have HTw := Asd.mk htw
      clear hbad hown honce htw
      cases nb with
      | false =>
        obtain rfl : r = 1 := HBad.out (HOwn.out (by simp))
        go_wp2_with fail
        go_call (hname _) as e w1 ⟨rfl, hb1⟩
        go_wp2_with fail
        go_ret
        exact ⟨rfl, bnext hB.out hb1⟩
      | true =>
        by_cases q1 : yt < 1
        · obtain rfl : r = 1 := HBad.out (HOwn.out (by simp [q1]))
          go_wp2_with fail
          go_call (hname _) as e w1 ⟨rfl, hb1⟩
          have hcc1 := hcc.out _ (bnext hB.out hb1)
          obtain ⟨hcc1, hcc2⟩ := hcc1
          go_wp2_with fail
          go_ret
          exact ⟨rfl, bnext hB.out hb1⟩
        by_cases q2 : 3 < yt
        · obtain rfl : r = 1 := HBad.out (HOwn.out (by simp [q2]))
          go_wp2_with fail
          go_call (hname _) as e w1 ⟨rfl, hb1⟩
          have hcc1 := hcc.out _ (bnext hB.out hb1)
          obtain ⟨hcc1, hcc2⟩ := hcc1
          go_wp2_with fail
          go_ret
          exact ⟨rfl, bnext hB.out hb1⟩
        go_wp2_with fail
        go_call (hname _) as e w1 ⟨rfl, hb1⟩
        have hcc1 := hcc.out _ (bnext hB.out hb1)
        obtain ⟨hcc1, hcc2⟩ := hcc1
        have HB1 := Asd.mk (bnext hB.out hb1)
        have hq : Asd ((!true || decide (yt < 1) || decide (3 < yt)) = false) := ⟨by simp [q1, q2]⟩
        go_wp2_with fail
        clear hcc1 hcc2 hb1 c0 c1 c2 hname
        go_loopw [4] (fun v wr => ∃ m : Nat, v = .int .i64 m ∧ m ≤ k ∧ Asd (Below w.heap.size w wr) ∧ Asd (∀ j, (hj : j < k) → j < m → ((cols[j]'(by omega)).name.toList == yn.toList) = false)) (fun v _ => k - (intOf v).toNat)
        case atStart => exact ⟨0, rfl, Nat.zero_le _, HB1, ⟨fun j hj h => absurd h (by omega)⟩⟩
        case round =>
          clear HB1
          obtain ⟨m, rfl, hm, hBm, hpm⟩ := hrel
          by_cases hmk : m < k
          · have d1 := hcm.out m hmk _ hBm.out
            have d2 := hck.out _ hBm.out
            have htm := HTw.out m hmk
            have hml : m < cols.length := by omega
            have hstm : Asd (((cols[m]'(by omega)).name.toList == yn.toList) = false → ∀ j, (hj : j < k) → j < m + 1 → ((cols[j]'(by omega)).name.toList == yn.toList) = false) := ⟨fun h j hj hjk => by
              by_cases e : j = m
              · subst e; exact h
              · exact hpm.out j hj (by omega)⟩
            clear hpm
            generalize (cols[m]'(by omega)).name = xn at *
            have HTm := Asd.mk htm
            clear htm
            have hKEEP : Asd (∀ W, Below wr.heap.size wr W → True) := ⟨fun _ _ => trivial⟩
            cases hq2 : (xn.toList == yn.toList) with
            | true =>
              obtain rfl : r = 1 := HBad.out (HTm.out hq2)
              go_wp2_with fail
              go_region
              all_goals go_wp2_with fail
              all_goals go_ret
              all_goals exact ⟨rfl, by first | exact hBm.out | exact hBm.out.drew⟩
            | false =>
              have hnx := Asd.mk (hstm.out hq2)
              clear hstm HTm HTw HOnce HOwn HBad
              go_wp2_with fail
              go_region
              all_goals go_wp2_with fail
              all_goals go_roundw
              case rel => exact ⟨m + 1, by go_num, by omega, ⟨by first | exact hBm.out | exact hBm.out.drew⟩, hnx⟩
              case measure => simp [intOf]; omega
          · have hbf := HOnce.out (fun m' hm' => hpm.out m' hm' (by omega))
            have hbf2 : bk = false := by rw [hbf]; exact hq.out
            subst hbf2
            have hnx := Asd.mk (hstep.out rfl)
            clear hbf hpm HOnce HOwn HTw HBad
            go_wp2_with fail
            go_roundw
            case rel => exact ⟨k + 1, by go_num, by omega, hBm, hnx⟩
            case measure => simp [intOf]; omega
    · have hkk : k = cols.length := by omega
      have hok := fun h => H2.out (fun j hj => hpre.out j hj (by omega)) h
      have hno := H0.out
      have HOk := Asd.mk hok
      have HNo := Asd.mk hno
      clear hok hno H0 H1 H2 HT HO HW hpre
      by_cases h0 : cols.length = 0
      · obtain rfl : r = 1 := HNo.out h0
        have h0' : ((cols.length : Int) == 0) = true := by rw [h0]; rfl
        clear hkk h0
        go_wp2_with fail
        go_ret
        exact ⟨rfl, hB.out⟩
      have hr := HOk.out (by omega)
      have h0' : ((cols.length : Int) == 0) = false := by simp; intro h; exact h0 (by rw [h]; rfl)
      by_cases h6 : 6 < cols.length
      · rw [if_pos h6] at hr
        subst hr
        have h6' : decide ((6 : Int) < (cols.length : Int)) = true := by simp; omega
        clear hkk h0
        go_wp2_with fail
        go_ret
        exact ⟨rfl, hB.out⟩
      · rw [if_neg h6] at hr
        subst hr
        have h6' : decide ((6 : Int) < (cols.length : Int)) = false := by simp; omega
        clear hkk h0
        go_wp2_with fail
        go_ret
        exact ⟨rfl, hB.out⟩

theorem smallL_no {cols : List Co} (k : Nat) (hk : k < cols.length) (h30 : k < 30) (h : 100 < cols[k].name.size) : smallL cols = false := by
  have : (cols.take 30).all (fun c => !decide (100 < c.name.size)) = false := by
    rw [List.all_eq_false]
    exact ⟨cols[k], by rw [List.mem_take_iff_getElem]; exact ⟨k, by omega, rfl⟩, by simp [h]⟩
  simp [smallL, this]
theorem smallL_yes {cols : List Co} (h : ∀ k, (hk : k < cols.length) → k < 30 → ¬ 100 < cols[k].name.size) : smallL cols = decide ((cols.length : Int) ≤ 20) := by
  have : (cols.take 30).all (fun c => !decide (100 < c.name.size)) = true := by
    rw [List.all_eq_true]
    intro x hx
    rw [List.mem_take_iff_getElem] at hx
    obtain ⟨m, hm, rfl⟩ := hx
    simpa using h m (by omega) (by omega)
  simp [smallL, this]

set_option maxHeartbeats 1000000 in
set_option maxRecDepth 100000 in
theorem lawSmall_calls (cols : List Co) (ad : Option Addr) (cap : Nat) (w : World) (hr : RowAt w ad cols) (hfine : ∀ c ∈ cols, c.name.size ≤ 9223372036854775807) :
    Calls Tryd.prog 16 #[.slice ad cols.length cap] w (Ret (.bool (smallL cols)) w) := by
  have HR := Asd.mk hr
  have HF := Asd.mk hfine
  have hbig := hr.big
  have HN := Asd.mk (@smallL_no cols)
  have HY := Asd.mk (@smallL_yes cols)
  generalize smallL cols = r at *
  clear hr hfine
  go_enter Tryd.func16, Tryd.ntmps16
  go_wp2_with fail
  go_loopw [3] (fun v wr => ∃ k : Nat, v = .int .i64 k ∧ k ≤ cols.length ∧ k ≤ 30 ∧ Asd (Below w.heap.size w wr) ∧ Asd (∀ j, (hj : j < cols.length) → j < k → ¬ 100 < cols[j].name.size)) (fun v _ => cols.length - (intOf v).toNat)
  case atStart => exact ⟨0, rfl, Nat.zero_le _, by omega, ⟨Below.refl _ _⟩, ⟨fun j hj h => absurd h (by omega)⟩⟩
  case round =>
    obtain ⟨k, rfl, hk, hk30, hB, hpre⟩ := hrel
    by_cases hlt : k < cols.length ∧ k < 30
    · obtain ⟨hlt, h30⟩ := hlt
      have hd1 : decide ((k : Int) < (cols.length : Int)) = true := by simpa using hlt
      have hd2 : decide ((k : Int) < 30) = true := by simp; omega
      obtain ⟨b, off, rfl, hbl, hcs⟩ := HR.out.at_ (by omega)
      obtain ⟨c0, c1, c2⟩ := coCells (o := off + k * 3) hB.out hbl (hcs k hlt)
      have hn := HN.out k hlt h30
      have hsz := HF.out cols[k] (List.getElem_mem hlt)
      have hstep : Asd (¬ 100 < cols[k].name.size → ∀ j, (hj : j < cols.length) → j < k + 1 → ¬ 100 < cols[j].name.size) := ⟨fun h j hj hjk => by
        by_cases e : j = k
        · subst e; exact h
        · exact hpre.out j hj (by omega)⟩
      clear hcs hpre HN HY
      generalize cols[k] = y at *
      obtain ⟨yn, yt, yl⟩ := y
      simp only at *
      have HNk := Asd.mk hn
      clear hn
      by_cases hq : 100 < yn.size
      · obtain rfl : r = false := HNk.out hq
        have hq' : decide ((100 : Int) < (yn.size : Int)) = true := by simp; omega
        go_wp2_with fail
        go_ret
        exact ⟨rfl, hB.out⟩
      · have hnx := Asd.mk (hstep.out hq)
        have hq' : decide ((100 : Int) < (yn.size : Int)) = false := by simp; omega
        clear HNk hstep
        go_wp2_with fail
        go_roundw
        case rel => exact ⟨k + 1, by go_num, by omega, by omega, ⟨hB.out⟩, hnx⟩
        case measure => simp [intOf]; omega
    · have hy := HY.out (fun j hj h30 => hpre.out j hj (by omega))
      subst hy
      clear HN HY hpre
      by_cases hd : k < cols.length
      · have hd1 : decide ((k : Int) < (cols.length : Int)) = true := by simpa using hd
        have hd2 : decide ((k : Int) < 30) = false := by simp; omega
        clear hlt
        go_wp2_with fail
        go_ret
        exact ⟨by simp_all, hB.out⟩
      · have hd1 : decide ((k : Int) < (cols.length : Int)) = false := by simpa using hd
        clear hlt
        go_wp2_with fail
        go_ret
        exact ⟨by simp_all, hB.out⟩
end Go.Proofs.YthhjhlodgfdlgaaDoor
