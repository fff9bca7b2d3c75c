import Derived.Test.YthhjhlodgfdlgaaDoorTokAll
import Derived.Test.YthhjhlodgfdlgaaDoorTokW
import Derived.Test.YthhjhlodgfdlgaaDoorRVal
set_option linter.unusedVariables false
set_option linter.unusedSimpArgs false
namespace Go.Proofs.YthhjhlodgfdlgaaDoor
open Go Go.RowKit

/-- Four cells of a token in a row. -/
theorem tkCells {w : World} {a : Option Addr} {ts : List Tk} (h : RowAt w a ts) (hp : 0 < ts.length) : ∃ b off, a = some ⟨b, off, none⟩ ∧ b < w.heap.size ∧ ∀ j (hj : j < ts.length),
    w.cell? ⟨b, off + j * 4, none⟩ = some (.int .i64 ts[j].kind) ∧ w.cell? ⟨b, off + j * 4 + 1, none⟩ = some (.string ts[j].s) ∧ w.cell? ⟨b, off + j * 4 + 2, none⟩ = some (.int .i64 ts[j].n) ∧ w.cell? ⟨b, off + j * 4 + 3, none⟩ = some (.int .i64 ts[j].at_) := by
  obtain ⟨b, off, e, hlt, hc⟩ := h.at_ hp
  exact ⟨b, off, e, hlt, fun j hj => ⟨hc j hj 0 _ rfl, hc j hj 1 _ rfl, hc j hj 2 _ rfl, hc j hj 3 _ rfl⟩⟩
theorem num16_calls (n : Int) (w : World) : Calls Tryd.prog 27 #[.int .i64 n] w (Ret (.int .i64 n) w) := by
  go_enter Tryd.func27, Tryd.ntmps27
  go_wp2_with fail
  go_ret
  exact ⟨rfl, Below.refl _ _⟩

set_option maxHeartbeats 1000000 in
set_option maxRecDepth 100000 in
theorem live16_calls (w : World) (hw : NumOk w) : Calls Tryd.prog 21 #[] w (Ret (.bool true) w) := by
  have hall := all_calls ⟨#[97, 60, 61, 45, 53]⟩ w (by decide) hw
  have e1 : toks (ByteArray.mk #[97, 60, 61, 45, 53]).data.toList 0 = _ := toks_live
  rw [e1] at hall
  have hall2 := hall.mono (R' := fun e w' => ∃ b off c, e = .returned (.tuple #[.slice (some ⟨b, off, none⟩) 4 c, .int .i64 5, .int .i64 0]) ∧ 4 ≤ c ∧ b < w'.heap.size ∧ w'.cell? ⟨b, off + 5, none⟩ = some (.string ⟨#[60, 61]⟩) ∧ w'.cell? ⟨b, off + 10, none⟩ = some (.int .i64 (-5)) ∧ w'.cell? ⟨b, off + 15, none⟩ = some (.int .i64 5) ∧ Below w.heap.size w w') (by
    rintro e w' ⟨⟨a, c, rfl, hr, hc⟩, hb⟩
    obtain ⟨b, off, rfl, hlt, hcs⟩ := tkCells hr (by simp)
    exact ⟨b, off, c, rfl, hc, hlt, (hcs 1 (by simp)).2.1, (hcs 2 (by simp)).2.2.1, (hcs 3 (by simp)).2.2.2, hb⟩)
  have hnum := fun W => num16_calls 0 W
  clear hall e1
  go_enter Tryd.func21, Tryd.ntmps21
  go_wp2_with fail
  go_call hall2 as e w1 ⟨b, off, c, rfl, hc, hlt, h1, h2, h3, hB⟩
  go_wp2_with fail
  go_call (hnum _) as e w2 ⟨rfl, hb2⟩
  have g1 := (hb2.cell (p := ⟨b, off + 5, none⟩) hlt).trans h1
  have g2 := (hb2.cell (p := ⟨b, off + 10, none⟩) hlt).trans h2
  have g3 := (hb2.cell (p := ⟨b, off + 15, none⟩) hlt).trans h3
  have HF := Asd.mk (bnext hB hb2)
  clear hB hb2
  go_wp2_with fail
  go_ret
  exact ⟨rfl, HF.out⟩

theorem back_size (q d : ByteArray) (hq : q.size ≤ 202) (hd : d.size ≤ 20) : ((q ++ ⟨#[32]⟩) ++ d).size ≤ 400 := by
  have e : (⟨#[32]⟩ : ByteArray).size = 1 := rfl
  rw [ByteArray.size_append, ByteArray.size_append, e]
  omega
theorem back_toks (s : ByteArray) (n : Int) (hn : i64 n) : toks ((quoteB s ++ ⟨#[32]⟩) ++ digB n).data.toList 0 = ([⟨3, s, 0, 0⟩, ⟨2, ByteArray.empty, n, (quoteL s.data.toList).length + 1⟩], none) := by
  rw [show ((quoteB s ++ ⟨#[32]⟩) ++ digB n).data.toList = quoteL s.data.toList ++ 32 :: Lib.itoa n by simp [quoteB, digB, ByteArray.data_append]]
  exact toks_back s n hn.1 hn.2

set_option maxHeartbeats 2000000 in
set_option maxRecDepth 100000 in
theorem lawBack_calls (s : ByteArray) (n : Int) (w : World) (hs : s.size ≤ 9223372036854775807) (hn : i64 n) (hw : NumOk w) : Calls Tryd.prog 5 #[.string s, .int .i64 n] w (Ret (.bool true) w) := by
  have HL := Asd.mk (fun W (hW : Below w.heap.size w W) => live16_calls W (hw.low hW))
  by_cases h100 : s.size ≤ 100
  rotate_left
  · have hgt : decide (100 < (s.size : Int)) = true := by simp; omega
    have hl := HL.out _ (Below.refl _ _)
    go_enter Tryd.func5, Tryd.ntmps5
    go_wp2_with fail
    go_call hl as e w1 ⟨rfl, hb1⟩
    go_wp2_with fail
    go_ret
    exact ⟨rfl, hb1⟩
  have hgt : decide (100 < (s.size : Int)) = false := by simp; omega
  have hq := quote_calls s w (by omega) hw.std
  have hd := Asd.mk (fun W (hW : Below w.heap.size w W) => digits_calls n W hn (hw.std.low hW))
  have hqs := quoteB_size s
  have hds := digB_size n hn.1 hn.2
  have hall := Asd.mk (fun W (hW : Below w.heap.size w W) => (all_calls ((quoteB s ++ ⟨#[32]⟩) ++ digB n) W (back_size _ _ (by omega) hds) (hw.low hW)).mono (R' := fun e w' => ∃ b off c m, e = .returned (.tuple #[.slice (some ⟨b, off, none⟩) 3 c, .int .i64 m, .int .i64 0]) ∧ 3 ≤ c ∧ b < w'.heap.size ∧ w'.cell? ⟨b, off, none⟩ = some (.int .i64 3) ∧ w'.cell? ⟨b, off + 1, none⟩ = some (.string s) ∧ w'.cell? ⟨b, off + 4, none⟩ = some (.int .i64 2) ∧ w'.cell? ⟨b, off + 6, none⟩ = some (.int .i64 n) ∧ Below W.heap.size W w') (by
    rintro e w' ⟨ho, hb⟩
    rw [back_toks s n hn] at ho
    obtain ⟨a, c, rfl, hr, hc⟩ := ho
    obtain ⟨b, off, rfl, hlt, hcs⟩ := tkCells hr (by simp)
    exact ⟨b, off, c, _, rfl, hc, hlt, (hcs 0 (by simp)).1, (hcs 0 (by simp)).2.1, (hcs 1 (by simp)).1, (hcs 1 (by simp)).2.2.1, hb⟩))
  have hrq := fun W => refQuote_calls s W (by omega)
  have hrd := fun W => refDigits_calls n W hn
  have hnum := fun W => num16_calls 0 W
  clear hw hgt
  have hgt : decide (100 < (s.size : Int)) = false := by simp; omega
  generalize quoteB s = q at *
  generalize digB n = d at *
  have q1 : (q.size : Int) ≤ 202 := by omega
  have q2 : (d.size : Int) ≤ 20 := by omega
  have hse : (s.toList == s.toList) = true := by simp
  have hqe : (q.toList == q.toList) = true := by simp
  have hde : (d.toList == d.toList) = true := by simp
  have hne : (n == n) = true := by simp
  go_enter Tryd.func5, Tryd.ntmps5
  go_wp2_with fail
  go_call hq as e w1 ⟨rfl, hb1⟩
  go_wp2_with fail
  go_call (hd.out _ hb1) as e w2 ⟨rfl, hb2⟩
  have HB2 := Asd.mk (bnext hb1 hb2)
  clear hb1 hb2
  go_wp2_with fail
  go_call (hall.out _ HB2.out) as e w3 ⟨b, off, c, m, rfl, hc, hlt, c0, c1, c4, c6, hb3⟩
  have HB3 := Asd.mk (bnext HB2.out hb3)
  have HK : Asd (∀ W, Below w3.heap.size w3 W → W.cell? ⟨b, off, none⟩ = some (.int .i64 3) ∧ W.cell? ⟨b, off + 1, none⟩ = some (.string s) ∧ W.cell? ⟨b, off + 4, none⟩ = some (.int .i64 2) ∧ W.cell? ⟨b, off + 6, none⟩ = some (.int .i64 n)) := ⟨fun W hW => ⟨(hW.cell (p := ⟨b, _, none⟩) hlt).trans c0, (hW.cell (p := ⟨b, _, none⟩) hlt).trans c1, (hW.cell (p := ⟨b, _, none⟩) hlt).trans c4, (hW.cell (p := ⟨b, _, none⟩) hlt).trans c6⟩⟩
  clear hb3 c0 c1 c4 c6
  go_wp2_with fail
  go_call (hrq _) as e w4 ⟨rfl, hb4⟩
  go_wp2_with fail
  go_call (hrd _) as e w5 ⟨rfl, hb5⟩
  go_wp2_with fail
  go_call (hnum _) as e w6 ⟨rfl, hb6⟩
  have HB6 := Asd.mk (bnext (bnext hb4 hb5) hb6)
  clear hb4 hb5 hb6
  obtain ⟨c0, c1, c4, c6⟩ := HK.out _ HB6.out
  go_wp2_with fail
  go_call (HL.out _ (bnext HB3.out HB6.out)) as e w7 ⟨rfl, hb7⟩
  have HF := Asd.mk (bnext (bnext HB3.out HB6.out) hb7)
  clear hb7 c0 c1 c4 c6
  go_wp2_with fail
  go_ret
  exact ⟨rfl, HF.out⟩
end Go.Proofs.YthhjhlodgfdlgaaDoor
