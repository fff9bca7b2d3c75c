import Derived.Test.YthhjhlodgfdlgaaDoorTokM
import Derived.Test.YthhjhlodgfdlgaaDoorQuoP
set_option linter.unusedVariables false
set_option linter.unusedSimpArgs false
namespace Go.Proofs.YthhjhlodgfdlgaaDoor
open Go Go.RowKit

theorem Tryd.lays166 : Go.Proofs.Lays.n166 Tryd.prog Tryd.lays156_ren := {
  mixed := Tryd.lays156.mixed, f166 := Tryd.lays156.f166, f240 := Tryd.lays156.f240, f276 := Tryd.lays156.f276
  t0 := Tryd.lays156.t0, a0 := Tryd.lays156.a0, z0 := Tryd.lays156.z0, v0 := Tryd.lays156.v0
  t3 := Tryd.lays156.t3, a3 := Tryd.lays156.a3, z3 := Tryd.lays156.z3, v3 := Tryd.lays156.v3
  t4 := Tryd.lays156.t4, a4 := Tryd.lays156.a4, z4 := Tryd.lays156.z4, v4 := Tryd.lays156.v4
  t9 := Tryd.lays156.t9, a9 := Tryd.lays156.a9, z9 := Tryd.lays156.z9, v9 := Tryd.lays156.v9
  t20 := Tryd.lays156.t20, a20 := Tryd.lays156.a20, z20 := Tryd.lays156.z20, v20 := Tryd.lays156.v20
  t37 := Tryd.lays156.t37, a37 := Tryd.lays156.a37, z37 := Tryd.lays156.z37, v37 := Tryd.lays156.v37
  t70 := Tryd.lays156.t70, a70 := Tryd.lays156.a70, z70 := Tryd.lays156.z70, v70 := Tryd.lays156.v70
  t72 := Tryd.lays156.t72, a72 := Tryd.lays156.a72, z72 := Tryd.lays156.z72, v72 := Tryd.lays156.v72
  t75 := Tryd.lays156.t75, a75 := Tryd.lays156.a75, z75 := Tryd.lays156.z75, v75 := Tryd.lays156.v75
  t164 := Tryd.lays156.t164, a164 := Tryd.lays156.a164, z164 := Tryd.lays156.z164, v164 := Tryd.lays156.v164 }
theorem write_calls (B b : Nat) (l : List UInt8) (s : ByteArray) (w : World) (h : Lib.IsBuilder 85 5 B b (Lib.byteCells l) w) (hlen : l.length + s.size ≤ 140737488355328) (hBw : B ≤ w.heap.size) :
    Calls Tryd.prog 75 #[.pointer (some ⟨b, 0, none⟩), .string s] w fun e w' => e = .returned (.tuple #[.int .i64 s.size, .nilIface]) ∧ Lib.IsBuilder 85 5 B b (Lib.byteCells (l ++ s.data.toList)) w' ∧ Below B w w' := by
  refine (Any.Builder_WriteString Tryd.lays166 Tryd.Builder_Extra_156 B b (Lib.byteCells l) s w h (by rw [Lib.byteCells_length]; exact hlen) hBw).mono ?_
  rintro e w' ⟨rfl, hb, hB⟩
  rw [Lib.strCells_eq, ← Lib.byteCells_append] at hb
  exact ⟨rfl, .inr hb, hB⟩

def quoT (l : List UInt8) : Option (Tk × Nat) := (quoR (l.drop 1)).map (fun x => (⟨3, ⟨x.1.toArray⟩, 0, 0⟩, x.2 + 1))
theorem extr_from (s : ByteArray) (a : Nat) : (s.extract a s.size).data.toList = s.data.toList.drop a := by
  rw [Lib.extract_eq]
  show (List.take (s.size - a) (List.drop a s.data.toList)) = _
  exact List.take_of_length_le (by rw [List.length_drop, ← Lib.size_eq]; exact Nat.le_refl _)
theorem extr_mid (s : ByteArray) (a i : Nat) : (s.extract a (a + i)).data.toList = (s.data.toList.drop a).take i := by
  rw [Lib.extract_eq]
  show (List.take (a + i - a) (List.drop a s.data.toList)) = _
  rw [Nat.add_sub_cancel_left]

set_option maxHeartbeats 1000000 in
set_option maxRecDepth 100000 in
theorem quoted_calls (s : ByteArray) (w : World) (h1 : 1 ≤ s.size) (h2 : s.size ≤ 1000000) : Calls Tryd.prog 72 #[.string s] w (TokRet (quoT s.data.toList) w) := by
  have hix := fun a W => Tryd.strings_Index_one (s.extract a s.size) 39 W
  have hpx := fun a W => Tryd.strings_HasPrefix (s.extract a s.size) ⟨#[39]⟩ W
  have hwr := fun l x W h a b => write_calls (w.heap.size + 1) (w.heap.size + 1) l x W h a b
  have hst := fun l W h a => Tryd.Builder_String_any (w.heap.size + 1) (w.heap.size + 1) l W h a
  have H0 : Asd (∀ r : List UInt8, Lib.indexByte r 39 < 0 → quoR r = none) := ⟨quoR_none⟩
  have H1 := Asd.mk quoR_some
  have HE := Asd.mk (extr_from s)
  have HX := Asd.mk (extr_mid s)
  have hq : quoT s.data.toList = (quoR (s.data.toList.drop 1)).map (fun x => (⟨3, ⟨x.1.toArray⟩, 0, 0⟩, x.2 + 1)) := rfl
  have HQ := Asd.mk hq
  clear hq
  generalize quoT s.data.toList = r at *
  have hBx : Below (w.heap.size + 1) (w.alloc (.cells #[Value.int .i64 0, Value.string ⟨#[]⟩, Value.int .i64 0, Value.int .i64 0] 50)) ((w.alloc (.cells #[Value.int .i64 0, Value.string ⟨#[]⟩, Value.int .i64 0, Value.int .i64 0] 50)).alloc (.cells #[.pointer none, .slice none 0 0] 85)) := (Below.refl _ _).alloc (by simp) _
  have hb0 : Lib.IsBuilder 85 5 (w.heap.size + 1) (w.heap.size + 1) (Lib.byteCells []) ((w.alloc (.cells #[Value.int .i64 0, Value.string ⟨#[]⟩, Value.int .i64 0, Value.int .i64 0] 50)).alloc (.cells #[.pointer none, .slice none 0 0] 85)) :=
    .inl ⟨Nat.le_refl _, .slice none 0 0, alloc_last2 _ _ _, World.ownsRow_nil _ _ _ _, by simp [Value.ownBlock]⟩
  have HB0 := Asd.mk hb0
  have HBX := Asd.mk hBx
  clear hb0 hBx
  go_enter Tryd.func72, Tryd.ntmps72
  go_wp2_with fail
  go_loopw [5] (fun v wr => ∃ k : Nat, v = .int .i64 k ∧ 1 ≤ k ∧ k ≤ s.size ∧ Asd (Below (w.heap.size + 1) (w.alloc (.cells #[Value.int .i64 0, Value.string ⟨#[]⟩, Value.int .i64 0, Value.int .i64 0] 50)) wr) ∧ Asd (∃ out : List UInt8, out.length ≤ k ∧ Lib.IsBuilder 85 5 (w.heap.size + 1) (w.heap.size + 1) (Lib.byteCells out) wr ∧ r = (quoR (s.data.toList.drop k)).map (fun x => (⟨3, ⟨(out ++ x.1).toArray⟩, 0, 0⟩, x.2 + k)))) (fun v _ => s.size - (intOf v).toNat)
  case atStart => exact ⟨1, rfl, Nat.le_refl _, h1, HBX, ⟨[], by simp, HB0.out, HQ.out⟩⟩
  case round =>
    clear HB0 HBX HQ
    obtain ⟨k, rfl, hk1, hk, hB, ⟨out, hol, hbu, hr⟩⟩ := hrel
    have HR := Asd.mk hr
    have hidx := hix k
    rw [HE.out k] at hidx
    have hsz := hB.out.size
    simp at hsz
    have hc1 := fun o => (bcell hB.out).1 w.heap.size o (by omega)
    have hf1 := fun o => (bcell hB.out).2 w.heap.size o (by omega)
    have hBw : Below w.heap.size w wr := ((Below.refl w.heap.size w).alloc (Nat.le_refl _) _).trans (hB.out.mono (by omega))
    have hge := Lib.indexByte_ge (s.data.toList.drop k) 39
    by_cases hneg : Lib.indexByte (s.data.toList.drop k) 39 < 0
    · obtain rfl : r = none := by rw [HR.out, H0.out _ hneg]; rfl
      have hng : decide (Lib.indexByte (s.data.toList.drop k) 39 < 0) = true := by simpa using hneg
      clear HR hr hge hneg H0 H1
      generalize Lib.indexByte (s.data.toList.drop k) 39 = ix at *
      go_wp2_with fail
      go_call (hidx _) as e w1 ⟨rfl, rfl⟩
      go_wp2_with fail
      refine bodyPost_ret (v := .tuple #[.agg #[.int .i64 0, .string ⟨#[]⟩, .int .i64 0, .int .i64 0], .int .i64 0]) (by simp [results, Tryd.results72, go_sem, hc1]) rfl ?_
      exact ⟨(((hBw.setCell (by simp) _).setCell (by simp) _).setCell (by simp) _).setCell (by simp) _, zeroTk, rfl⟩
    · obtain ⟨i, hi⟩ : ∃ i : Nat, Lib.indexByte (s.data.toList.drop k) 39 = i := ⟨(Lib.indexByte (s.data.toList.drop k) 39).toNat, by omega⟩
      obtain ⟨hil, hqr⟩ := H1.out _ i hi
      rw [hi] at hidx
      rw [hqr] at hr
      have hlen : (s.data.toList.drop k).length = s.size - k := by rw [List.length_drop, ← Lib.size_eq]
      rw [hlen] at hil
      have hki : k + i < s.size := by omega
      rw [List.drop_drop, List.drop_drop] at hr
      have hx := HX.out k i
      have hxl : (s.extract k (k + i)).size ≤ i := by rw [Lib.size_eq, hx, List.length_take]; omega
      have hw1 := hwr out (s.extract k (k + i)) wr hbu (by omega) (by omega)
      rw [hx] at hw1
      have hp1 := hpx (k + (i + 1))
      rw [HE.out] at hp1
      have hol2 : (out ++ (s.data.toList.drop k).take i).length ≤ k + i := by
        rw [List.length_append, List.length_take]; omega
      have Hr := Asd.mk hr
      clear hr HR hqr hi hneg hge hlen hx hix hpx H0 H1 HE HX hbu hol hil
      generalize hou : out ++ (s.data.toList.drop k).take i = ou at *
      have HOU := Asd.mk hou
      clear hou
      have hpos : Asd (Lib.hasPrefix (s.data.toList.drop (k + (i + 1))) [39] = true → k + (i + 1) < s.size) := ⟨fun h => by
        have h3 : ¬ (s.data.toList.drop (k + (i + 1))) = [] := fun e => by rw [e] at h; simp [Lib.hasPrefix] at h
        rw [List.drop_eq_nil_iff, ← Lib.size_eq] at h3
        omega⟩
      generalize hpb : Lib.hasPrefix (s.data.toList.drop (k + (i + 1))) [39] = b at *
      clear hpb
      have i1 : (i : Int) ≤ 1000000 := by omega
      have k1 : (k : Int) ≤ 1000000 := by omega
      have k2 : (k : Int) + (i : Int) ≤ (s.size : Int) := by omega
      have k3 : (k : Int) + ((i : Int) + 1) ≤ (s.size : Int) := by omega
      have k4 : (s.size : Int) ≤ 1000000 := by omega
      have hsl : ∀ W, (Instr.slice 9 (.string s) (some (.int .i64 (k : Int))) (some (.int .i64 ((k : Int) + (i : Int)))) none).run Tryd.prog W = .ok (.string (s.extract k (k + i))) W := fun W => by
        have h := run_slice_string (P := Tryd.prog) W 9 s .i64 .i64 (k : Int) ((k : Int) + (i : Int)) Tryd.underlying9 (by omega) (by omega) (by omega)
        have e1 : ((k : Int) + (i : Int)).toNat = k + i := by omega
        have e2 : ((k : Int)).toNat = k := by omega
        rw [h, e1, e2]
      have hsm : ∀ W, (Instr.slice 9 (.string s) (some (.int .i64 ((k : Int) + ((i : Int) + 1)))) none none).run Tryd.prog W = .ok (.string (s.extract (k + (i + 1)) s.size)) W := fun W => by
        have h := run_slice_string_l (P := Tryd.prog) (w := W) (t := 9) (s := s) Tryd.underlying9 .i64 ((k : Int) + ((i : Int) + 1)) (by omega) (by omega)
        have e1 : ((k : Int) + ((i : Int) + 1)).toNat = k + (i + 1) := by omega
        rw [h, e1]
      cases b with
      | false =>
        have hr := Hr.out
        simp only [Bool.false_eq_true, if_false, Option.map_some] at hr
        rw [HOU.out] at hr
        subst hr
        go_wp2_with fail
        go_call (hidx _) as e w1 ⟨rfl, rfl⟩
        go_wp2_with fail
        go_call hw1 as e w2 ⟨rfl, hb2, hB2⟩
        go_wp2_with fail
        go_call (hp1 _) as e w3 ⟨rfl, rfl⟩
        have hs2 := hB2.size
        have hs1 := hst ou _ hb2 (by omega)
        go_wp2_with fail
        go_call hs1 as e w4 ⟨rfl, hB4⟩
        have hB5 := hB.out.trans (hB2.trans hB4)
        have hc5 := fun o => (bcell hB5).1 w.heap.size o (by omega)
        have hf5 := fun o => (bcell hB5).2 w.heap.size o (by omega)
        go_wp2_with fail
        refine bodyPost_ret (v := .tuple #[.agg #[.int .i64 3, .string ⟨ou.toArray⟩, .int .i64 0, .int .i64 0], .int .i64 ((k : Int) + ((i : Int) + 1))]) (by simp [results, Tryd.results72, go_sem, hc5]) rfl ?_
        have hBy : Below w.heap.size w w4 := ((Below.refl w.heap.size w).alloc (Nat.le_refl _) _).trans (hB5.mono (by omega))
        refine ⟨(((hBy.setCell (by simp) _).setCell (by simp) _).setCell (by simp) _).setCell (by simp) _, ?_, by omega⟩
        rw [show ((i + 1 + k : Nat) : Int) = (k : Int) + ((i : Int) + 1) by omega]
        rfl
      | true =>
        have hr := Hr.out
        simp only [if_true, Option.map_map] at hr
        have Hr2 := Asd.mk hr
        have hps := hpos.out (by first | rfl | trivial)
        clear hr Hr
        go_wp2_with fail
        go_call (hidx _) as e w1 ⟨rfl, rfl⟩
        go_wp2_with fail
        go_call hw1 as e w2 ⟨rfl, hb2, hB2⟩
        have hs2 := hB2.size
        have hw2 := hwr ou ⟨#[39]⟩ w2 hb2 (by show ou.length + 1 ≤ _; omega) (by omega)
        go_wp2_with fail
        go_call (hp1 _) as e w3 ⟨rfl, rfl⟩
        go_wp2_with fail
        go_call hw2 as e w4 ⟨rfl, hb4, hB4⟩
        go_wp2_with fail
        go_roundw
        case rel => exact ⟨k + (i + 2), by go_num, by omega, by omega, ⟨hB.out.trans (hB2.trans hB4)⟩, ⟨ou ++ [39], by simp; omega, hb4, by
          rw [Hr2.out, ← HOU.out]
          congr 1
          funext x
          simp
          omega⟩⟩
        case measure => simp [intOf]; omega
end Go.Proofs.YthhjhlodgfdlgaaDoor
