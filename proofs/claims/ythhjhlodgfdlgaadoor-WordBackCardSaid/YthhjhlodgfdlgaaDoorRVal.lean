import Derived.Test.YthhjhlodgfdlgaaDoorRValA
import Derived.Test.YthhjhlodgfdlgaaDoorWWords
set_option linter.unusedVariables false
set_option linter.unusedSimpArgs false
namespace Go.Proofs.YthhjhlodgfdlgaaDoor
open Go Go.RowKit Go.Proofs.YthhjhlodgfdlgaaDoorW.PrintWords

set_option maxHeartbeats 2000000 in
set_option maxRecDepth 100000 in
theorem refQuote_calls (s : ByteArray) (w : World) (hz : s.size ≤ 2000000) : Calls Tryd.prog 25 #[.string s] w (Ret (.string (quoteB s)) w) := by
  have h0 := Asd.mk (OwnB.one w.heap.size w (Nat.le_refl _) 39 _ rfl)
  have hB0 := Asd.mk ((Below.refl w.heap.size w).alloc (Nat.le_refl _) (.cells #[.int .u8 39] 5))
  go_enter Tryd.func25, Tryd.ntmps25
  go_wp2_with fail
  go_loopw [3, 4] (fun v i wr => ∃ k : Nat, i = .int .i64 k ∧ k ≤ s.size ∧ Asd (OwnB w.heap.size wr v (39 :: esc (s.data.toList.take k))) ∧ Asd (Below w.heap.size w wr)) (fun _ i _ => s.size - (intOf i).toNat)
  case atStart => exact ⟨0, rfl, by omega, h0, hB0⟩
  case round =>
    obtain ⟨k, rfl, hk, hO, hB⟩ := hrel
    clear h0 hB0
    have hlen : (bytesV (39 :: esc (s.data.toList.take k))).length ≤ 4000001 := by
      have := esc_len (s.data.toList.take k)
      have e : s.data.toList.length = s.size := rfl
      rw [List.length_take, e] at this
      simp [bytesV]; omega
    by_cases hlt : k < s.size
    · have htake := Asd.mk (esc_take s k hlt)
      generalize hL : (39 :: esc (s.data.toList.take k)) = L at *
      have HL := Asd.mk hL
      clear hL
      have hcc : ∃ c, c = s[k] := ⟨_, rfl⟩
      obtain ⟨c, hc⟩ := hcc
      rw [← hc] at htake
      have HC := Asd.mk hc
      by_cases h39 : c = 39
      · have hcn : c.toNat = 39 := by rw [h39]; rfl
        rw [hc] at hcn
        clear hc
        go_wp2_with (first
          | (at_builtin; refine print_append w.heap.size rfl (.tmp 12) (.tmp 16) 64 5 (.int .u8 0) 1 rfl Tryd.underlying64 info_u8 rfl (by decide) u3 (bytesV L) (.int .u8 39) rfl rfl rfl hO.out hB.out hB.out.size (by omega) ?_; rw [show (Value.int .u8 39) = .int .u8 ((39 : UInt8).toNat : Nat) from rfl, bytesV_snoc]; intro v1 w1 hown1 hb1 _ _; have hO1 := Asd.mk hown1; have hB1 := Asd.mk hb1; clear hown1 hb1)
          | (at_builtin; refine print_append w.heap.size rfl (.tmp 22) (.tmp 23) 64 5 (.int .u8 0) 1 rfl Tryd.underlying64 info_u8 rfl (by decide) v1 (bytesV (L ++ [39])) (.int .u8 39) rfl rfl rfl hO1.out hB1.out hB1.out.size (by rw [← bytesV_snoc]; simp; omega) ?_; rw [show (Value.int .u8 39) = .int .u8 ((39 : UInt8).toNat : Nat) from rfl, bytesV_snoc]; intro v2 w2 hown2 hb2 _ _; have hO2 := Asd.mk hown2; have hB2 := Asd.mk hb2; clear hown2 hb2))
        go_roundw
        case rel => exact ⟨k + 1, by go_num, by omega, ⟨by rw [htake.out, if_pos h39, ← List.cons_append, HL.out]; have h := hO2.out; rw [List.append_assoc] at h; exact h⟩, hB2⟩
        case measure => simp [intOf]; omega
      · have hcn : ¬ (s[k].toNat = 39) := by
          intro h
          apply h39
          rw [hc]
          exact UInt8.toNat_inj.1 h
        clear hc
        go_wp2_with (first
          | (at_builtin; refine print_append w.heap.size rfl (.tmp 12) (.tmp 16) 64 5 (.int .u8 0) 1 rfl Tryd.underlying64 info_u8 rfl (by decide) u3 (bytesV L) (.int .u8 s[k].toNat) rfl rfl rfl hO.out hB.out hB.out.size (by omega) ?_; rw [bytesV_snoc, ← HC.out]; intro v1 w1 hown1 hb1 _ _; have hO1 := Asd.mk hown1; have hB1 := Asd.mk hb1; clear hown1 hb1))
        go_roundw
        case rel => exact ⟨k + 1, by go_num, by omega, ⟨by rw [htake.out, if_neg h39, ← List.cons_append, HL.out]; exact hO1.out⟩, hB1⟩
        case measure => simp [intOf]; omega
    · have hkk : k = s.data.toList.length := by
        have e : s.data.toList.length = s.size := rfl
        omega
      have hq : quoteB s = ⟨((39 :: esc (s.data.toList.take k)) ++ [39]).toArray⟩ := by
        rw [hkk, List.take_length]
        simp [quoteB, quoteL]
      clear hkk
      generalize hL : (39 :: esc (s.data.toList.take k)) = L at *
      have HQ := Asd.mk hq
      clear hq
      go_wp2_with (first
        | (at_builtin; refine print_append w.heap.size rfl (.tmp 25) (.tmp 26) 64 5 (.int .u8 0) 1 rfl Tryd.underlying64 info_u8 rfl (by decide) u3 (bytesV L) (.int .u8 39) rfl rfl rfl hO.out hB.out hB.out.size (by omega) ?_; rw [show (Value.int .u8 39) = .int .u8 ((39 : UInt8).toNat : Nat) from rfl, bytesV_snoc]; intro v1 w1 hown1 hb1 _ _; have hO1 := Asd.mk hown1; have hB1 := Asd.mk hb1; have hcv := OwnB.str hown1; clear hown1 hb1))
      go_ret
      exact ⟨by rw [HQ.out]; rfl, hB1.out⟩

theorem decDigits_step (x : Nat) (h : ¬ x < 10) : Lib.decDigits x = Lib.decDigits (x / 10) ++ [UInt8.ofNat (48 + x % 10)] := by rw [Lib.decDigits, dif_neg h]
theorem decDigits_last (x : Nat) (h : x < 10) : Lib.decDigits x = [UInt8.ofNat (48 + x)] := by rw [Lib.decDigits, dif_pos h]
theorem conv_one (W : World) (v : Int) : (convert 64 9 (.slice (some ⟨W.heap.size, 0, none⟩) 1 1)).run Tryd.prog (W.alloc (.cells #[.int .u8 v] 5)) = .ok (.string ⟨#[UInt8.ofNat v.toNat]⟩) (W.alloc (.cells #[.int .u8 v] 5)) := by
  have h : (W.alloc (.cells #[.int .u8 v] 5)).ownsRow 0 5 1 (.slice (some ⟨W.heap.size, 0, none⟩) 1 1) 1 (nums .u8 [v]) := World.ownsRow_lit W #[.int .u8 v] 1 (Nat.zero_le _) (by simp [maxLen]) rfl
  exact own_string (P := Tryd.prog) Tryd.underlying64 Tryd.underlying5 Tryd.underlying9 h
theorem mk_append (a b : List UInt8) : (⟨a.toArray⟩ : ByteArray) ++ ⟨b.toArray⟩ = ⟨(a ++ b).toArray⟩ := by
  simp [ByteArray.ext_iff, ByteArray.data_append]
theorem decDigits_len20 (n : Nat) (h : n ≤ 9223372036854775808) : (Lib.decDigits n).length ≤ 19 := decDigits_len n 18 (by omega)

def digitsInv (n : Int) (x : Nat) (z : ByteArray) : Prop := ∃ l, z = ⟨l.toArray⟩ ∧ Lib.decDigits n.natAbs = Lib.decDigits x ++ l

set_option maxHeartbeats 2000000 in
set_option maxRecDepth 100000 in
theorem refDigits_calls (n : Int) (w : World) (hn : i64 n) : Calls Tryd.prog 26 #[.int .i64 n] w (Ret (.string (digB n)) w) := by
  obtain ⟨hn0, hn1⟩ := hn
  have hcv := conv_one
  by_cases hneg : n < 0
  · have hw1 : IntKind.u64.wrap (-IntKind.u64.wrap n) = (n.natAbs : Int) := by simp [IntKind.wrap, IntKind.signed, IntKind.bits]; omega
    have hle : n.natAbs ≤ 9223372036854775808 := by omega
    have HI : ∀ x z, digitsInv n x z → x ≤ 9223372036854775808 → z.size ≤ 19 := by
      rintro x z ⟨l, rfl, h⟩ _
      have h2 := decDigits_len20 _ hle
      rw [h, List.length_append] at h2
      show l.length ≤ 19
      omega
    have HST : ∀ x z, digitsInv n x z → ¬ x < 10 → digitsInv n (x / 10) (⟨#[48 + UInt8.ofNat (x % 10)]⟩ ++ z) := by
      rintro x z ⟨l, rfl, h⟩ h10
      exact ⟨(48 + UInt8.ofNat (x % 10)) :: l, mk_append [_] l, by rw [h, decDigits_step x h10]; simp⟩
    have HEND : ∀ x z, digitsInv n x z → x < 10 → ⟨#[45]⟩ ++ (⟨#[48 + UInt8.ofNat x]⟩ ++ z) = digB n := by
      rintro x z ⟨l, rfl, h⟩ h10
      rw [decDigits_last x h10, UInt8.ofNat_add] at h
      show _ = (⟨(Lib.itoa n).toArray⟩ : ByteArray)
      rw [Lib.itoa, if_pos hneg, h, mk_append [_] l, mk_append [_] _]; rfl
    have H0 := Asd.mk (show digitsInv n n.natAbs ByteArray.empty from ⟨[], rfl, by simp⟩)
    generalize hx : n.natAbs = N at *
    clear hx
    have hi := Asd.mk HI
    have hst := Asd.mk HST
    have hend := Asd.mk HEND
    clear HI HST HEND
    go_enter Tryd.func26, Tryd.ntmps26
    go_wp2_with fail
    skip
    go_loopw [3, 4] (fun u v wr => ∃ (x : Nat) (z : ByteArray), u = .int .u64 x ∧ v = .string z ∧ x ≤ 9223372036854775808 ∧ Asd (digitsInv n x z) ∧ Asd (Below w.heap.size w wr)) (fun u _ _ => (intOf u).toNat)
    case atStart => exact ⟨N, ByteArray.empty, rfl, rfl, hle, H0, ⟨Below.refl _ _⟩⟩
    case round =>
      obtain ⟨x, z, rfl, rfl, hx9, hI, hB⟩ := hrel
      have hz := hi.out x z hI.out hx9
      by_cases h10 : x < 10
      · have hfin := Asd.mk (hend.out x z hI.out h10)
        have h9 : ¬ (9 < x) := by omega
        go_wp2_with fail
        go_ret
        exact ⟨by rw [← hfin.out]; rfl, hB.out.alloc hB.out.size _⟩
      · have hnx := Asd.mk (hst.out x z hI.out h10)
        have h9 : 9 < x := by omega
        go_wp2_with fail
        go_roundw
        case rel => exact ⟨x / 10, _, by go_num, rfl, by omega, hnx, ⟨hB.out.alloc hB.out.size _⟩⟩
        case measure => simp [intOf]; omega
  · have hw1 : n = (n.natAbs : Int) := by omega
    have hle : n.natAbs ≤ 9223372036854775808 := by omega
    have HI : ∀ x z, digitsInv n x z → x ≤ 9223372036854775808 → z.size ≤ 19 := by
      rintro x z ⟨l, rfl, h⟩ _
      have h2 := decDigits_len20 _ hle
      rw [h, List.length_append] at h2
      show l.length ≤ 19
      omega
    have HST : ∀ x z, digitsInv n x z → ¬ x < 10 → digitsInv n (x / 10) (⟨#[48 + UInt8.ofNat (x % 10)]⟩ ++ z) := by
      rintro x z ⟨l, rfl, h⟩ h10
      exact ⟨(48 + UInt8.ofNat (x % 10)) :: l, mk_append [_] l, by rw [h, decDigits_step x h10]; simp⟩
    have HEND : ∀ x z, digitsInv n x z → x < 10 → ⟨#[48 + UInt8.ofNat x]⟩ ++ z = digB n := by
      rintro x z ⟨l, rfl, h⟩ h10
      rw [decDigits_last x h10, UInt8.ofNat_add] at h
      show _ = (⟨(Lib.itoa n).toArray⟩ : ByteArray)
      rw [Lib.itoa, if_neg hneg, show n.toNat = n.natAbs from by omega, h, mk_append [_] l]; rfl
    have H0 := Asd.mk (show digitsInv n n.natAbs ByteArray.empty from ⟨[], rfl, by simp⟩)
    generalize hx : n.natAbs = N at *
    clear hx
    have hi := Asd.mk HI
    have hst := Asd.mk HST
    have hend := Asd.mk HEND
    clear HI HST HEND
    go_enter Tryd.func26, Tryd.ntmps26
    go_wp2_with fail
    skip
    go_loopw [3, 4] (fun u v wr => ∃ (x : Nat) (z : ByteArray), u = .int .u64 x ∧ v = .string z ∧ x ≤ 9223372036854775808 ∧ Asd (digitsInv n x z) ∧ Asd (Below w.heap.size w wr)) (fun u _ _ => (intOf u).toNat)
    case atStart => exact ⟨N, ByteArray.empty, rfl, rfl, hle, H0, ⟨Below.refl _ _⟩⟩
    case round =>
      obtain ⟨x, z, rfl, rfl, hx9, hI, hB⟩ := hrel
      have hz := hi.out x z hI.out hx9
      by_cases h10 : x < 10
      · have hfin := Asd.mk (hend.out x z hI.out h10)
        have h9 : ¬ (9 < x) := by omega
        go_wp2_with fail
        go_ret
        exact ⟨by rw [← hfin.out]; rfl, hB.out.alloc hB.out.size _⟩
      · have hnx := Asd.mk (hst.out x z hI.out h10)
        have h9 : 9 < x := by omega
        go_wp2_with fail
        go_roundw
        case rel => exact ⟨x / 10, _, by go_num, rfl, by omega, hnx, ⟨hB.out.alloc hB.out.size _⟩⟩
        case measure => simp [intOf]; omega

end Go.Proofs.YthhjhlodgfdlgaaDoor
