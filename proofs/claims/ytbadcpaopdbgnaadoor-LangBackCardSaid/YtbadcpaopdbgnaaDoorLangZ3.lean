/-
  Walks: a number's text, by the page.
-/
import Derived.Test.YtbadcpaopdbgnaaDoorLangZ1
import Derived.Test.YtbadcpaopdbgnaaDoorLangU
import Derived.Laws.BytesArg
namespace Go.Proofs.YtbadcpaopdbgnaaDoor.Lang
open Go.RowKit Go.Shelf
set_option linter.unusedVariables false
set_option linter.unusedSimpArgs false

theorem dec_step (u : Nat) (t : List UInt8) (h : ¬ u < 10) : Lib.decDigits u ++ t = Lib.decDigits (u / 10) ++ (UInt8.ofNat (48 + u % 10) :: t) := by
  rw [Lib.decDigits, dif_neg h]
  simp
theorem dec_last (u : Nat) (t : List UInt8) (h : u < 10) : Lib.decDigits u ++ t = UInt8.ofNat (48 + u % 10) :: t := by
  rw [Lib.decDigits, dif_pos h, Nat.mod_eq_of_lt h]
  rfl
theorem str_one (c : Nat) (s : ByteArray) (hc : c < 256) : strOfNums [(c : Int)] ++ s = ⟨(UInt8.ofNat c :: s.data.toList).toArray⟩ := by
  apply ByteArray.ext
  apply Array.toList_inj.mp
  rw [ByteArray.data_append]
  simp [strOfNums]
theorem ba_cons (c : UInt8) (l : List UInt8) : (⟨#[c]⟩ : ByteArray) ++ ⟨l.toArray⟩ = ⟨(c :: l).toArray⟩ := by
  apply ByteArray.ext
  rw [ByteArray.data_append]
  simp
theorem strOfNums_size' (zs : List Int) : (strOfNums zs).size = zs.length := by
  simp [strOfNums, ByteArray.size]
theorem one_byte (w : World) (z : Int) : ∀ j, j < 1 → (w.alloc (.cells #[.int .u8 z] 5)).cell? ⟨w.heap.size, 0 + j, none⟩ = some (.int .u8 ([z].getD j 0)) := by
  intro j hj
  obtain rfl : j = 0 := by omega
  rw [Nat.add_zero, World.cell?_alloc_new]
  rfl
theorem neg_abs (n : Int) (h0 : -9223372036854775808 ≤ n) (h : n < 0) : IntKind.u64.wrap (bits BinOp.xor IntKind.u64 IntKind.u64.max (IntKind.u64.wrap n) + 1) = (n.natAbs : Int) := by
  have e1 : IntKind.u64.wrap n = ((18446744073709551616 - n.natAbs : Nat) : Int) := by
    rw [IntKind.wrap_u64]
    omega
  have e : bits BinOp.xor IntKind.u64 IntKind.u64.max ((18446744073709551616 - n.natAbs : Nat) : Int) = ((18446744073709551615 ^^^ (18446744073709551616 - n.natAbs) : Nat) : Int) := bits_xor_u64_nat 18446744073709551615 _ (by omega) (by omega)
  rw [e1, e, xor_max _ (by omega), IntKind.wrap_u64]
  omega
set_option maxRecDepth 100000 in
set_option maxHeartbeats 8000000 in
theorem decimal_calls (n : Int) (w : World) (h0 : -9223372036854775808 ≤ n) (h1 : n ≤ 9223372036854775807) : Calls Tryd.prog 28 #[.int .i64 n] w fun e w' => e = .returned (.string (itoaB n)) ∧ Below w.heap.size w w' := by
  by_cases hn : n < 0
  · have hnb := decide_eq_true hn
    have HAB := Aside.mk (neg_abs n h0 hn)
    have HN := Aside.mk (And.intro h0 hn)
    obtain ⟨u0, hu⟩ : ∃ u0, u0 = n.natAbs := ⟨_, rfl⟩
    have hu0 : u0 ≤ 9223372036854775808 := by omega
    go_enter Tryd.func28, Tryd.ntmps28
    go_wp2
    rw [HAB.out, ← hu]
    have HU := Aside.mk hu
    clear hu h0 h1
    go_loopg [3, 4] (u0 + 1) (fun kq v3 v4 w' => ∃ (u : Nat) (s : ByteArray), v3 = .int .u64 (u : Int) ∧ v4 = .string s ∧ Aside (u + 1 ≤ kq ∧ u ≤ u0) ∧ Aside (Lib.decDigits u ++ s.data.toList = Lib.decDigits u0) ∧ Aside (Below w.heap.size w w'))
    case atStart => exact ⟨u0, ⟨#[]⟩, rfl, rfl, ⟨by omega⟩, ⟨by simp⟩, ⟨Below.refl _ _⟩⟩
    case round =>
      obtain ⟨u, s, rfl, rfl, HI, HD, HB⟩ := hrel
      cases gk with
      | zero => have := HI.out; omega
      | succ k1 =>
        have huu : u ≤ 9223372036854775808 := by have := HI.out; omega
        have hss : s.size ≤ 100 := by
          have h1 := congrArg List.length HD.out
          rw [List.length_append] at h1
          have h2 := dec_inj_len (u := u0) (k := 19) (by omega) (by omega)
          have h3 : s.data.toList.length = s.size := rfl
          omega
        have hr1 : 0 ≤ (u : Int) % 10 := by omega
        have hr2 : (u : Int) % 10 < 10 := by omega
        have hcv := run_convert_bytes_arg (P := Tryd.prog) (wr.alloc (.cells #[.int .u8 (48 + (u : Int) % 10)] 5)) 36 5 Tryd.underlying36 Tryd.underlying5 wr.heap.size 0 1 1 [48 + (u : Int) % 10] rfl (one_byte wr _) 9 Tryd.underlying9
        have hsz1 : (strOfNums [48 + (u : Int) % 10]).size = 1 := by rw [strOfNums_size']; rfl
        have HB1 := Aside.mk (HB.out.alloc HB.out.size (.cells #[.int .u8 (48 + (u : Int) % 10)] 5))
        have HST := Aside.mk (show strOfNums [48 + (u : Int) % 10] ++ s = ⟨(UInt8.ofNat (48 + u % 10) :: s.data.toList).toArray⟩ by
          rw [show 48 + (u : Int) % 10 = ((48 + u % 10 : Nat) : Int) by omega]
          exact str_one _ s (by omega))
        by_cases hu10 : u < 10
        · have hq1 : ((u : Int) / 10 == 0) = true := by simp; omega
          have HLS := Aside.mk (show UInt8.ofNat (48 + u % 10) :: s.data.toList = Lib.decDigits u0 by rw [← dec_last u _ hu10]; exact HD.out)
          clear hu10
          have hs45 : (⟨#[45]⟩ : ByteArray).size = 1 := rfl
          have HFN := Aside.mk (show (⟨#[45]⟩ : ByteArray) ++ (strOfNums [48 + (u : Int) % 10] ++ s) = itoaB n by
            rw [HST.out, HLS.out]
            unfold itoaB Lib.itoa
            rw [if_pos HN.out.2, ← HU.out]
            exact ba_cons 45 _)
          go_wp2
          go_ret
          exact ⟨by rw [← HFN.out]; rfl, HB1.out⟩
        · have hq1 : ((u : Int) / 10 == 0) = false := by simp; omega
          have HLS := Aside.mk (show Lib.decDigits (u / 10) ++ (UInt8.ofNat (48 + u % 10) :: s.data.toList) = Lib.decDigits u0 by rw [← dec_step u _ hu10]; exact HD.out)
          have HU10 := Aside.mk hu10
          clear hu10
          go_wp2
          go_roundg k1
          case measure => omega
          case rel => exact ⟨u / 10, _, by simp; done, rfl, ⟨by have := HI.out; have := HU10.out; omega⟩, ⟨by rw [HST.out]; exact HLS.out⟩, HB1⟩
  · have hnb := decide_eq_false hn
    obtain ⟨u0, rfl⟩ : ∃ u : Nat, n = (u : Int) := ⟨n.toNat, by omega⟩
    have hu0 : u0 ≤ 9223372036854775808 := by omega
    go_enter Tryd.func28, Tryd.ntmps28
    go_wp2
    go_loopg [3, 4] (u0 + 1) (fun kq v3 v4 w' => ∃ (u : Nat) (s : ByteArray), v3 = .int .u64 (u : Int) ∧ v4 = .string s ∧ Aside (u + 1 ≤ kq ∧ u ≤ u0) ∧ Aside (Lib.decDigits u ++ s.data.toList = Lib.decDigits u0) ∧ Aside (Below w.heap.size w w'))
    case atStart => exact ⟨u0, ⟨#[]⟩, rfl, rfl, ⟨by omega⟩, ⟨by simp⟩, ⟨Below.refl _ _⟩⟩
    case round =>
      obtain ⟨u, s, rfl, rfl, HI, HD, HB⟩ := hrel
      cases gk with
      | zero => have := HI.out; omega
      | succ k1 =>
        have huu : u ≤ 9223372036854775808 := by have := HI.out; omega
        have hss : s.size ≤ 100 := by
          have h1 := congrArg List.length HD.out
          rw [List.length_append] at h1
          have h2 := dec_inj_len (u := u0) (k := 19) (by omega) (by omega)
          have h3 : s.data.toList.length = s.size := rfl
          omega
        have hr1 : 0 ≤ (u : Int) % 10 := by omega
        have hr2 : (u : Int) % 10 < 10 := by omega
        have hcv := run_convert_bytes_arg (P := Tryd.prog) (wr.alloc (.cells #[.int .u8 (48 + (u : Int) % 10)] 5)) 36 5 Tryd.underlying36 Tryd.underlying5 wr.heap.size 0 1 1 [48 + (u : Int) % 10] rfl (one_byte wr _) 9 Tryd.underlying9
        have hsz1 : (strOfNums [48 + (u : Int) % 10]).size = 1 := by rw [strOfNums_size']; rfl
        have HB1 := Aside.mk (HB.out.alloc HB.out.size (.cells #[.int .u8 (48 + (u : Int) % 10)] 5))
        have HST := Aside.mk (show strOfNums [48 + (u : Int) % 10] ++ s = ⟨(UInt8.ofNat (48 + u % 10) :: s.data.toList).toArray⟩ by
          rw [show 48 + (u : Int) % 10 = ((48 + u % 10 : Nat) : Int) by omega]
          exact str_one _ s (by omega))
        by_cases hu10 : u < 10
        · have hq1 : ((u : Int) / 10 == 0) = true := by simp; omega
          have HLS := Aside.mk (show UInt8.ofNat (48 + u % 10) :: s.data.toList = Lib.decDigits u0 by rw [← dec_last u _ hu10]; exact HD.out)
          clear hu10
          have HFN := Aside.mk (show strOfNums [48 + (u : Int) % 10] ++ s = itoaB (u0 : Int) by
            rw [HST.out, HLS.out]
            unfold itoaB Lib.itoa
            rw [if_neg (by omega)]
            simp)
          go_wp2
          go_ret
          exact ⟨by rw [← HFN.out]; rfl, HB1.out⟩
        · have hq1 : ((u : Int) / 10 == 0) = false := by simp; omega
          have HLS := Aside.mk (show Lib.decDigits (u / 10) ++ (UInt8.ofNat (48 + u % 10) :: s.data.toList) = Lib.decDigits u0 by rw [← dec_step u _ hu10]; exact HD.out)
          have HU10 := Aside.mk hu10
          clear hu10
          go_wp2
          go_roundg k1
          case measure => omega
          case rel => exact ⟨u / 10, _, by simp; done, rfl, ⟨by have := HI.out; have := HU10.out; omega⟩, ⟨by rw [HST.out]; exact HLS.out⟩, HB1⟩
end Go.Proofs.YtbadcpaopdbgnaaDoor.Lang
