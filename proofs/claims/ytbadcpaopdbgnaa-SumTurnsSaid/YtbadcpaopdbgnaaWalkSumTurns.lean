import Derived.Test.YtbadcpaopdbgnaaBufSumTurns
namespace Go.Proofs.Ytbadcpaopdbgnaa.PSumTurns
open Go.RowKit Go.Proofs.YtbadcpaopdbgnaaW.PrintWords Go.Proofs.YtbadcpaopdbgnaaW.PrintLast Go.Proofs.YtbadcpaopdbgnaaW.PrintMore
attribute [local go_sem] max2_int min2_int max_two min_two max_three min_three max_four min_four   -- for this text's walks alone
set_option linter.unusedVariables false
set_option linter.unusedSimpArgs false

set_option maxHeartbeats 8000000 in
set_option maxRecDepth 100000 in
theorem walk (A0 : Option Addr) (c0 : Nat) (l0 : List ByteArray) (w : World) (hr0 : Kd.C Kd.string w A0 l0.length l0) (hc0 : l0.length ≤ c0) (hsz : ∀ s ∈ l0, s.size ≤ 140737488351232)
    (hS : ∀ (s : ByteArray) (W : World), s.size ≤ 140737488351232 → Calls Try.prog 10 #[.string s] W fun e w' => e = .returned (.int .u32 ((Crc.crc s.data.toList : Nat) : Int)) ∧ Drawn0 W w')
    (hW : ∀ (n : Int) (W : World), 0 ≤ n → n ≤ 1000 → Calls Try.prog 13 #[.int .i64 n, .int .i64 8] W fun e w' => e = .returned (.int .i64 (n % 8)) ∧ w' = W)
    (hK : ∀ (W : World), Calls Try.prog 12 #[] W fun e w' => e = .returned (.bool true) ∧ Drawn0 W w')
    (hM1 : Aside0 (∀ (s : ByteArray) (t m : Nat), t < s.size → m < 8 → ∀ x y, x = (bytesOf s).getD t 0 → y = bits BinOp.xor IntKind.u8 x (IntKind.u8.wrap (2 ^ m)) → Crc.crc (strOfNums ((bytesOf s).set t y)).data.toList ≠ Crc.crc s.data.toList))
    (hM2 : Aside0 (∀ (s : ByteArray) (t m : Nat), t + 1 < s.size → m < 8 → ∀ x y v, x = (bytesOf s).getD t 0 → y = bits BinOp.xor IntKind.u8 x (IntKind.u8.wrap (2 ^ m)) → Crc.crc (strOfNums (((bytesOf s).set t y).set (t + 1) v)).data.toList ≠ Crc.crc s.data.toList)) :
    Calls Try.prog 4 #[.slice A0 l0.length c0] w fun e w' => e = .returned (.bool true) ∧ Below w.heap.size w w' := by
  have HR0 := Aside0.mk hr0
  have HC0 := Aside0.mk hc0
  have HS := Aside0.mk hS
  have HW := Aside0.mk hW
  have HK := Aside0.mk hK
  have HZ := Aside0.mk hsz
  have HB := Aside0.mk (Below.refl w.heap.size w)
  clear hr0 hc0 hS hW hK hsz
  go_enter Try.func4, Try.ntmps4
  go_wp2
  go_loopg [3] 16 (fun kq v3 w' => ∃ (i : Nat), v3 = .int .i64 (i : Int) ∧ Aside0 (i + kq = 16 ∧ i ≤ 15) ∧ Aside0 (Below w.heap.size w w'))
  case atStart => exact ⟨0, rfl, ⟨by omega⟩, HB⟩
  case round =>
    obtain ⟨i, rfl, HI, HB⟩ := hrel
    cases gk with
    | zero => have := HI.out; omega
    | succ k1 =>
      have hi15 := HI.out.2
      by_cases h1 : (i : Int) < (l0.length : Int)
      · have h1b := decide_eq_true h1
        by_cases h2 : (i : Int) < 15
        · have h2b := decide_eq_true h2
          have p1 : 0 ≤ (i : Int) := by omega
          have hmem : rdOf ByteArray.empty l0 (i : Int) ∈ l0 := by
            have hl : (i : Int).toNat < l0.length := by omega
            unfold rdOf
            rw [List.getD_eq_getElem?_getD, List.getElem?_eq_getElem hl]
            exact List.getElem_mem hl
          have HM := Aside0.mk hmem
          clear hmem
          obtain ⟨s, hs⟩ : ∃ s, s = rdOf ByteArray.empty l0 (i : Int) := ⟨_, rfl⟩
          obtain ⟨ad, ea, hx⟩ := Kd.at_string HR0.out (i : Int) p1 h1
          cases ea
          rw [← hs] at hx HM
          clear hs
          simp only [Int.toNat_natCast] at hx
          have HX := Aside0.mk hx
          replace hx := pw_cell_below HB.out hx
          have p1' := eq_true p1
          have q1' := eq_true h1
          by_cases h3 : (200 : Int) < (s.size : Int)
          · have h3b := decide_eq_true h3
            have h3c : decide (200 < s.size) = true := decide_eq_true (by omega)
            go_wp2
            repeat (go_quiet (fail); try go_wp2)
            go_roundg k1
            case measure => omega
            case rel => exact ⟨i + 1, by simp; done, ⟨by have := HI.out; omega⟩, ⟨by repeat (first | exact HB.out | apply pw_below_drewN)⟩⟩
          · have h3b := decide_eq_false h3
            have h3c : decide (200 < s.size) = false := decide_eq_false (by omega)
            have hs200 : s.size ≤ 200 := by omega
            go_wp2_with (first | (go_at_call 10; (with_reducible refine (HS.out s _ (by omega)).mono ?_); rintro e w' ⟨rfl, ⟨nd, rfl⟩⟩))
            go_loopg [5] (s.size + 1) (fun kq v5 w' => ∃ (t : Nat), v5 = .int .i64 (t : Int) ∧ Aside0 (t + kq = s.size + 1 ∧ t ≤ s.size) ∧ Aside0 (Below w.heap.size w w'))
            case atStart => exact ⟨0, rfl, ⟨by omega⟩, ⟨by repeat (first | exact HB.out | apply pw_below_drewN)⟩⟩
            case round =>
              obtain ⟨t, rfl, HT, HB⟩ := hrel
              cases gk with
              | zero => have := HT.out; omega
              | succ k2 =>
                clear hx
                have hx := pw_cell_below HB.out HX.out
                by_cases h4 : (t : Int) < (s.size : Int)
                · have h4b := decide_eq_true h4
                  have kb := fun W => print_bytes (P := Try.prog) 9 27 5 Try.underlying9 Try.underlying27 Try.underlying5 s W
                  go_upto_region 10 with (fail)
                  clear kb
                  have hbuf := Buf.conv HB.out s
                  generalize hW1 : Lib.bytesWorld wr 5 s = W1 at hbuf ⊢
                  clear hW1
                  generalize wr.heap.size = b at hbuf ⊢
                  generalize grownCap wr s.size 0 5 = cp
                  have hlen : (bytesOf s).length = s.size := bytesOf_length s
                  have HM1 := hM1.out s t (((t : Int) + (i : Int)) % 8).toNat
                  have HM2 := hM2.out s t (((t : Int) + (i : Int)) % 8).toNat
                  generalize bytesOf s = L at hbuf hlen HM1 HM2
                  replace HM1 := Aside0.mk HM1
                  replace HM2 := Aside0.mk HM2
                  have ht : t < s.size := by omega
                  obtain ⟨x0, hx0⟩ : ∃ x, x = L.getD t 0 := ⟨_, rfl⟩
                  have hc0 := hbuf.cell t (by omega)
                  rw [← hx0] at hc0
                  have HX0 := Aside0.mk hx0
                  clear hx0
                  have hf0 := hbuf.live t (by omega)
                  have p4 := eq_true (show 0 ≤ (t : Int) by omega)
                  have q4 := eq_true h4
                  have hti : (t : Int) + (i : Int) ≤ 1000 := by omega
                  have hwr : IntKind.i64.wrap ((t : Int) + (i : Int)) = (t : Int) + (i : Int) := by
                    rw [i64_w]
                    unfold wrap64
                    omega
                  have hbuf' := Aside0.mk hbuf
                  clear hbuf
                  go_still_tail 13, (by kernel_rfl)
                  refine wpStill_step (fun K hK => ?_)
                  go_simp
                  refine ⟨_, HW.out _ _ (by omega) (by omega), hK _ ?_⟩
                  clear hK K
                  repeat still_step
                  refine wpStill_nil ?_
                  change wpList _ _ _ _ _ W1.drew
                  have hbuf2 := Aside0.mk hbuf'.out.drew
                  replace hc0 : W1.drew.cell? ⟨b, t, none⟩ = some (.int .u8 x0) := hc0
                  replace hf0 : W1.drew.frozen? ⟨b, t, none⟩ = false := hf0
                  generalize W1.drew = W2 at hbuf2 hc0 hf0 ⊢
                  obtain ⟨y0, hy0⟩ : ∃ y, y = bits BinOp.xor IntKind.u8 x0 (IntKind.u8.wrap (2 ^ (((t : Int) + (i : Int)) % 8).toNat)) := ⟨_, rfl⟩
                  rw [← hy0]
                  have HY0 := Aside0.mk hy0
                  clear hy0
                  have hbuf3 := Aside0.mk (hbuf2.out.set t (by omega) y0)
                  go_upto_region 11 with (fail)
                  clear hc0 hf0
                  generalize W2.setCell ⟨b, t, none⟩ (.int .u8 y0) = W3 at hbuf3 ⊢
                  have hm8 : (((t : Int) + (i : Int)) % 8).toNat < 8 := by omega
                  have hne := HM1.out ht hm8 x0 y0 HX0.out HY0.out
                  obtain ⟨L1, hL1⟩ : ∃ L1, L1 = L.set t y0 := ⟨_, rfl⟩
                  rw [← hL1] at hbuf3 hne
                  have hlen1 : L1.length = s.size := by rw [hL1, List.length_set, hlen]
                  have HL1 := Aside0.mk hL1
                  clear hL1
                  have hcv := run_convert_bytes_arg (P := Try.prog) W3 27 5 Try.underlying27 Try.underlying5 b 0 s.size cp L1 hlen1 (fun j hj => by rw [Nat.zero_add]; exact hbuf3.out.cell j (by omega)) 9 Try.underlying9
                  have hsz1 : (strOfNums L1).size ≤ 140737488351232 := by rw [strOfNums_size, hlen1]; omega
                  go_upto_region 13 with (first | (go_at_call 10; (with_reducible refine (HS.out (strOfNums L1) _ hsz1).mono ?_); rintro e w' ⟨rfl, ⟨nd1, rfl⟩⟩))
                  have hbuf4 := Aside0.mk (hbuf3.out.drewN nd1)
                  clear hcv hne
                  generalize W3.drewN nd1 = W4 at hbuf4 ⊢
                  have hwt : IntKind.i64.wrap ((t : Int) + 1) = (t : Int) + 1 := by
                    rw [i64_w]
                    unfold wrap64
                    omega
                  by_cases h5 : (t : Int) + 1 < (s.size : Int)
                  · have h5b := decide_eq_true h5
                    have ht5 : t + 1 < s.size := by omega
                    have h5c := decide_eq_true ht5
                    obtain ⟨x1, hx1⟩ : ∃ x, x = L1.getD (t + 1) 0 := ⟨_, rfl⟩
                    have hc0 := hbuf4.out.cell (t + 1) (by omega)
                    rw [← hx1] at hc0
                    clear hx1
                    have hf0 := hbuf4.out.live (t + 1) (by omega)
                    have p5 := eq_true (show 0 ≤ (t : Int) + 1 by omega)
                    have q5 := eq_true h5
                    go_upto_region 15 with (fail)
                    obtain ⟨y1, hy1⟩ : ∃ y, y = bits BinOp.xor IntKind.u8 x1 (t : Int) := ⟨_, rfl⟩
                    rw [← hy1]
                    clear hy1
                    have hbuf5 := Aside0.mk (hbuf4.out.set (t + 1) (by omega) y1)
                    clear hc0 hf0
                    generalize W4.setCell ⟨b, t + 1, none⟩ (.int .u8 y1) = W5 at hbuf5 ⊢
                    have hne := HM2.out ht5 hm8 x0 y0 y1 HX0.out HY0.out
                    rw [← HL1.out] at hne
                    obtain ⟨L2, hL2⟩ : ∃ L2, L2 = L1.set (t + 1) y1 := ⟨_, rfl⟩
                    rw [← hL2] at hbuf5 hne
                    have hlen2 : L2.length = s.size := by rw [hL2, List.length_set, hlen1]
                    clear hL2
                    have hcv := run_convert_bytes_arg (P := Try.prog) W5 27 5 Try.underlying27 Try.underlying5 b 0 s.size cp L2 hlen2 (fun j hj => by rw [Nat.zero_add]; exact hbuf5.out.cell j (by omega)) 9 Try.underlying9
                    have hsz2 : (strOfNums L2).size ≤ 140737488351232 := by rw [strOfNums_size, hlen2]; omega
                    go_wp2_with (first | (go_at_call 10; (with_reducible refine (HS.out (strOfNums L2) _ hsz2).mono ?_); rintro e w' ⟨rfl, ⟨nd2, rfl⟩⟩))
                    go_roundg k2
                    case measure => omega
                    case rel => exact ⟨t + 1, by simp; done, ⟨by have := HT.out; omega⟩, ⟨by repeat (first | exact hbuf5.out.below | apply pw_below_drewN)⟩⟩
                  · have h5b := decide_eq_false h5
                    have ht5 : ¬ t + 1 < s.size := by omega
                    have h5c := decide_eq_false ht5
                    go_wp2
                    go_roundg k2
                    case measure => omega
                    case rel => exact ⟨t + 1, by simp; done, ⟨by have := HT.out; omega⟩, ⟨hbuf4.out.below⟩⟩
                · have h4b := decide_eq_false h4
                  go_wp2
                  go_roundg k1
                  case measure => omega
                  case rel => exact ⟨i + 1, by simp; done, ⟨by have := HI.out; omega⟩, ⟨by repeat (first | exact HB.out | apply pw_below_drewN)⟩⟩
        · have h2b := decide_eq_false h2
          go_wp2_with (first | (go_at_call 12; (with_reducible refine (HK.out _).mono ?_); rintro e w' ⟨rfl, ⟨nd, rfl⟩⟩))
          go_ret
          exact ⟨rfl, by repeat (first | exact HB.out | apply pw_below_drewN)⟩
      · have h1b := decide_eq_false h1
        go_wp2_with (first | (go_at_call 12; (with_reducible refine (HK.out _).mono ?_); rintro e w' ⟨rfl, ⟨nd, rfl⟩⟩))
        go_ret
        exact ⟨rfl, by repeat (first | exact HB.out | apply pw_below_drewN)⟩
end Go.Proofs.Ytbadcpaopdbgnaa.PSumTurns
