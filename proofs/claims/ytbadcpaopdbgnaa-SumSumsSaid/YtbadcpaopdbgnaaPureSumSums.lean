/-
  The statement SumSums over numbers and lists: of any texts, both sums of each are one, whatever they are.
-/
import Derived.Test.YtbadcpaopdbgnaaPSumSumsx1
import Derived.Test.YtbadcpaopdbgnaaCrc
namespace Go.Proofs.Ytbadcpaopdbgnaa.Pure
open Go.RowKit Go.Proofs.Ytbadcpaopdbgnaa Go.Proofs.Ytbadcpaopdbgnaa.PSumSums Go.Proofs.YtbadcpaopdbgnaaW.PrintWords Go.Proofs.YtbadcpaopdbgnaaW.PrintLast
/-! ### the sums, told by Crc -/
theorem bt_nat (s : ByteArray) (i : Nat) (h : i < s.size) : ∃ b : UInt8, s.data.toList.drop i = b :: s.data.toList.drop (i + 1) ∧ (bt s (i : Int)) % 4294967296 = ((b.toNat : Nat) : Int) := by
  have hl : i < s.data.toList.length := by simpa using h
  refine ⟨s.data.toList[i], (List.drop_eq_getElem_cons hl), ?_⟩
  have hb : bt s (i : Int) = ((s[i]'h).toNat : Int) := by simp [bt, h]
  have he : (s[i]'h) = s.data.toList[i] := rfl
  rw [hb, he]
  have := (s.data.toList[i]).toNat_lt
  omega
theorem wrapN (i : Nat) (h : i < 9223372036854775807) : wrap64 ((i : Int) + 1) = ((i + 1 : Nat) : Int) := by
  unfold wrap64
  omega
theorem sum_out (k : Nat) (x0 : ByteArray) (x6 n : Int) (i : Nat) (hi : i < 9223372036854775807) : sum_Sum.l1 (k + 1) x0 n x6 (i : Int) 8 = sum_Sum.l0 k x0 n x6 ((i + 1 : Nat) : Int) := by
  simp only [sum_Sum.l1]
  rw [if_neg (by omega), wrapN i hi]
theorem sum_in (k : Nat) (x0 : ByteArray) (x6 x7 : Int) (n : Nat) (j : Int) (hn : n < 4294967296) (h0 : 0 ≤ j) (hj : j < 8) : sum_Sum.l1 (k + 1) x0 (n : Int) x6 x7 j = sum_Sum.l1 k x0 ((Crc.tn n : Nat) : Int) x6 x7 (j + 1) := by
  simp only [sum_Sum.l1]
  rw [if_pos hj, sum_turn.f, Crc.turn_code n hn]
  have e : wrap64 (j + 1) = j + 1 := by
    unfold wrap64
    omega
  simp only [Option.bind_some, e]
theorem sum_l1 (k : Nat) (x0 : ByteArray) (x6 : Int) (i : Nat) (hi : i < 9223372036854775807) (d : Nat) : ∀ (n : Nat) (j : Int), n < 4294967296 → 0 ≤ j → j + d = 8 →
    sum_Sum.l1 (k + d + 1) x0 (n : Int) x6 (i : Int) j = sum_Sum.l0 k x0 ((Crc.it d n : Nat) : Int) x6 ((i + 1 : Nat) : Int) := by
  induction d with
  | zero =>
    intro n j _ _ hj
    obtain rfl : j = 8 := by omega
    exact sum_out k x0 x6 _ i hi
  | succ d ih =>
    intro n j hn h0 hj
    rw [show k + (d + 1) + 1 = (k + d + 1) + 1 from by omega, sum_in _ x0 x6 _ n j hn h0 (by omega)]
    exact ih (Crc.tn n) (j + 1) (Crc.tn_lt hn) (by omega) (by omega)
theorem sum_l0 (s : ByteArray) (hs : s.size ≤ 140737488351232) (m d : Nat) : ∀ (i c : Nat), c < 4294967296 → i + d = s.size →
    sum_Sum.l0 (10 * d + 1 + m) s (c : Int) (s.size : Int) (i : Int) = some ((4294967295 ^^^ Crc.crcFrom c (s.data.toList.drop i) : Nat) : Int) := by
  induction d with
  | zero =>
    intro i c hc hi
    rw [show 10 * 0 + 1 + m = m + 1 from by omega]
    simp only [sum_Sum.l0]
    rw [if_neg (by omega), List.drop_of_length_le (by simp; omega)]
    exact congrArg some (Crc.xorN 4294967295 c (by omega) hc)
  | succ d ih =>
    intro i c hc hi
    obtain ⟨b, hb, hbt⟩ := bt_nat s i (by omega)
    have hb8 := b.toNat_lt
    have h1 := sum_l1 (10 * d + 1 + m) s (s.size : Int) i (by omega) 8 (c ^^^ b.toNat) 0 (Nat.xor_lt_two_pow (n := 32) hc (by omega)) (by omega) (by omega)
    have h2 := ih (i + 1) (Crc.feed c b.toNat) (Crc.feed_lt hc (by omega)) (by omega)
    rw [show 10 * (d + 1) + 1 + m = ((10 * d + 1 + m) + 8 + 1) + 1 from by omega]
    simp only [sum_Sum.l0]
    rw [if_pos (show (0 : Int) ≤ (i : Int) from by omega), if_pos (show (i : Int) < (s.size : Int) from by omega), if_pos (show (i : Int) < (s.size : Int) from by omega), hbt, Crc.xorN c b.toNat hc (by omega), hb]
    exact h1.trans h2
theorem sum_crc (s : ByteArray) (hs : s.size ≤ 140737488351232) (k : Nat) (hk : 10 * s.size + 1 ≤ k) : sum_Sum.f k s = some ((Crc.crc s.data.toList : Nat) : Int) := by
  obtain ⟨m, rfl⟩ : ∃ m, k = 10 * s.size + 1 + m := ⟨k - (10 * s.size + 1), by omega⟩
  exact sum_l0 s hs m s.size 0 4294967295 (by omega) (by omega)
theorem ref_out (k : Nat) (x0 : ByteArray) (n : Int) (i : Nat) (hi : i < 9223372036854775807) : thresherref1_Sum.l1 (k + 1) x0 n (i : Int) 8 = thresherref1_Sum.l0 k x0 n ((i + 1 : Nat) : Int) := by
  simp only [thresherref1_Sum.l1]
  rw [if_neg (by omega), wrapN i hi]
theorem ref_in (k : Nat) (x0 : ByteArray) (x7 : Int) (n : Nat) (j : Int) (hn : n < 4294967296) (h0 : 0 ≤ j) (hj : j < 8) : thresherref1_Sum.l1 (k + 1) x0 (n : Int) x7 j = thresherref1_Sum.l1 k x0 ((Crc.tn n : Nat) : Int) x7 (j + 1) := by
  have ht := Crc.turn_page n hn
  simp only [thresherref1_Sum.l1]
  have e : wrap64 (j + 1) = j + 1 := by
    unfold wrap64
    omega
  rw [if_pos hj, e]
  by_cases h1 : Go.bits .and .u32 (n : Int) 1 = 1
  · rw [if_pos h1] at ht ⊢
    rw [ht]
  · rw [if_neg h1] at ht ⊢
    rw [ht]
theorem ref_l1 (k : Nat) (x0 : ByteArray) (i : Nat) (hi : i < 9223372036854775807) (d : Nat) : ∀ (n : Nat) (j : Int), n < 4294967296 → 0 ≤ j → j + d = 8 →
    thresherref1_Sum.l1 (k + d + 1) x0 (n : Int) (i : Int) j = thresherref1_Sum.l0 k x0 ((Crc.it d n : Nat) : Int) ((i + 1 : Nat) : Int) := by
  induction d with
  | zero =>
    intro n j _ _ hj
    obtain rfl : j = 8 := by omega
    exact ref_out k x0 _ i hi
  | succ d ih =>
    intro n j hn h0 hj
    rw [show k + (d + 1) + 1 = (k + d + 1) + 1 from by omega, ref_in _ x0 _ n j hn h0 (by omega)]
    exact ih (Crc.tn n) (j + 1) (Crc.tn_lt hn) (by omega) (by omega)
theorem ref_l0 (s : ByteArray) (hs : s.size ≤ 140737488351232) (m d : Nat) : ∀ (i c : Nat), c < 4294967296 → i + d = s.size →
    thresherref1_Sum.l0 (10 * d + 1 + m) s (c : Int) (i : Int) = some ((4294967295 ^^^ Crc.crcFrom c (s.data.toList.drop i) : Nat) : Int) := by
  induction d with
  | zero =>
    intro i c hc hi
    rw [show 10 * 0 + 1 + m = m + 1 from by omega]
    simp only [thresherref1_Sum.l0]
    rw [if_neg (by omega), List.drop_of_length_le (by simp; omega)]
    exact congrArg some (Crc.xorN 4294967295 c (by omega) hc)
  | succ d ih =>
    intro i c hc hi
    obtain ⟨b, hb, hbt⟩ := bt_nat s i (by omega)
    have hb8 := b.toNat_lt
    have h1 := ref_l1 (10 * d + 1 + m) s i (by omega) 8 (c ^^^ b.toNat) 0 (Nat.xor_lt_two_pow (n := 32) hc (by omega)) (by omega) (by omega)
    have h2 := ih (i + 1) (Crc.feed c b.toNat) (Crc.feed_lt hc (by omega)) (by omega)
    rw [show 10 * (d + 1) + 1 + m = ((10 * d + 1 + m) + 8 + 1) + 1 from by omega]
    simp only [thresherref1_Sum.l0]
    rw [if_pos (show (0 : Int) ≤ (i : Int) from by omega), if_pos (show (i : Int) < (s.size : Int) from by omega), hbt, Crc.xorN c b.toNat hc (by omega), hb]
    exact h1.trans h2
theorem ref_crc (s : ByteArray) (hs : s.size ≤ 140737488351232) (k : Nat) (hk : 10 * s.size + 1 ≤ k) : thresherref1_Sum.f k s = some ((Crc.crc s.data.toList : Nat) : Int) := by
  obtain ⟨m, rfl⟩ : ∃ m, k = 10 * s.size + 1 + m := ⟨k - (10 * s.size + 1), by omega⟩
  exact ref_l0 s hs m s.size 0 4294967295 (by omega) (by omega)
theorem wakes_true (k : Nat) (hk : 91 ≤ k) : thresherlaw2_wakes.f k = some true := by
  unfold thresherlaw2_wakes.f
  rw [sum_crc _ (by decide) k (by exact hk)]
  have e : Crc.crc (⟨#[49, 50, 51, 52, 53, 54, 55, 56, 57]⟩ : ByteArray).data.toList = 3421780262 := by decide +kernel
  rw [e]
  rfl
theorem rdOf_mem {l : List ByteArray} {i : Int} (h0 : 0 ≤ i) (h : i < (l.length : Int)) : rdOf ByteArray.empty l i ∈ l := by
  have hl : i.toNat < l.length := by omega
  unfold rdOf
  rw [List.getD_eq_getElem?_getD, List.getElem?_eq_getElem hl]
  exact List.getElem_mem hl
theorem loop (l : List ByteArray) : ∀ (d : Nat) (i k : Nat), i + d = 16 → 100000 + 2 * d ≤ k → thresherlaw2_SumSums.l0 k l (i : Int) = some true := by
  intro d
  induction d with
  | zero =>
    intro i k hi hk
    obtain ⟨k, rfl⟩ : ∃ m, k = m + 2 := ⟨k - 2, by omega⟩
    simp only [thresherlaw2_SumSums.l0, thresherlaw2_SumSums.j1]
    have hw := wakes_true k (by omega)
    have hn : decide ((i : Int) < 15) = false := decide_eq_false (by omega)
    split <;> simp [hn, hw]
  | succ d ih =>
    intro i k hi hk
    obtain ⟨k, rfl⟩ : ∃ m, k = m + 2 := ⟨k - 2, by omega⟩
    have hw := wakes_true k (by omega)
    simp only [thresherlaw2_SumSums.l0]
    split
    · rename_i hlt
      simp only [thresherlaw2_SumSums.j1]
      split
      · rw [if_pos (show (0 : Int) ≤ (i : Int) from by omega)]
        split
        · rfl
        · rename_i hsz
          have hs : (rdOf ByteArray.empty l (i : Int)).size ≤ 3000 := by omega
          rw [sum_crc _ (by omega) k (by omega), ref_crc _ (by omega) k (by omega)]
          simp only [Option.bind_some, if_true]
          have e : wrap64 ((i : Int) + 1) = ((i + 1 : Nat) : Int) := by
            unfold wrap64
            omega
          rw [e]
          exact ih (i + 1) k (by omega) (by omega)
      · rw [hw]
        rfl
    · simp only [thresherlaw2_SumSums.j1]
      rw [if_neg (by simp), hw]
      rfl
theorem SumSums : ∀ (l0 : List ByteArray), (l0.length * 16 ≤ 140737488351232 ∧ ∀ x1 ∈ l0, x1.size ≤ 140737488351232) → ∃ k, thresherlaw2_SumSums.f k l0 = some true := fun l _ => ⟨100032, loop l 16 0 100032 rfl (by omega)⟩
end Go.Proofs.Ytbadcpaopdbgnaa.Pure
