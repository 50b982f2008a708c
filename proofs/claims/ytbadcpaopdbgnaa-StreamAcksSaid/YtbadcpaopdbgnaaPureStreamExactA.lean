/-
  The stream's functions, program's and page's, told plainly over numbers and lists.
-/
import Derived.Test.YtbadcpaopdbgnaaPStreamExactx7
import Derived.Test.YtbadcpaopdbgnaaCrc
import Derived.Lib.SlicesS
namespace Go.Proofs.Ytbadcpaopdbgnaa.PureStreamExact
open Go.RowKit Go.Proofs.Ytbadcpaopdbgnaa Go.Proofs.Ytbadcpaopdbgnaa.PStreamExact Go.Proofs.YtbadcpaopdbgnaaW.PrintWords Go.Proofs.YtbadcpaopdbgnaaW.PrintLast Go.Proofs.YtbadcpaopdbgnaaW.PrintMore
/-! ### the sums, told by Crc -/
theorem bt_nat (s : ByteArray) (i : Nat) (h : i < s.size) : ∃ b : UInt8, s.data.toList.drop i = b :: s.data.toList.drop (i + 1) ∧ (bt s (i : Int)) % 4294967296 = ((b.toNat : Nat) : Int) := by
  have hl : i < s.data.toList.length := by simpa using h
  refine ⟨s.data.toList[i], (List.drop_eq_getElem_cons hl), ?_⟩
  have hb : bt s (i : Int) = ((s[i]'h).toNat : Int) := by simp [bt, h]
  have he : (s[i]'h) = s.data.toList[i] := rfl
  rw [hb, he]
  have := (s.data.toList[i]).toNat_lt
  omega
theorem wrapN (i : Nat) (h : i < 9223372036854775807) : wrap64 ((i : Int) + 1) = ((i + 1 : Nat) : Int) := by
  unfold wrap64
  omega
theorem sum_out (k : Nat) (x0 : ByteArray) (x6 n : Int) (i : Nat) (hi : i < 9223372036854775807) : sum_Sum.l1 (k + 1) x0 n x6 (i : Int) 8 = sum_Sum.l0 k x0 n x6 ((i + 1 : Nat) : Int) := by
  simp only [sum_Sum.l1]
  rw [if_neg (by omega), wrapN i hi]
theorem sum_in (k : Nat) (x0 : ByteArray) (x6 x7 : Int) (n : Nat) (j : Int) (hn : n < 4294967296) (h0 : 0 ≤ j) (hj : j < 8) : sum_Sum.l1 (k + 1) x0 (n : Int) x6 x7 j = sum_Sum.l1 k x0 ((Crc.tn n : Nat) : Int) x6 x7 (j + 1) := by
  simp only [sum_Sum.l1]
  rw [if_pos hj, sum_turn.f, Crc.turn_code n hn]
  have e : wrap64 (j + 1) = j + 1 := by
    unfold wrap64
    omega
  simp only [Option.bind_some, e]
theorem sum_l1 (k : Nat) (x0 : ByteArray) (x6 : Int) (i : Nat) (hi : i < 9223372036854775807) (d : Nat) : ∀ (n : Nat) (j : Int), n < 4294967296 → 0 ≤ j → j + d = 8 →
    sum_Sum.l1 (k + d + 1) x0 (n : Int) x6 (i : Int) j = sum_Sum.l0 k x0 ((Crc.it d n : Nat) : Int) x6 ((i + 1 : Nat) : Int) := by
  induction d with
  | zero =>
    intro n j _ _ hj
    obtain rfl : j = 8 := by omega
    exact sum_out k x0 x6 _ i hi
  | succ d ih =>
    intro n j hn h0 hj
    rw [show k + (d + 1) + 1 = (k + d + 1) + 1 from by omega, sum_in _ x0 x6 _ n j hn h0 (by omega)]
    exact ih (Crc.tn n) (j + 1) (Crc.tn_lt hn) (by omega) (by omega)
theorem sum_l0 (s : ByteArray) (hs : s.size ≤ 140737488351232) (m d : Nat) : ∀ (i c : Nat), c < 4294967296 → i + d = s.size →
    sum_Sum.l0 (10 * d + 1 + m) s (c : Int) (s.size : Int) (i : Int) = some ((4294967295 ^^^ Crc.crcFrom c (s.data.toList.drop i) : Nat) : Int) := by
  induction d with
  | zero =>
    intro i c hc hi
    rw [show 10 * 0 + 1 + m = m + 1 from by omega]
    simp only [sum_Sum.l0]
    rw [if_neg (by omega), List.drop_of_length_le (by simp; omega)]
    exact congrArg some (Crc.xorN 4294967295 c (by omega) hc)
  | succ d ih =>
    intro i c hc hi
    obtain ⟨b, hb, hbt⟩ := bt_nat s i (by omega)
    have hb8 := b.toNat_lt
    have h1 := sum_l1 (10 * d + 1 + m) s (s.size : Int) i (by omega) 8 (c ^^^ b.toNat) 0 (Nat.xor_lt_two_pow (n := 32) hc (by omega)) (by omega) (by omega)
    have h2 := ih (i + 1) (Crc.feed c b.toNat) (Crc.feed_lt hc (by omega)) (by omega)
    rw [show 10 * (d + 1) + 1 + m = ((10 * d + 1 + m) + 8 + 1) + 1 from by omega]
    simp only [sum_Sum.l0]
    rw [if_pos (show (0 : Int) ≤ (i : Int) from by omega), if_pos (show (i : Int) < (s.size : Int) from by omega), if_pos (show (i : Int) < (s.size : Int) from by omega), hbt, Crc.xorN c b.toNat hc (by omega), hb]
    exact h1.trans h2
theorem sum_crc (s : ByteArray) (hs : s.size ≤ 140737488351232) (k : Nat) (hk : 10 * s.size + 1 ≤ k) : sum_Sum.f k s = some ((Crc.crc s.data.toList : Nat) : Int) := by
  obtain ⟨m, rfl⟩ : ∃ m, k = 10 * s.size + 1 + m := ⟨k - (10 * s.size + 1), by omega⟩
  exact sum_l0 s hs m s.size 0 4294967295 (by omega) (by omega)
theorem ref_out (k : Nat) (x0 : ByteArray) (n : Int) (i : Nat) (hi : i < 9223372036854775807) : thresherref1_Sum.l1 (k + 1) x0 n (i : Int) 8 = thresherref1_Sum.l0 k x0 n ((i + 1 : Nat) : Int) := by
  simp only [thresherref1_Sum.l1]
  rw [if_neg (by omega), wrapN i hi]
theorem ref_in (k : Nat) (x0 : ByteArray) (x7 : Int) (n : Nat) (j : Int) (hn : n < 4294967296) (h0 : 0 ≤ j) (hj : j < 8) : thresherref1_Sum.l1 (k + 1) x0 (n : Int) x7 j = thresherref1_Sum.l1 k x0 ((Crc.tn n : Nat) : Int) x7 (j + 1) := by
  have ht := Crc.turn_page n hn
  simp only [thresherref1_Sum.l1]
  have e : wrap64 (j + 1) = j + 1 := by
    unfold wrap64
    omega
  rw [if_pos hj, e]
  by_cases h1 : Go.bits .and .u32 (n : Int) 1 = 1
  · rw [if_pos h1] at ht ⊢
    rw [ht]
  · rw [if_neg h1] at ht ⊢
    rw [ht]
theorem ref_l1 (k : Nat) (x0 : ByteArray) (i : Nat) (hi : i < 9223372036854775807) (d : Nat) : ∀ (n : Nat) (j : Int), n < 4294967296 → 0 ≤ j → j + d = 8 →
    thresherref1_Sum.l1 (k + d + 1) x0 (n : Int) (i : Int) j = thresherref1_Sum.l0 k x0 ((Crc.it d n : Nat) : Int) ((i + 1 : Nat) : Int) := by
  induction d with
  | zero =>
    intro n j _ _ hj
    obtain rfl : j = 8 := by omega
    exact ref_out k x0 _ i hi
  | succ d ih =>
    intro n j hn h0 hj
    rw [show k + (d + 1) + 1 = (k + d + 1) + 1 from by omega, ref_in _ x0 _ n j hn h0 (by omega)]
    exact ih (Crc.tn n) (j + 1) (Crc.tn_lt hn) (by omega) (by omega)
theorem ref_l0 (s : ByteArray) (hs : s.size ≤ 140737488351232) (m d : Nat) : ∀ (i c : Nat), c < 4294967296 → i + d = s.size →
    thresherref1_Sum.l0 (10 * d + 1 + m) s (c : Int) (i : Int) = some ((4294967295 ^^^ Crc.crcFrom c (s.data.toList.drop i) : Nat) : Int) := by
  induction d with
  | zero =>
    intro i c hc hi
    rw [show 10 * 0 + 1 + m = m + 1 from by omega]
    simp only [thresherref1_Sum.l0]
    rw [if_neg (by omega), List.drop_of_length_le (by simp; omega)]
    exact congrArg some (Crc.xorN 4294967295 c (by omega) hc)
  | succ d ih =>
    intro i c hc hi
    obtain ⟨b, hb, hbt⟩ := bt_nat s i (by omega)
    have hb8 := b.toNat_lt
    have h1 := ref_l1 (10 * d + 1 + m) s i (by omega) 8 (c ^^^ b.toNat) 0 (Nat.xor_lt_two_pow (n := 32) hc (by omega)) (by omega) (by omega)
    have h2 := ih (i + 1) (Crc.feed c b.toNat) (Crc.feed_lt hc (by omega)) (by omega)
    rw [show 10 * (d + 1) + 1 + m = ((10 * d + 1 + m) + 8 + 1) + 1 from by omega]
    simp only [thresherref1_Sum.l0]
    rw [if_pos (show (0 : Int) ≤ (i : Int) from by omega), if_pos (show (i : Int) < (s.size : Int) from by omega), hbt, Crc.xorN c b.toNat hc (by omega), hb]
    exact h1.trans h2
theorem ref_crc (s : ByteArray) (hs : s.size ≤ 140737488351232) (k : Nat) (hk : 10 * s.size + 1 ≤ k) : thresherref1_Sum.f k s = some ((Crc.crc s.data.toList : Nat) : Int) := by
  obtain ⟨m, rfl⟩ : ∃ m, k = 10 * s.size + 1 + m := ⟨k - (10 * s.size + 1), by omega⟩
  exact ref_l0 s hs m s.size 0 4294967295 (by omega) (by omega)
/-! ### the stream's functions, told plainly -/
def snd (d : ByteArray) (a w b : Int) : Bool := decide (1 ≤ (d.size : Int) ∧ (d.size : Int) ≤ 32768 ∧ 0 ≤ a ∧ a ≤ (d.size : Int) ∧ 0 ≤ w ∧ w ≤ 8 ∧ 1 ≤ b ∧ b ≤ 8)
def offs (a n : Int) : List Int := (if a < n then [a] else []) ++ (if a + 48 < n then [a + 48] else []) ++ (if a + 96 < n then [a + 96] else [])
def tick (d : ByteArray) (a w b : Int) : ByteArray × Int × Int × Int × List Int :=
  if a = (d.size : Int) then (d, a, w, b, []) else if w > 0 then (d, a, w - 1, b, []) else (d, a, b, mn (2 * b) 8, offs a d.size)
def ack (d : ByteArray) (a w b off : Int) : ByteArray × Int × Int × Int := if off > a ∧ off ≤ (d.size : Int) then (d, off, 0, 1) else (d, a, w, b)
def chunk (d : ByteArray) (off : Int) : ByteArray := d.extract off.toNat (mn (off + 48) (d.size : Int)).toNat
def noS : ByteArray × Int × Int × Int := ((⟨#[]⟩ : ByteArray), 0, 0, 0)
def hears (rl rs : Int) (rd : ByteArray) (rdn : Bool) : Bool :=
  if rl = -1 then (rs == 0 && (rd.toList == (⟨#[]⟩ : ByteArray).toList && (rdn == false)))
  else (decide (1 ≤ rl ∧ rl ≤ 32768 ∧ (rd.size : Int) ≤ rl) && ((rdn == ((rd.size : Int) == rl)) && (!rdn || (((Crc.crc rd.data.toList : Nat) : Int) == rs))))
def mayT (off n : Int) (data : ByteArray) : Bool := decide (1 ≤ n ∧ n ≤ 32768 ∧ 0 ≤ off ∧ off ≤ n ∧ (data.size : Int) ≤ 48 ∧ (data.size : Int) ≤ n - off)
def gotB (rd : ByteArray) (off : Int) (data : ByteArray) : Bool := decide (off ≤ (rd.size : Int) ∧ off + (data.size : Int) > (rd.size : Int))
def gotD (rd : ByteArray) (off : Int) (data : ByteArray) : ByteArray := if gotB rd off data = true then rd ++ data.extract ((rd.size : Int) - off).toNat data.size else rd
def take (rl rs : Int) (rd : ByteArray) (rdn : Bool) (off n total : Int) (data : ByteArray) : Int × Int × ByteArray × Bool × Int × Bool × Int :=
  if rl ≠ -1 ∧ (rl ≠ n ∨ rs ≠ total) then (0, 0, (⟨#[]⟩ : ByteArray), false, 0, false, 7)
  else if rdn = true then (rl, rs, rd, rdn, rl, false, 0)
  else if ((gotD rd off data).size : Int) = n then (if ((Crc.crc (gotD rd off data).data.toList : Nat) : Int) = total then (n, total, gotD rd off data, true, ((gotD rd off data).size : Int), gotB rd off data, 0) else (-1, 0, (⟨#[]⟩ : ByteArray), false, 0, false, 8))
  else (n, total, gotD rd off data, rdn, ((gotD rd off data).size : Int), gotB rd off data, 0)

theorem within_eq (a lo hi : Int) : stream_within.f a lo hi = some (decide (lo ≤ a ∧ a ≤ hi)) := by
  unfold stream_within.f
  by_cases h : a ≥ lo
  · rw [if_pos h]
    simp only [show lo ≤ a from h, true_and]
  · rw [if_neg h]
    have h' : ¬ (lo ≤ a ∧ a ≤ hi) := by omega
    rw [decide_eq_false h']
theorem num_eq (a m : Int) : thresherref0_Num.f a m = some (decide (0 ≤ a ∧ a ≤ m)) := by
  unfold thresherref0_Num.f
  by_cases h : a ≥ 0
  · rw [if_pos h]
    simp only [show 0 ≤ a from h, true_and]
  · rw [if_neg h]
    have h' : ¬ (0 ≤ a ∧ a ≤ m) := by omega
    rw [decide_eq_false h']
theorem bind_if {α : Type} (c : Prop) [Decidable c] (x y : Option α) : (if decide c = true then x else y) = if c then x else y := by
  by_cases h : c <;> simp [h]
theorem sends_eq (d : ByteArray) (a w b : Int) : stream_Sends.f d a w b = some (snd d a w b) := by
  unfold stream_Sends.f snd
  simp only [within_eq, Option.bind_some, bind_if]
  by_cases h1 : 1 ≤ (d.size : Int) ∧ (d.size : Int) ≤ 32768
  · rw [if_pos h1]
    by_cases h2 : 0 ≤ a ∧ a ≤ (d.size : Int)
    · rw [if_pos h2]
      by_cases h3 : 0 ≤ w ∧ w ≤ 8
      · rw [if_pos h3]
        exact congrArg some (decide_eq_decide.2 ⟨fun h => ⟨h1.1, h1.2, h2.1, h2.2, h3.1, h3.2, h.1, h.2⟩, fun h => ⟨by omega, by omega⟩⟩)
      · rw [if_neg h3, decide_eq_false (by omega)]
    · rw [if_neg h2, decide_eq_false (by omega)]
  · rw [if_neg h1, decide_eq_false (by omega)]
theorem sender_eq (d : ByteArray) (a w b : Int) : thresherref19_Sender.f d a w b = some (snd d a w b) := by
  unfold thresherref19_Sender.f snd
  simp only [num_eq, Option.bind_some, bind_if]
  by_cases h1 : (d.size : Int) ≥ 1
  · rw [if_pos h1]
    by_cases h1' : (d.size : Int) ≤ 32768
    · rw [if_pos h1']
      by_cases h2 : 0 ≤ a ∧ a ≤ (d.size : Int)
      · rw [if_pos h2]
        by_cases h3 : 0 ≤ w ∧ w ≤ 8
        · rw [if_pos h3]
          by_cases h4 : b ≥ 1
          · rw [if_pos h4]
            exact congrArg some (decide_eq_decide.2 ⟨fun h => ⟨h1, h1', h2.1, h2.2, h3.1, h3.2, h4, h⟩, fun h => by omega⟩)
          · rw [if_neg h4, decide_eq_false (by omega)]
        · rw [if_neg h3, decide_eq_false (by omega)]
      · rw [if_neg h2, decide_eq_false (by omega)]
    · rw [if_neg h1', decide_eq_false (by omega)]
  · rw [if_neg h1, decide_eq_false (by omega)]
theorem wrapOk (x : Int) (h0 : -9223372036854775808 ≤ x) (h : x ≤ 9223372036854775807) : wrap64 x = x := by
  unfold wrap64
  omega
theorem tick_l0 (m : Nat) (d : ByteArray) (a w b : Int) (h0 : 0 ≤ a) (h1 : a < (d.size : Int)) (h2 : (d.size : Int) ≤ 32768) (hb : 1 ≤ b) (hb' : b ≤ 8) :
    stream_Tick.l0 (m + 4) ([] : List Int) 0 d a w b = some (d, a, b, mn (2 * b) 8, offs a d.size, 0) := by
  have e0 : wrap64 (a + wrap64 (0 * 48)) = a := by rw [show ((0 : Int) * 48) = 0 from rfl, wrapOk 0 (by omega) (by omega), wrapOk _ (by omega) (by omega)]; omega
  have e1 : wrap64 (a + wrap64 (1 * 48)) = a + 48 := by rw [show ((1 : Int) * 48) = 48 from rfl, wrapOk 48 (by omega) (by omega), wrapOk _ (by omega) (by omega)]
  have e2 : wrap64 (a + wrap64 (2 * 48)) = a + 96 := by rw [show ((2 : Int) * 48) = 96 from rfl, wrapOk 96 (by omega) (by omega), wrapOk _ (by omega) (by omega)]
  have s0 : wrap64 (0 + 1) = 1 := wrapOk 1 (by omega) (by omega)
  have s1 : wrap64 (1 + 1) = 2 := wrapOk 2 (by omega) (by omega)
  have s2 : wrap64 (2 + 1) = 3 := wrapOk 3 (by omega) (by omega)
  have eb : wrap64 (2 * b) = 2 * b := wrapOk _ (by omega) (by omega)
  have l3 : ∀ l : List Int, stream_Tick.l0 (m + 1) l 3 d a w b = some (d, a, b, mn (2 * b) 8, l, 0) := fun l => by
    simp only [stream_Tick.l0]
    rw [if_neg (by omega), eb]
  have l2 : ∀ l : List Int, l.length ≤ 2 → stream_Tick.l0 (m + 2) l 2 d a w b = some (d, a, b, mn (2 * b) 8, l ++ (if a + 96 < (d.size : Int) then [a + 96] else []), 0) := fun l hl => by
    simp only [stream_Tick.l0]
    rw [if_pos (show (2 : Int) < 3 from by omega), e2, s2]
    by_cases h : a + 96 < (d.size : Int)
    · rw [if_pos h, if_pos (show l.length < 17592186044416 from by omega), if_pos h]
      exact l3 _
    · rw [if_neg h, if_neg h, List.append_nil]
      exact l3 _
  have l1 : ∀ l : List Int, l.length ≤ 1 → stream_Tick.l0 (m + 3) l 1 d a w b = some (d, a, b, mn (2 * b) 8, l ++ (if a + 48 < (d.size : Int) then [a + 48] else []) ++ (if a + 96 < (d.size : Int) then [a + 96] else []), 0) := fun l hl => by
    simp only [stream_Tick.l0]
    rw [if_pos (show (1 : Int) < 3 from by omega), e1, s1]
    by_cases h : a + 48 < (d.size : Int)
    · rw [if_pos h, if_pos (show l.length < 17592186044416 from by omega), if_pos h]
      exact l2 _ (by simp; omega)
    · rw [if_neg h, if_neg h, List.append_nil]
      exact l2 _ (by omega)
  simp only [stream_Tick.l0]
  rw [if_pos (show (0 : Int) < 3 from by omega), e0, s0, if_pos h1, if_pos (show ([] : List Int).length < 17592186044416 from by simp)]
  have := l1 ([] ++ [a]) (by simp)
  unfold offs
  rw [if_pos h1]
  exact this
theorem tick_eq (k : Nat) (hk : 4 ≤ k) (d : ByteArray) (a w b : Int) : stream_Tick.f k d a w b =
    if snd d a w b = true then some ((tick d a w b).1, (tick d a w b).2.1, (tick d a w b).2.2.1, (tick d a w b).2.2.2.1, (tick d a w b).2.2.2.2, 0) else some ((⟨#[]⟩ : ByteArray), 0, 0, 0, ([] : List Int), 1) := by
  unfold stream_Tick.f
  rw [sends_eq]
  simp only [Option.bind_some]
  by_cases hs : snd d a w b = true
  · rw [if_pos hs, if_pos hs]
    have hs' := of_decide_eq_true hs
    unfold tick
    by_cases h1 : a = (d.size : Int)
    · rw [if_pos h1, if_pos h1]
    · rw [if_neg h1, if_neg h1]
      by_cases h2 : w > 0
      · rw [if_pos h2, if_pos h2, wrapOk _ (by omega) (by omega)]
      · rw [if_neg h2, if_neg h2]
        obtain ⟨m, rfl⟩ : ∃ m, k = m + 4 := ⟨k - 4, by omega⟩
        exact tick_l0 m d a w b (by omega) (by omega) (by omega) (by omega) (by omega)
  · rw [if_neg hs, if_neg hs]
theorem rtick_l0 (m : Nat) (d : ByteArray) (a w b : Int) (h0 : 0 ≤ a) (h1 : a < (d.size : Int)) (h2 : (d.size : Int) ≤ 32768) (hb : 1 ≤ b) (hb' : b ≤ 8) :
    thresherref19_Tick.l0 (m + 4) ([] : List Int) 0 d a w b = some (d, a, b, mn (2 * b) 8, offs a d.size) := by
  have e0 : wrap64 (a + wrap64 (0 * 48)) = a := by rw [show ((0 : Int) * 48) = 0 from rfl, wrapOk 0 (by omega) (by omega), wrapOk _ (by omega) (by omega)]; omega
  have e1 : wrap64 (a + wrap64 (1 * 48)) = a + 48 := by rw [show ((1 : Int) * 48) = 48 from rfl, wrapOk 48 (by omega) (by omega), wrapOk _ (by omega) (by omega)]
  have e2 : wrap64 (a + wrap64 (2 * 48)) = a + 96 := by rw [show ((2 : Int) * 48) = 96 from rfl, wrapOk 96 (by omega) (by omega), wrapOk _ (by omega) (by omega)]
  have s0 : wrap64 (0 + 1) = 1 := wrapOk 1 (by omega) (by omega)
  have s1 : wrap64 (1 + 1) = 2 := wrapOk 2 (by omega) (by omega)
  have s2 : wrap64 (2 + 1) = 3 := wrapOk 3 (by omega) (by omega)
  have eb : wrap64 (2 * b) = 2 * b := wrapOk _ (by omega) (by omega)
  have l3 : ∀ l : List Int, thresherref19_Tick.l0 (m + 1) l 3 d a w b = some (d, a, b, mn (2 * b) 8, l) := fun l => by
    simp only [thresherref19_Tick.l0]
    rw [if_neg (by omega), eb]
  have l2 : ∀ l : List Int, l.length ≤ 2 → thresherref19_Tick.l0 (m + 2) l 2 d a w b = some (d, a, b, mn (2 * b) 8, l ++ (if a + 96 < (d.size : Int) then [a + 96] else [])) := fun l hl => by
    simp only [thresherref19_Tick.l0]
    rw [if_pos (show (2 : Int) < 3 from by omega), e2, s2]
    by_cases h : a + 96 < (d.size : Int)
    · rw [if_pos h, if_pos (show l.length < 17592186044416 from by omega), if_pos h]
      exact l3 _
    · rw [if_neg h, if_neg h, List.append_nil, eb]
  have l1 : ∀ l : List Int, l.length ≤ 1 → thresherref19_Tick.l0 (m + 3) l 1 d a w b = some (d, a, b, mn (2 * b) 8, l ++ (if a + 48 < (d.size : Int) then [a + 48] else []) ++ (if a + 96 < (d.size : Int) then [a + 96] else [])) := fun l hl => by
    simp only [thresherref19_Tick.l0]
    rw [if_pos (show (1 : Int) < 3 from by omega), e1, s1]
    by_cases h : a + 48 < (d.size : Int)
    · rw [if_pos h, if_pos (show l.length < 17592186044416 from by omega), if_pos h]
      exact l2 _ (by simp; omega)
    · rw [if_neg h, if_neg h, List.append_nil, if_neg (show ¬ a + 96 < (d.size : Int) from by omega), List.append_nil, eb]
  simp only [thresherref19_Tick.l0]
  rw [if_pos (show (0 : Int) < 3 from by omega), e0, s0, if_pos h1, if_pos (show ([] : List Int).length < 17592186044416 from by simp)]
  have := l1 ([] ++ [a]) (by simp)
  unfold offs
  rw [if_pos h1]
  exact this
theorem rtick_eq (k : Nat) (hk : 4 ≤ k) (d : ByteArray) (a w b : Int) (hs : snd d a w b = true) : thresherref19_Tick.f k d a w b = some (tick d a w b) := by
  unfold thresherref19_Tick.f tick
  have hs' := of_decide_eq_true hs
  by_cases h1 : a = (d.size : Int)
  · rw [if_pos h1, if_pos h1]
  · rw [if_neg h1, if_neg h1]
    by_cases h2 : w > 0
    · rw [if_pos h2, if_pos h2, wrapOk _ (by omega) (by omega)]
    · rw [if_neg h2, if_neg h2]
      obtain ⟨m, rfl⟩ : ∃ m, k = m + 4 := ⟨k - 4, by omega⟩
      exact rtick_l0 m d a w b (by omega) (by omega) (by omega) (by omega) (by omega)
theorem ack_eq (d : ByteArray) (a w b off : Int) : stream_Ack.f d a w b off =
    if snd d a w b = true then some ((ack d a w b off).1, (ack d a w b off).2.1, (ack d a w b off).2.2.1, (ack d a w b off).2.2.2, 0) else some ((⟨#[]⟩ : ByteArray), 0, 0, 0, 1) := by
  unfold stream_Ack.f ack
  rw [sends_eq]
  simp only [Option.bind_some]
  by_cases hs : snd d a w b = true
  · rw [if_pos hs, if_pos hs]
    by_cases h1 : off > a
    · rw [if_pos h1]
      by_cases h2 : off ≤ (d.size : Int)
      · rw [if_pos h2, if_pos ⟨h1, h2⟩]
      · rw [if_neg h2, if_neg (fun h => h2 h.2)]
    · rw [if_neg h1, if_neg (fun h => h1 h.1)]
  · rw [if_neg hs, if_neg hs]
theorem rack_eq (d : ByteArray) (a w b off : Int) : thresherref19_Ack.f d a w b off = some (ack d a w b off) := by
  unfold thresherref19_Ack.f ack
  by_cases h1 : off > a
  · rw [if_pos h1]
    by_cases h2 : off ≤ (d.size : Int)
    · rw [if_pos h2, if_pos ⟨h1, h2⟩]
    · rw [if_neg h2, if_neg (fun h => h2 h.2)]
  · rw [if_neg h1, if_neg (fun h => h1 h.1)]
theorem chunk_eq (d : ByteArray) (a w b off : Int) : stream_Chunk.f d a w b off =
    if snd d a w b = true ∧ 0 ≤ off ∧ off ≤ (d.size : Int) - 1 then some (chunk d off, 0) else some ((⟨#[]⟩ : ByteArray), 1) := by
  unfold stream_Chunk.f chunk
  rw [sends_eq]
  simp only [Option.bind_some, within_eq, bind_if]
  by_cases hs : snd d a w b = true
  · have hs' := of_decide_eq_true hs
    rw [if_pos hs, wrapOk ((d.size : Int) - 1) (by omega) (by omega)]
    by_cases h1 : 0 ≤ off ∧ off ≤ (d.size : Int) - 1
    · rw [if_pos h1, if_pos (show snd d a w b = true ∧ 0 ≤ off ∧ off ≤ (d.size : Int) - 1 from ⟨hs, h1⟩), if_pos h1.1, wrapOk (off + 48) (by omega) (by omega), if_pos (show off ≤ mn (off + 48) (d.size : Int) from by unfold mn; split <;> omega), if_pos (show mn (off + 48) (d.size : Int) ≤ (d.size : Int) from by unfold mn; split <;> omega)]
    · rw [if_neg h1, if_neg (show ¬ (snd d a w b = true ∧ 0 ≤ off ∧ off ≤ (d.size : Int) - 1) from fun h => h1 h.2)]
  · rw [if_neg hs, if_neg (show ¬ (snd d a w b = true ∧ 0 ≤ off ∧ off ≤ (d.size : Int) - 1) from fun h => hs h.1)]
theorem rchunk_eq (d : ByteArray) (a w b off : Int) (hd : d.size ≤ 32768) (h0 : 0 ≤ off) (h1 : off ≤ (d.size : Int) - 1) : thresherref19_Chunk.f d a w b off = some (chunk d off) := by
  unfold thresherref19_Chunk.f chunk
  have e : mn (d.size : Int) (wrap64 (off + 48)) = mn (off + 48) (d.size : Int) := by
    rw [wrapOk (off + 48) (by omega) (by omega)]
    unfold mn
    split <;> split <;> omega
  rw [if_pos h0, e, if_pos (show off ≤ mn (off + 48) (d.size : Int) from by unfold mn; split <;> omega), if_pos (show mn (off + 48) (d.size : Int) ≤ (d.size : Int) from by unfold mn; split <;> omega)]
theorem mn_le (x y : Int) : mn x y ≤ x ∧ mn x y ≤ y := by
  unfold mn
  split <;> omega
theorem hears_eq (k : Nat) (hk : 330001 ≤ k) (rl rs : Int) (rd : ByteArray) (rdn : Bool) : stream_Hears.f k rl rs rd rdn = some (hears rl rs rd rdn) := by
  unfold stream_Hears.f hears
  by_cases h1 : rl = -1
  · rw [if_pos h1, if_pos h1]
    subst h1
    rfl
  · rw [if_neg h1, if_neg h1, within_eq]
    simp only [Option.bind_some, bind_if]
    by_cases h2 : 1 ≤ rl ∧ rl ≤ 32768
    · rw [if_pos h2]
      by_cases h3 : (rd.size : Int) > rl
      · rw [if_pos h3, decide_eq_false (by omega)]
        rfl
      · rw [if_neg h3, decide_eq_true (by omega)]
        cases h4 : (rdn == ((rd.size : Int) == rl))
        · rw [if_pos (show (rdn != ((rd.size : Int) == rl)) = true from by simp only [bne, h4, Bool.not_false])]
          rfl
        · rw [if_neg (show ¬ (rdn != ((rd.size : Int) == rl)) = true from by simp only [bne, h4, Bool.not_true]; exact Bool.false_ne_true)]
          cases rdn
          · rfl
          · rw [if_pos rfl, sum_crc rd (by omega) k (by omega)]
            rfl
    · rw [if_neg h2, decide_eq_false (by omega)]
      rfl
theorem receiver_eq (k : Nat) (hk : 330001 ≤ k) (rl rs : Int) (rd : ByteArray) (rdn : Bool) : thresherref19_Receiver.f k rl rs rd rdn = some (hears rl rs rd rdn) := by
  unfold thresherref19_Receiver.f hears
  by_cases h1 : rl = -1
  · rw [if_pos h1, if_pos h1]
    subst h1
    rfl
  · rw [if_neg h1, if_neg h1]
    by_cases h2 : rl < 1
    · rw [if_pos h2, decide_eq_false (by omega)]
      rfl
    · rw [if_neg h2]
      by_cases h2' : rl > 32768
      · rw [if_pos h2', decide_eq_false (by omega)]
        rfl
      · rw [if_neg h2']
        by_cases h3 : (rd.size : Int) > rl
        · rw [if_pos h3, decide_eq_false (by omega)]
          rfl
        · rw [if_neg h3, decide_eq_true (by omega)]
          cases h4 : (rdn == ((rd.size : Int) == rl))
          · rw [if_neg Bool.false_ne_true]
            rfl
          · rw [if_pos rfl]
            cases rdn
            · rfl
            · rw [if_pos rfl, ref_crc rd (by omega) k (by omega)]
              rfl
theorem mayTake_eq (k : Nat) (hk : 330001 ≤ k) (rl rs : Int) (rd : ByteArray) (rdn : Bool) (off n : Int) (data : ByteArray) : thresherref19_MayTake.f k rl rs rd rdn off n data = some (hears rl rs rd rdn && mayT off n data) := by
  unfold thresherref19_MayTake.f mayT
  rw [receiver_eq k hk]
  simp only [Option.bind_some, num_eq, bind_if]
  cases hears rl rs rd rdn
  · rfl
  · rw [if_pos rfl, Bool.true_and]
    by_cases h1 : n ≥ 1
    · rw [if_pos h1]
      by_cases h2 : n ≤ 32768
      · rw [if_pos h2]
        by_cases h3 : 0 ≤ off ∧ off ≤ n
        · rw [if_pos h3]
          by_cases h4 : (data.size : Int) ≤ 48
          · rw [if_pos h4, wrapOk (n - off) (by omega) (by omega)]
            exact congrArg some (decide_eq_decide.2 ⟨fun h => ⟨h1, h2, h3.1, h3.2, h4, h⟩, fun h => by omega⟩)
          · rw [if_neg h4, decide_eq_false (by omega)]
        · rw [if_neg h3, decide_eq_false (by omega)]
      · rw [if_neg h2, decide_eq_false (by omega)]
    · rw [if_neg h1, decide_eq_false (by omega)]
theorem hears_size {rl rs : Int} {rd : ByteArray} {rdn : Bool} (h : hears rl rs rd rdn = true) : rd.size ≤ 32768 ∧ (rl = -1 ∨ 1 ≤ rl) ∧ (rl = -1 → rdn = false) := by
  unfold hears at h
  by_cases h1 : rl = -1
  · rw [if_pos h1] at h
    simp only [Bool.and_eq_true, beq_iff_eq] at h
    have hb : rd = (⟨#[]⟩ : ByteArray) := (Go.Lib.bytes_beq_iff rd ⟨#[]⟩).1 (beq_iff_eq.2 h.2.1)
    subst hb
    exact ⟨by decide, Or.inl h1, fun _ => h.2.2⟩
  · rw [if_neg h1] at h
    simp only [Bool.and_eq_true, decide_eq_true_eq] at h
    exact ⟨by omega, Or.inr h.1.1, fun e => absurd e h1⟩
theorem gotD_size (rd : ByteArray) (off : Int) (data : ByteArray) : (gotB rd off data = true → ((gotD rd off data).size : Int) = off + (data.size : Int)) ∧ (gotB rd off data = false → gotD rd off data = rd) := by
  unfold gotD
  refine ⟨fun h => ?_, fun h => by rw [if_neg (by rw [h]; exact Bool.false_ne_true)]⟩
  rw [if_pos h]
  have h' := of_decide_eq_true h
  rw [ByteArray.size_append, ByteArray.size_extract, Nat.min_self]
  omega
theorem take_j4 (k : Nat) (hk : 331000 ≤ k) (n total : Int) (was : Int) (rd : ByteArray) (rdn : Bool) (hs : rd.size ≤ 33000) : stream_Take.j4 (k + 1) n total was n total rd rdn =
    if (rd.size : Int) = n then (if ((Crc.crc rd.data.toList : Nat) : Int) = total then some (n, total, rd, true, (rd.size : Int), decide ((rd.size : Int) > was), 0) else some (-1, 0, (⟨#[]⟩ : ByteArray), false, 0, false, 8))
    else some (n, total, rd, rdn, (rd.size : Int), decide ((rd.size : Int) > was), 0) := by
  simp only [stream_Take.j4]
  rw [sum_crc rd (by omega) k (by omega)]
  rfl
theorem rtake_j2 (k : Nat) (hk : 331000 ≤ k) (n total : Int) (b : Bool) (rd : ByteArray) (rdn : Bool) (hs : rd.size ≤ 33000) : thresherref19_Take.j2 (k + 1) n total b n total rd rdn =
    if (rd.size : Int) = n then (if ((Crc.crc rd.data.toList : Nat) : Int) = total then some (n, total, rd, true, (rd.size : Int), b, 0) else some (-1, 0, (⟨#[]⟩ : ByteArray), false, 0, false, 8))
    else some (n, total, rd, rdn, (rd.size : Int), b, 0) := by
  simp only [thresherref19_Take.j2]
  rw [ref_crc rd (by omega) k (by omega)]
  rfl
theorem take_j2 (k : Nat) (hk : 331010 ≤ k) (off n total : Int) (data : ByteArray) (rl rs : Int) (rd : ByteArray) (hs : rd.size ≤ 32768) (hd : data.size ≤ 48) (h0 : 0 ≤ off) (h1 : off ≤ 32768) :
    stream_Take.j2 (k + 3) off n total data false rl rs rd false = some (if ((gotD rd off data).size : Int) = n then (if ((Crc.crc (gotD rd off data).data.toList : Nat) : Int) = total then (n, total, gotD rd off data, true, ((gotD rd off data).size : Int), gotB rd off data, 0) else (-1, 0, (⟨#[]⟩ : ByteArray), false, 0, false, 8))
      else (n, total, gotD rd off data, false, ((gotD rd off data).size : Int), gotB rd off data, 0)) := by
  have key : ∀ g : Bool, g = gotB rd off data → stream_Take.j3 (k + 2) off n total data (rd.size : Int) g n total rd false = some (if ((gotD rd off data).size : Int) = n then (if ((Crc.crc (gotD rd off data).data.toList : Nat) : Int) = total then (n, total, gotD rd off data, true, ((gotD rd off data).size : Int), gotB rd off data, 0) else (-1, 0, (⟨#[]⟩ : ByteArray), false, 0, false, 8))
      else (n, total, gotD rd off data, false, ((gotD rd off data).size : Int), gotB rd off data, 0)) := by
    intro g hg
    have hz := gotD_size rd off data
    simp only [stream_Take.j3]
    cases hb : gotB rd off data
    · rw [hg, hb, if_neg Bool.false_ne_true, take_j4 k (by omega) n total _ rd false (by omega), hz.2 hb, decide_eq_false (by omega)]
      split
      · split <;> rfl
      · rfl
    · have hb' := of_decide_eq_true hb
      have hz1 := hz.1 hb
      have hgd : rd ++ data.extract ((rd.size : Int) - off).toNat data.size = gotD rd off data := by
        unfold gotD
        rw [if_pos hb]
      rw [hg, hb, if_pos rfl, wrapOk ((rd.size : Int) - off) (by omega) (by omega), if_pos (show 0 ≤ (rd.size : Int) - off from by omega), if_pos (show (rd.size : Int) - off ≤ (data.size : Int) from by omega), if_pos (by rw [ByteArray.size_extract, Nat.min_self]; omega), hgd, take_j4 k (by omega) n total _ _ false (by omega), decide_eq_true (show ((gotD rd off data).size : Int) > (rd.size : Int) from by omega)]
      split
      · split <;> rfl
      · rfl
  simp only [stream_Take.j2]
  rw [if_neg Bool.false_ne_true, if_neg Bool.false_ne_true, wrapOk (off + (data.size : Int)) (by omega) (by omega)]
  by_cases h2 : off ≤ (rd.size : Int)
  · rw [if_pos h2]
    exact key _ (decide_eq_decide.2 ⟨fun h => ⟨h2, h⟩, fun h => h.2⟩)
  · rw [if_neg h2]
    exact key _ (decide_eq_false (fun h => h2 h.1)).symm
theorem take_eq (k : Nat) (hk : 331020 ≤ k) (rl rs : Int) (rd : ByteArray) (rdn : Bool) (off n total : Int) (data : ByteArray) : stream_Take.f (k + 5) rl rs rd rdn off n total data =
    some (if (hears rl rs rd rdn && mayT off n data) = true then take rl rs rd rdn off n total data else (0, 0, (⟨#[]⟩ : ByteArray), false, 0, false, 1)) := by
  have j0 : ∀ g : Bool, g = mayT off n data → stream_Take.j0 (k + 5) off n total data g rl rs rd rdn = some (if (hears rl rs rd rdn && mayT off n data) = true then take rl rs rd rdn off n total data else (0, 0, (⟨#[]⟩ : ByteArray), false, 0, false, 1)) := by
    intro g hg
    simp only [stream_Take.j0]
    rw [hears_eq (k + 4) (by omega)]
    simp only [Option.bind_some]
    have bad : stream_Take.j1 (k + 4) off n total data true rl rs rd rdn = some (0, 0, (⟨#[]⟩ : ByteArray), false, 0, false, 1) := by
      simp only [stream_Take.j1]
      rfl
    cases hh : hears rl rs rd rdn
    · rw [if_neg Bool.false_ne_true, bad]
      rfl
    · rw [if_pos rfl, hg]
      cases hm : mayT off n data
      · rw [Bool.not_false, bad]
        rfl
      · rw [Bool.not_true, if_pos (show (true && true) = true from rfl)]
        have hz := hears_size hh
        have hm' := of_decide_eq_true hm
        have b7 : stream_Take.j2 (k + 3) off n total data true rl rs rd rdn = some (0, 0, (⟨#[]⟩ : ByteArray), false, 0, false, 7) := by
          simp only [stream_Take.j2]
          rfl
        have b0 : stream_Take.j2 (k + 3) off n total data false rl rs rd rdn = some (if rdn = true then (rl, rs, rd, rdn, rl, false, 0) else if ((gotD rd off data).size : Int) = n then (if ((Crc.crc (gotD rd off data).data.toList : Nat) : Int) = total then (n, total, gotD rd off data, true, ((gotD rd off data).size : Int), gotB rd off data, 0) else (-1, 0, (⟨#[]⟩ : ByteArray), false, 0, false, 8)) else (n, total, gotD rd off data, rdn, ((gotD rd off data).size : Int), gotB rd off data, 0)) := by
          cases rdn
          · exact take_j2 k (by omega) off n total data rl rs rd hz.1 (by omega) (by omega) (by omega)
          · simp only [stream_Take.j2]
            rfl
        simp only [stream_Take.j1]
        rw [if_neg Bool.false_ne_true]
        unfold take
        by_cases h1 : rl = -1
        · rw [if_pos h1, if_neg (show ¬ (rl ≠ -1 ∧ (rl ≠ n ∨ rs ≠ total)) from fun h => h.1 h1)]
          exact b0
        · rw [if_neg h1]
          by_cases h2 : rl = n
          · rw [if_pos h2]
            by_cases h3 : rs = total
            · rw [if_neg (show ¬ (rl ≠ -1 ∧ (rl ≠ n ∨ rs ≠ total)) from fun h => h.2.elim (fun e => e h2) (fun e => e h3)), show (rs != total) = false from bne_eq_false_iff_eq.2 h3]
              exact b0
            · rw [if_pos (show rl ≠ -1 ∧ (rl ≠ n ∨ rs ≠ total) from ⟨h1, Or.inr h3⟩), show (rs != total) = true from bne_iff_ne.2 h3]
              exact b7
          · rw [if_neg h2, if_pos (show rl ≠ -1 ∧ (rl ≠ n ∨ rs ≠ total) from ⟨h1, Or.inl h2⟩)]
            exact b7
  unfold stream_Take.f
  simp only [within_eq, Option.bind_some, bind_if]
  by_cases h1 : 1 ≤ n ∧ n ≤ 32768
  · rw [if_pos h1]
    by_cases h2 : 0 ≤ off ∧ off ≤ n
    · rw [if_pos h2]
      by_cases h3 : (data.size : Int) ≤ 48
      · rw [if_pos h3, wrapOk (n - off) (by omega) (by omega)]
        exact j0 _ (decide_eq_decide.2 ⟨fun h => ⟨h1.1, h1.2, h2.1, h2.2, h3, h⟩, fun h => by omega⟩)
      · rw [if_neg h3]
        exact j0 _ (decide_eq_false (by omega)).symm
    · rw [if_neg h2]
      exact j0 _ (decide_eq_false (by omega)).symm
  · rw [if_neg h1]
    exact j0 _ (decide_eq_false (by omega)).symm
theorem rtake_eq (k : Nat) (hk : 331020 ≤ k) (rl rs : Int) (rd : ByteArray) (rdn : Bool) (off n total : Int) (data : ByteArray) (hh : hears rl rs rd rdn = true) (hm : mayT off n data = true) :
    thresherref19_Take.f (k + 3) rl rs rd rdn off n total data = some (take rl rs rd rdn off n total data) := by
  have hz := hears_size hh
  have hm' := of_decide_eq_true hm
  have j1 : ∀ g : Bool, g = gotB rd off data → thresherref19_Take.j1 (k + 2) off n total data g n total rd rdn = some (if ((gotD rd off data).size : Int) = n then (if ((Crc.crc (gotD rd off data).data.toList : Nat) : Int) = total then (n, total, gotD rd off data, true, ((gotD rd off data).size : Int), gotB rd off data, 0) else (-1, 0, (⟨#[]⟩ : ByteArray), false, 0, false, 8)) else (n, total, gotD rd off data, rdn, ((gotD rd off data).size : Int), gotB rd off data, 0)) := by
    intro g hg
    have hsz := gotD_size rd off data
    simp only [thresherref19_Take.j1]
    cases hb : gotB rd off data
    · rw [hg, hb, if_neg Bool.false_ne_true, rtake_j2 k (by omega) n total _ rd rdn (by omega), hsz.2 hb]
      split
      · split <;> rfl
      · rfl
    · have hb' := of_decide_eq_true hb
      have hz1 := hsz.1 hb
      have hgd : rd ++ data.extract ((rd.size : Int) - off).toNat data.size = gotD rd off data := by
        unfold gotD
        rw [if_pos hb]
      rw [hg, hb, if_pos rfl, wrapOk ((rd.size : Int) - off) (by omega) (by omega), if_pos (show 0 ≤ (rd.size : Int) - off from by omega), if_pos (show (rd.size : Int) - off ≤ (data.size : Int) from by omega), if_pos (by rw [ByteArray.size_extract, Nat.min_self]; omega), hgd, rtake_j2 k (by omega) n total _ _ rdn (by omega)]
      split
      · split <;> rfl
      · rfl
  have j0 : ∀ g : Bool, (g = true ↔ (rl ≠ -1 ∧ (rl ≠ n ∨ rs ≠ total))) → thresherref19_Take.j0 (k + 3) off n total data g rl rs rd rdn = some (take rl rs rd rdn off n total data) := by
    intro g hg
    simp only [thresherref19_Take.j0]
    unfold take
    cases g
    · rw [if_neg Bool.false_ne_true, if_neg (show ¬ (rl ≠ -1 ∧ (rl ≠ n ∨ rs ≠ total)) from fun h => Bool.false_ne_true (hg.2 h))]
      by_cases hr : rdn = true
      · rw [if_pos hr, if_pos hr]
      · rw [if_neg hr, if_neg hr, wrapOk (off + (data.size : Int)) (by omega) (by omega)]
        by_cases h2 : off ≤ (rd.size : Int)
        · rw [if_pos h2]
          exact j1 _ (decide_eq_decide.2 ⟨fun h => ⟨h2, h⟩, fun h => h.2⟩)
        · rw [if_neg h2]
          exact j1 _ (decide_eq_false (fun h => h2 h.1)).symm
    · rw [if_pos rfl, if_pos (hg.1 rfl)]
  unfold thresherref19_Take.f
  by_cases h1 : rl ≥ 0
  · rw [if_pos h1]
    by_cases h2 : rl = n
    · rw [if_pos h2]
      exact j0 _ ⟨fun h => ⟨by omega, Or.inr (bne_iff_ne.1 h)⟩, fun h => bne_iff_ne.2 (h.2.elim (fun e => absurd h2 e) id)⟩
    · rw [if_neg h2]
      exact j0 _ ⟨fun _ => ⟨by omega, Or.inl h2⟩, fun _ => rfl⟩
  · rw [if_neg h1]
    exact j0 _ ⟨fun h => absurd h Bool.false_ne_true, fun h => absurd (hz.2.1.resolve_left h.1) (by omega)⟩
/-! ### what all stream statements share -/
theorem within0 (x n : Int) (h0 : 0 < n) (h : n ≤ 9223372036854775807) : ∃ v, thresherlaw0_Within.f x n = some v ∧ 0 ≤ v ∧ v < n := by
  unfold thresherlaw0_Within.f
  have e1 : IntKind.u64.wrap n = n := by rw [IntKind.wrap_u64]; omega
  have e2 : 0 ≤ IntKind.u64.wrap x := by rw [IntKind.wrap_u64]; omega
  rw [e1, if_neg (by omega), Int.tmod_eq_emod_of_nonneg e2]
  have h1 := Int.emod_nonneg (IntKind.u64.wrap x) (show n ≠ 0 from by omega)
  have h2 := Int.emod_lt_of_pos (IntKind.u64.wrap x) h0
  exact ⟨_, rfl, by rw [wrapOk _ (by omega) (by omega)]; exact h1, by rw [wrapOk _ (by omega) (by omega)]; exact h2⟩
theorem eqNumbers_l0 (l : List Int) (hl : l.length ≤ 1000) (d : Nat) : ∀ (i k : Nat), i + d = l.length → d < k → thresherref0_EqNumbers.l0 k l l (i : Int) = some true := by
  induction d with
  | zero =>
    intro i k hi hk
    obtain ⟨k, rfl⟩ : ∃ m, k = m + 1 := ⟨k - 1, by omega⟩
    simp only [thresherref0_EqNumbers.l0]
    rw [if_neg (by omega)]
  | succ d ih =>
    intro i k hi hk
    obtain ⟨k, rfl⟩ : ∃ m, k = m + 1 := ⟨k - 1, by omega⟩
    have h := ih (i + 1) k (by omega) (by omega)
    simp only [thresherref0_EqNumbers.l0]
    rw [if_pos (show (i : Int) < (l.length : Int) from by omega), if_pos (show (0 : Int) ≤ (i : Int) from by omega), if_pos (show (i : Int) < (l.length : Int) from by omega), if_pos trivial, wrapN i (by omega)]
    exact h
theorem eqNumbers_same (l : List Int) (hl : l.length ≤ 1000) (k : Nat) (hk : 1001 ≤ k) : thresherref0_EqNumbers.f k l l = some true := by
  unfold thresherref0_EqNumbers.f
  rw [if_pos rfl]
  exact eqNumbers_l0 l hl l.length 0 k (by omega) (by omega)
theorem offs_length (a n : Int) : (offs a n).length ≤ 3 := by
  unfold offs
  simp only [List.length_append]
  have h1 : (if a < n then [a] else ([] : List Int)).length ≤ 1 := by split <;> simp
  have h2 : (if a + 48 < n then [a + 48] else ([] : List Int)).length ≤ 1 := by split <;> simp
  have h3 : (if a + 96 < n then [a + 96] else ([] : List Int)).length ≤ 1 := by split <;> simp
  omega
theorem tick_length (d : ByteArray) (a w b : Int) : (tick d a w b).2.2.2.2.length ≤ 3 := by
  unfold tick
  split
  · simp
  · split
    · simp
    · exact offs_length _ _
theorem send_eq (d : ByteArray) : stream_Send.f d = if snd d 0 0 1 = true then some (d, 0, 0, 1, 0) else some ((⟨#[]⟩ : ByteArray), 0, 0, 0, 1) := by
  unfold stream_Send.f
  rw [sends_eq]
  rfl
theorem size_hundred : (strOfNums (List.replicate 100 0)).size = 100 := by
  rw [strOfNums_size, List.length_replicate]
theorem wakes_true (k : Nat) (hk : 1001 ≤ k) : thresherlaw20_wakes.f k = some true := by
  have hz := size_hundred
  have hs : snd (strOfNums (List.replicate 100 0)) 0 0 1 = true := by
    unfold snd
    rw [hz]
    decide
  have ht : (tick (strOfNums (List.replicate 100 0)) 0 0 1).2.2.2.2 = [0, 48, 96] := by
    unfold tick
    rw [hz]
    decide
  unfold thresherlaw20_wakes.f
  rw [if_pos (by decide), send_eq, if_pos hs]
  simp only [Option.bind_some]
  rw [tick_eq k (by omega), if_pos hs]
  simp only [Option.bind_some, thresherlaw20_num.f]
  rw [if_pos trivial, if_pos trivial, ht, eqNumbers_same _ (by simp) k hk]
  rfl
theorem rd_mem {L : List S38} {i : Nat} (h : i < L.length) : rd_T38 L (i : Int) ∈ L := by
  unfold rd_T38
  rw [Int.toNat_natCast, List.getD_eq_getElem?_getD, List.getElem?_eq_getElem h]
  exact List.getElem_mem h
theorem heavy_l0 (L : List S38) (hL : L.length ≤ 140737488351232) (hz : ∀ x ∈ L, x.f4.size ≤ 140737488351232) (p0 : ByteArray) (p1 p2 p3 p4 p5 : Int) (p6 : ByteArray) (p7 : Bool) (d : Nat) : ∀ (i k : Nat) (n : Int), i + d = L.length → d < k → 0 ≤ n → n ≤ 562949953421312 →
    ∃ v, thresherlaw20_heavy.l0 k n (i : Int) p0 p1 p2 p3 p4 p5 p6 p7 L = some (decide (v > 9000)) ∧ n ≤ v ∧ (v ≤ 9000 → n + (d : Int) ≤ v) := by
  induction d with
  | zero =>
    intro i k n hi hk h0 hn
    obtain ⟨k, rfl⟩ : ∃ m, k = m + 1 := ⟨k - 1, by omega⟩
    refine ⟨n, ?_, by omega, fun _ => by omega⟩
    simp only [thresherlaw20_heavy.l0]
    rw [if_neg (by omega)]
  | succ d ih =>
    intro i k n hi hk h0 hn
    obtain ⟨k, rfl⟩ : ∃ m, k = m + 1 := ⟨k - 1, by omega⟩
    by_cases h1 : n < 1048576
    · have hs := hz _ (rd_mem (L := L) (i := i) (by omega))
      obtain ⟨v, hv, h2, h3⟩ := ih (i + 1) k (n + 1 + ((rd_T38 L (i : Int)).f4.size : Int)) (by omega) (by omega) (by omega) (by omega)
      refine ⟨v, ?_, by omega, fun h => by have := h3 h; omega⟩
      simp only [thresherlaw20_heavy.l0]
      rw [if_pos (show (i : Int) < (L.length : Int) from by omega), if_pos h1, if_pos (show (0 : Int) ≤ (i : Int) from by omega), wrapN i (by omega), wrapOk (n + 1) (by omega) (by omega), wrapOk _ (by omega) (by omega)]
      exact hv
    · refine ⟨n, ?_, by omega, fun _ => by omega⟩
      simp only [thresherlaw20_heavy.l0]
      rw [if_pos (show (i : Int) < (L.length : Int) from by omega), if_neg h1]
theorem heavy_eq (L : List S38) (hL : L.length ≤ 140737488351232) (hz : ∀ x ∈ L, x.f4.size ≤ 140737488351232) (p0 : ByteArray) (p1 p2 p3 p4 p5 : Int) (p6 : ByteArray) (p7 : Bool) (h0 : p0.size ≤ 140737488351232) (h6 : p6.size ≤ 140737488351232) (k : Nat) (hk : L.length < k) :
    ∃ b, thresherlaw20_heavy.f k p0 p1 p2 p3 p4 p5 p6 p7 L = some b ∧ (b = false → p0.size ≤ 9000 ∧ p6.size ≤ 9000 ∧ L.length ≤ 9000) := by
  obtain ⟨v, hv, h1, h2⟩ := heavy_l0 L hL hz p0 p1 p2 p3 p4 p5 p6 p7 L.length 0 k ((p0.size : Int) + (p6.size : Int)) (by omega) hk (by omega) (by omega)
  refine ⟨decide (v > 9000), ?_, fun h => ?_⟩
  · unfold thresherlaw20_heavy.f
    rw [wrapOk _ (by omega) (by omega)]
    exact hv
  · have h3 := of_decide_eq_false h
    have h4 := h2 (by omega)
    omega
end Go.Proofs.Ytbadcpaopdbgnaa.PureStreamExact
