/-
  The statement SumTurns: one changed byte changes the sum, and so do two beside each other of which the first has one bit turned; the walk's conditions, and the walk joined to them.
-/
import Derived.Test.YtbadcpaopdbgnaaWalkSumTurns
namespace Go.Proofs.Ytbadcpaopdbgnaa.Pure
set_option linter.unusedSimpArgs false
open Go.RowKit Go.Proofs.Ytbadcpaopdbgnaa Go.Proofs.Ytbadcpaopdbgnaa.PSumTurns Go.Proofs.YtbadcpaopdbgnaaW.PrintWords Go.Proofs.YtbadcpaopdbgnaaW.PrintLast
/-! ### the sums, told by Crc -/
theorem bt_nat (s : ByteArray) (i : Nat) (h : i < s.size) : ∃ b : UInt8, s.data.toList.drop i = b :: s.data.toList.drop (i + 1) ∧ (bt s (i : Int)) % 4294967296 = ((b.toNat : Nat) : Int) := by
  have hl : i < s.data.toList.length := by simpa using h
  refine ⟨s.data.toList[i], (List.drop_eq_getElem_cons hl), ?_⟩
  have hb : bt s (i : Int) = ((s[i]'h).toNat : Int) := by simp [bt, h]
  have he : (s[i]'h) = s.data.toList[i] := rfl
  rw [hb, he]
  have := (s.data.toList[i]).toNat_lt
  omega
theorem wrapN (i : Nat) (h : i < 9223372036854775807) : wrap64 ((i : Int) + 1) = ((i + 1 : Nat) : Int) := by
  unfold wrap64
  omega
theorem sum_out (k : Nat) (x0 : ByteArray) (x6 n : Int) (i : Nat) (hi : i < 9223372036854775807) : sum_Sum.l1 (k + 1) x0 n x6 (i : Int) 8 = sum_Sum.l0 k x0 n x6 ((i + 1 : Nat) : Int) := by
  simp only [sum_Sum.l1]
  rw [if_neg (by omega), wrapN i hi]
theorem sum_in (k : Nat) (x0 : ByteArray) (x6 x7 : Int) (n : Nat) (j : Int) (hn : n < 4294967296) (h0 : 0 ≤ j) (hj : j < 8) : sum_Sum.l1 (k + 1) x0 (n : Int) x6 x7 j = sum_Sum.l1 k x0 ((Crc.tn n : Nat) : Int) x6 x7 (j + 1) := by
  simp only [sum_Sum.l1]
  rw [if_pos hj, sum_turn.f, Crc.turn_code n hn]
  have e : wrap64 (j + 1) = j + 1 := by
    unfold wrap64
    omega
  simp only [Option.bind_some, e]
theorem sum_l1 (k : Nat) (x0 : ByteArray) (x6 : Int) (i : Nat) (hi : i < 9223372036854775807) (d : Nat) : ∀ (n : Nat) (j : Int), n < 4294967296 → 0 ≤ j → j + d = 8 →
    sum_Sum.l1 (k + d + 1) x0 (n : Int) x6 (i : Int) j = sum_Sum.l0 k x0 ((Crc.it d n : Nat) : Int) x6 ((i + 1 : Nat) : Int) := by
  induction d with
  | zero =>
    intro n j _ _ hj
    obtain rfl : j = 8 := by omega
    exact sum_out k x0 x6 _ i hi
  | succ d ih =>
    intro n j hn h0 hj
    rw [show k + (d + 1) + 1 = (k + d + 1) + 1 from by omega, sum_in _ x0 x6 _ n j hn h0 (by omega)]
    exact ih (Crc.tn n) (j + 1) (Crc.tn_lt hn) (by omega) (by omega)
theorem sum_l0 (s : ByteArray) (hs : s.size ≤ 140737488351232) (m d : Nat) : ∀ (i c : Nat), c < 4294967296 → i + d = s.size →
    sum_Sum.l0 (10 * d + 1 + m) s (c : Int) (s.size : Int) (i : Int) = some ((4294967295 ^^^ Crc.crcFrom c (s.data.toList.drop i) : Nat) : Int) := by
  induction d with
  | zero =>
    intro i c hc hi
    rw [show 10 * 0 + 1 + m = m + 1 from by omega]
    simp only [sum_Sum.l0]
    rw [if_neg (by omega), List.drop_of_length_le (by simp; omega)]
    exact congrArg some (Crc.xorN 4294967295 c (by omega) hc)
  | succ d ih =>
    intro i c hc hi
    obtain ⟨b, hb, hbt⟩ := bt_nat s i (by omega)
    have hb8 := b.toNat_lt
    have h1 := sum_l1 (10 * d + 1 + m) s (s.size : Int) i (by omega) 8 (c ^^^ b.toNat) 0 (Nat.xor_lt_two_pow (n := 32) hc (by omega)) (by omega) (by omega)
    have h2 := ih (i + 1) (Crc.feed c b.toNat) (Crc.feed_lt hc (by omega)) (by omega)
    rw [show 10 * (d + 1) + 1 + m = ((10 * d + 1 + m) + 8 + 1) + 1 from by omega]
    simp only [sum_Sum.l0]
    rw [if_pos (show (0 : Int) ≤ (i : Int) from by omega), if_pos (show (i : Int) < (s.size : Int) from by omega), if_pos (show (i : Int) < (s.size : Int) from by omega), hbt, Crc.xorN c b.toNat hc (by omega), hb]
    exact h1.trans h2
theorem sum_crc (s : ByteArray) (hs : s.size ≤ 140737488351232) (k : Nat) (hk : 10 * s.size + 1 ≤ k) : sum_Sum.f k s = some ((Crc.crc s.data.toList : Nat) : Int) := by
  obtain ⟨m, rfl⟩ : ∃ m, k = 10 * s.size + 1 + m := ⟨k - (10 * s.size + 1), by omega⟩
  exact sum_l0 s hs m s.size 0 4294967295 (by omega) (by omega)
theorem wakes_true (k : Nat) (hk : 91 ≤ k) : thresherlaw2_wakes.f k = some true := by
  unfold thresherlaw2_wakes.f
  rw [sum_crc _ (by decide) k (by exact hk)]
  have e : Crc.crc (⟨#[49, 50, 51, 52, 53, 54, 55, 56, 57]⟩ : ByteArray).data.toList = 3421780262 := by decide +kernel
  rw [e]
  rfl
/-! ### one changed byte, and two beside each other -/
theorem one (l : List UInt8) (t : Nat) (ht : t < l.length) (b' : UInt8) (hb : b' ≠ l[t]) : Crc.crc (l.set t b') ≠ Crc.crc l := by
  intro h
  have h1 := Crc.crc_inj h
  have e : l = l.take t ++ (l[t] :: l.drop (t + 1)) := by rw [← List.drop_eq_getElem_cons ht, List.take_append_drop]
  rw [List.set_eq_take_append_cons_drop, if_pos ht] at h1
  conv at h1 => rhs; rw [e]
  rw [Crc.crcFrom_append, Crc.crcFrom_append] at h1
  have hc : Crc.crcFrom 4294967295 (l.take t) < 4294967296 := Crc.crcFrom_lt _ (by omega)
  generalize Crc.crcFrom 4294967295 (l.take t) = c at h1 hc
  have n1 := b'.toNat_lt
  have n2 := (l[t]).toNat_lt
  have x1 : c ^^^ b'.toNat < 4294967296 := Nat.xor_lt_two_pow (n := 32) hc (by omega)
  have x2 : c ^^^ (l[t]).toNat < 4294967296 := Nat.xor_lt_two_pow (n := 32) hc (by omega)
  have h2 := Crc.crcFrom_inj _ (Crc.feed_lt hc (by omega)) (Crc.feed_lt hc (by omega)) h1
  have h3 := Crc.it_inj x1 x2 h2
  have h4 : c ^^^ (c ^^^ b'.toNat) = c ^^^ (c ^^^ (l[t]).toNat) := by rw [h3]
  rw [← Nat.xor_assoc, ← Nat.xor_assoc, Nat.xor_self, Nat.zero_xor, Nat.zero_xor] at h4
  exact hb (UInt8.toNat_inj.mp h4)
theorem far (m : Nat) (hm : m < 8) : 256 ≤ Crc.it 8 (2 ^ m) := by
  have : ∀ m : Fin 8, 256 ≤ Crc.it 8 (2 ^ m.val) := by decide +kernel
  exact this ⟨m, hm⟩
theorem two (l : List UInt8) (t m : Nat) (ht : t + 1 < l.length) (hm : m < 8) (b' v : UInt8) (hb : b'.toNat = (l[t]'(by omega)).toNat ^^^ 2 ^ m) : Crc.crc ((l.set t b').set (t + 1) v) ≠ Crc.crc l := by
  intro h
  have h1 := Crc.crc_inj h
  have ht0 : t < l.length := by omega
  have e : l = l.take t ++ (l[t] :: l[t + 1] :: l.drop (t + 2)) := by rw [← List.drop_eq_getElem_cons ht, ← List.drop_eq_getElem_cons ht0, List.take_append_drop]
  have e2 : (l.set t b').set (t + 1) v = l.take t ++ (b' :: v :: l.drop (t + 2)) := by
    have hlt : (l.take t).length = t := by rw [List.length_take]; omega
    conv => lhs; rw [e]
    rw [List.set_append_right _ _ (by omega), hlt, Nat.sub_self, List.set_cons_zero, List.set_append_right _ _ (by omega), hlt, show t + 1 - t = 1 from by omega, List.set_cons_succ, List.set_cons_zero]
  rw [e2] at h1
  conv at h1 => rhs; rw [e]
  rw [Crc.crcFrom_append, Crc.crcFrom_append] at h1
  have hc : Crc.crcFrom 4294967295 (l.take t) < 4294967296 := Crc.crcFrom_lt _ (by omega)
  generalize Crc.crcFrom 4294967295 (l.take t) = c at h1 hc
  have n1 := b'.toNat_lt
  have n2 := (l[t]).toNat_lt
  have n3 := v.toNat_lt
  have n4 := (l[t + 1]).toNat_lt
  have f1 : Crc.feed c b'.toNat < 4294967296 := Crc.feed_lt hc (by omega)
  have f2 : Crc.feed c (l[t]).toNat < 4294967296 := Crc.feed_lt hc (by omega)
  generalize l.drop (t + 2) = post at h1
  simp only [Crc.crcFrom] at h1
  have h2 := Crc.crcFrom_inj post (Crc.feed_lt f1 (by omega)) (Crc.feed_lt f2 (by omega)) h1
  have h3 := Crc.it_inj (Nat.xor_lt_two_pow (n := 32) f1 (by omega)) (Nat.xor_lt_two_pow (n := 32) f2 (by omega)) h2
  have h4 : Crc.feed c b'.toNat ^^^ Crc.feed c (l[t]).toNat = v.toNat ^^^ (l[t + 1]).toNat := by
    have : (Crc.feed c b'.toNat ^^^ v.toNat) ^^^ (Crc.feed c (l[t]).toNat ^^^ v.toNat) = (Crc.feed c (l[t]).toNat ^^^ (l[t + 1]).toNat) ^^^ (Crc.feed c (l[t]).toNat ^^^ v.toNat) := by rw [h3]
    have a1 : ∀ a b v : Nat, (a ^^^ v) ^^^ (b ^^^ v) = a ^^^ b := fun a b v => by
      rw [Nat.xor_assoc, ← Nat.xor_assoc v, Nat.xor_comm v b, Nat.xor_assoc b, Nat.xor_self, Nat.xor_zero]
    have a2 : ∀ a w v : Nat, (a ^^^ w) ^^^ (a ^^^ v) = v ^^^ w := fun a w v => by
      rw [Nat.xor_comm a w, Nat.xor_assoc, ← Nat.xor_assoc a, Nat.xor_self, Nat.zero_xor, Nat.xor_comm]
    rwa [a1, a2] at this
  have h5 : Crc.feed c b'.toNat ^^^ Crc.feed c (l[t]).toNat = Crc.it 8 (2 ^ m) := by
    unfold Crc.feed
    rw [← Crc.it_xor, hb]
    congr 1
    generalize (l[t]).toNat = q
    rw [Nat.xor_comm c, Nat.xor_assoc, ← Nat.xor_assoc c, Nat.xor_self, Nat.zero_xor, Nat.xor_comm q, Nat.xor_assoc, Nat.xor_self, Nat.xor_zero]
  have h6 : v.toNat ^^^ (l[t + 1]).toNat < 256 := Nat.xor_lt_two_pow (n := 8) n3 n4
  have h7 := far m hm
  rw [← h5, h4] at h7
  omega
/-! ### the same of the numbers that the walk has -/
theorem nums (s : ByteArray) : (bytesOf s).map (fun n => UInt8.ofNat n.toNat) = s.data.toList := by
  unfold bytesOf
  rw [List.map_map]
  conv => rhs; rw [← List.map_id s.data.toList]
  apply List.map_congr_left
  intro b _
  simp
theorem turned (s : ByteArray) (t m : Nat) (ht : t < s.size) (hm : m < 8) (x y : Int) (hx : x = (bytesOf s).getD t 0) (hy : y = Go.bits .xor .u8 x (IntKind.u8.wrap (2 ^ m))) :
    ∃ h : t < s.data.toList.length, (UInt8.ofNat y.toNat).toNat = (s.data.toList[t]'h).toNat ^^^ 2 ^ m := by
  have hl : t < s.data.toList.length := by simpa using ht
  refine ⟨hl, ?_⟩
  have ex : x = ((s.data.toList[t]).toNat : Int) := by
    rw [hx, List.getD_eq_getElem?_getD]
    simp [bytesOf, List.getElem?_eq_getElem hl]
  have hp : (2 : Nat) ^ m < 256 := Nat.pow_lt_pow_right (by omega) hm
  have ew : IntKind.u8.wrap (2 ^ m) = ((2 ^ m : Nat) : Int) := by
    have e1 : ((2 : Int) ^ m) = ((2 ^ m : Nat) : Int) := by simp
    rw [e1]
    generalize 2 ^ m = q at hp
    have e2 : IntKind.u8.wrap (q : Int) = (q : Int) % 256 := by simp [IntKind.wrap, IntKind.signed, IntKind.bits]
    rw [e2]
    omega
  have n1 := (s.data.toList[t]).toNat_lt
  rw [hy, ex, ew, u8_xor_nat _ _ n1 hp, Int.toNat_natCast]
  have := Nat.xor_lt_two_pow (n := 8) n1 hp
  rw [UInt8.toNat_ofNat_of_lt' this]
theorem turn1 (s : ByteArray) (t m : Nat) (ht : t < s.size) (hm : m < 8) (x y : Int) (hx : x = (bytesOf s).getD t 0) (hy : y = Go.bits .xor .u8 x (IntKind.u8.wrap (2 ^ m))) :
    Crc.crc (strOfNums ((bytesOf s).set t y)).data.toList ≠ Crc.crc s.data.toList := by
  obtain ⟨hl, hb⟩ := turned s t m ht hm x y hx hy
  rw [strOfNums_data, List.map_set, nums]
  refine one _ t hl _ fun e => ?_
  rw [e] at hb
  have h0 : (s.data.toList[t]).toNat ^^^ (s.data.toList[t]).toNat = (s.data.toList[t]).toNat ^^^ ((s.data.toList[t]).toNat ^^^ 2 ^ m) := by rw [← hb]
  rw [← Nat.xor_assoc, Nat.xor_self, Nat.zero_xor] at h0
  have := Nat.two_pow_pos m
  omega
theorem turn2 (s : ByteArray) (t m : Nat) (ht : t + 1 < s.size) (hm : m < 8) (x y v : Int) (hx : x = (bytesOf s).getD t 0) (hy : y = Go.bits .xor .u8 x (IntKind.u8.wrap (2 ^ m))) :
    Crc.crc (strOfNums (((bytesOf s).set t y).set (t + 1) v)).data.toList ≠ Crc.crc s.data.toList := by
  obtain ⟨hl, hb⟩ := turned s t m (by omega) hm x y hx hy
  rw [strOfNums_data, List.map_set, List.map_set, nums]
  exact two _ t m (by simpa using ht) hm _ _ hb
/-! ### the walk's conditions -/
theorem within (n : Int) (W : World) (h0 : 0 ≤ n) (h1 : n ≤ 1000) : Calls Try.prog 13 #[.int .i64 n, .int .i64 8] W fun e w' => e = .returned (.int .i64 (n % 8)) ∧ w' = W := by
  have e1 : IntKind.u64.wrap n = n := by
    have : IntKind.u64.wrap n = n % 18446744073709551616 := by simp [IntKind.wrap, IntKind.signed, IntKind.bits]
    rw [this]
    omega
  have e2 : IntKind.u64.wrap 8 = 8 := by decide
  have e3 : Int.tmod n 8 = n % 8 := by rw [Int.tmod_eq_emod_of_nonneg h0]
  have e4 : wrap64 (n % 8) = n % 8 := by
    unfold wrap64
    omega
  go_enter Try.func13, Try.ntmps13
  go_wp2
  go_ret
  refine ⟨?_, rfl⟩
  simp [e1, e2, e3, e4]
set_option maxRecDepth 100000 in
theorem SumTurns (A0 : Option Addr) (c0 : Nat) (l0 : List ByteArray) (w : World) (hr0 : Kd.C Kd.string w A0 l0.length l0) (hc0 : l0.length ≤ c0) (hsz : ∀ s ∈ l0, s.size ≤ 140737488351232) :
    Calls Try.prog 4 #[.slice A0 l0.length c0] w fun e w' => e = .returned (.bool true) ∧ Below w.heap.size w w' :=
  walk A0 c0 l0 w hr0 hc0 hsz
    (fun s W hs => sum_Sum.calls (10 * s.size + 1) s _ W (sum_crc s hs _ (Nat.le_refl _)))
    within
    (fun W => thresherlaw2_wakes.calls 91 true W (wakes_true 91 (Nat.le_refl _)))
    ⟨fun s t m ht hm x y hx hy => turn1 s t m ht hm x y hx hy⟩
    ⟨fun s t m ht hm x y v hx hy => turn2 s t m ht hm x y v hx hy⟩
end Go.Proofs.Ytbadcpaopdbgnaa.Pure
