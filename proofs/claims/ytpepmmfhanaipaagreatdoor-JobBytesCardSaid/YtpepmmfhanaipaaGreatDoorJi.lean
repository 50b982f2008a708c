-- Put together by mergex.py out of this workplace's texts.
import Derived.Test.YtpepmmfhanaipaaGreatDoorJPJobBytesx6
import Derived.Laws.BitsAllLaws
import Derived.Laws.DeepNot64
import Derived.Lib.VarintBits
section
namespace Go.Proofs.YtpepmmfhanaipaaGreatDoor.Vint
set_option linter.unusedVariables false
set_option linter.unusedSimpArgs false
def enc (u : Nat) : List Nat := if u < 128 then [u] else (u % 128 + 128) :: enc (u / 128)
termination_by u
decreasing_by omega
theorem enc_lt {u : Nat} (h : u < 128) : enc u = [u] := by rw [enc, if_pos h]
theorem enc_ge {u : Nat} (h : ¬ u < 128) : enc u = (u % 128 + 128) :: enc (u / 128) := by rw [enc, if_neg h]
theorem enc_byte (u : Nat) : ∀ x ∈ enc u, x < 256 := by
  induction u using enc.induct with
  | case1 u h => rw [enc_lt h]; intro x hx; simp at hx; omega
  | case2 u h ih =>
    rw [enc_ge h]
    intro x hx
    rcases List.mem_cons.mp hx with rfl | hx
    · omega
    · exact ih x hx
theorem enc_len (d : Nat) : ∀ u, u < 128 ^ (d + 1) → (enc u).length ≤ d + 1 := by
  induction d with
  | zero => intro u h; rw [enc_lt (by omega)]; simp
  | succ d ih =>
    intro u h
    by_cases hu : u < 128
    · rw [enc_lt hu]; simp
    · rw [enc_ge hu]
      have h2 : u / 128 < 128 ^ (d + 1) := by
        rw [Nat.div_lt_iff_lt_mul (by omega)]
        rwa [Nat.pow_succ] at h
      have := ih _ h2
      simp only [List.length_cons]
      omega
def tk : Nat → Nat → List Nat → Nat × Nat × Int
  | _, _, [] => (0, 0, 6)
  | k, u, c :: r => if k = 9 ∧ c > 1 then (0, 0, 7) else if c ≥ 128 then tk (k + 1) (u + c % 128 * 128 ^ k) r else if c = 0 ∧ k > 0 then (0, 0, 7) else (u + c % 128 * 128 ^ k, k + 1, 0)
theorem tk_le : ∀ (l : List Nat) (k u : Nat), (tk k u l).2.1 ≤ k + l.length
  | [], _, _ => by simp [tk]
  | c :: r, k, u => by
    rw [tk]
    split
    · simp
    · split
      · have := tk_le r (k + 1) (u + c % 128 * 128 ^ k)
        simp only [List.length_cons]
        omega
      · split <;> simp
theorem tk_enc (u : Nat) : ∀ (k a : Nat) (t : List Nat), (u = 0 → k = 0) → k ≤ 9 → u * 128 ^ k < 18446744073709551616 → tk k a (enc u ++ t) = (a + u * 128 ^ k, k + (enc u).length, 0) := by
  induction u using enc.induct with
  | case1 u h =>
    intro k a t h0 hk hb
    rw [enc_lt h, List.cons_append, List.nil_append, tk]
    have h9 : ¬ (k = 9 ∧ u > 1) := by
      rintro ⟨rfl, h1⟩
      omega
    rw [if_neg h9, if_neg (by omega), if_neg (by omega)]
    rw [Nat.mod_eq_of_lt h]
    rfl
  | case2 u h ih =>
    intro k a t h0 hk hb
    rw [enc_ge h, List.cons_append, tk]
    have h8 : k ≠ 9 := by
      rintro rfl
      omega
    rw [if_neg (by omega), if_pos (by omega)]
    have hm : (u % 128 + 128) % 128 = u % 128 := by omega
    have hp : 128 ^ (k + 1) = 128 ^ k * 128 := Nat.pow_succ ..
    have hd : u * 128 ^ k = u % 128 * 128 ^ k + u / 128 * 128 ^ (k + 1) := by
      have h1 : u = u % 128 + 128 * (u / 128) := by omega
      rw [hp]
      calc u * 128 ^ k = (u % 128 + 128 * (u / 128)) * 128 ^ k := by rw [← h1]
        _ = u % 128 * 128 ^ k + u / 128 * (128 ^ k * 128) := by rw [Nat.add_mul, Nat.mul_comm 128 (u / 128), Nat.mul_assoc, Nat.mul_comm 128 (128 ^ k)]
    rw [hm, ih (k + 1) _ t (by omega) (by omega) (by omega)]
    simp only [List.length_cons, Prod.mk.injEq]
    refine ⟨?_, by omega, trivial⟩
    rw [hd]
    omega
def zz (n : Int) : Nat := if 0 ≤ n then (2 * n).toNat else (-2 * n - 1).toNat
def unzz (u : Nat) : Int := if u % 2 = 0 then (u / 2 : Nat) else -((u / 2 : Nat) : Int) - 1
theorem unzz_zz (n : Int) : unzz (zz n) = n := by
  unfold zz unzz
  by_cases h : 0 ≤ n
  · rw [if_pos h]
    rw [if_pos (by omega)]
    omega
  · rw [if_neg h]
    rw [if_neg (by omega)]
    omega
theorem zz_lt {n : Int} (h1 : -9223372036854775808 ≤ n) (h2 : n < 9223372036854775808) : zz n < 18446744073709551616 := by
  unfold zz
  split <;> omega
def take (l : List Nat) : Int × Nat × Int := match tk 0 0 l with | (u, k, e) => if e = 0 then (unzz u, k, 0) else (0, 0, e)
def bytes (n : Int) : List Nat := enc (zz n)
end Go.Proofs.YtpepmmfhanaipaaGreatDoor.Vint
end
section
namespace Go.Proofs.YtpepmmfhanaipaaGreatDoor.Pure
set_option linter.unusedVariables false
set_option linter.unusedSimpArgs false
open Go.RowKit Go.Proofs.YtpepmmfhanaipaaGreatDoor Go.Proofs.YtpepmmfhanaipaaGreatDoor.PJobBytes Go.Proofs.YtpepmmfhanaipaaGreatDoorW.PrintWords Go.Proofs.YtpepmmfhanaipaaGreatDoorW.PrintLast Go.Proofs.YtpepmmfhanaipaaGreatDoorW.PrintMore
def W64 (n : Int) : Prop := -9223372036854775808 ≤ n ∧ n < 9223372036854775808
theorem wrap_u64 (n : Int) : IntKind.u64.wrap n = n % 18446744073709551616 := by simp [IntKind.wrap, IntKind.bits, IntKind.signed]
theorem xor_ones (a : Nat) (ha : a < 18446744073709551616) : Go.bits .xor .u64 (a : Int) 18446744073709551615 = ((18446744073709551615 - a : Nat) : Int) := by
  show IntKind.u64.wrap ((BitVec.ofInt 64 (a : Int) ^^^ BitVec.ofInt 64 18446744073709551615).toNat : Int) = _
  have h1 : BitVec.ofInt 64 18446744073709551615 = BitVec.allOnes 64 := by decide
  rw [h1, BitVec.xor_allOnes, BitVec.toNat_not, ofInt_u64 a (by omega), wrap_u64]
  omega
theorem ones_xor (a : Nat) (ha : a < 18446744073709551616) : Go.bits .xor .u64 18446744073709551615 (a : Int) = ((18446744073709551615 - a : Nat) : Int) := by
  show IntKind.u64.wrap ((BitVec.ofInt 64 18446744073709551615 ^^^ BitVec.ofInt 64 (a : Int)).toNat : Int) = _
  have h1 : BitVec.ofInt 64 18446744073709551615 = BitVec.allOnes 64 := by decide
  rw [h1, BitVec.allOnes_xor, BitVec.toNat_not, ofInt_u64 a (by omega), wrap_u64]
  omega
theorem xor_zero (a : Nat) (ha : a < 18446744073709551616) : Go.bits .xor .u64 (a : Int) 0 = (a : Int) := by
  have := u64_xor_nat a 0 ha (by omega)
  rw [Nat.xor_zero] at this
  exact this
theorem turned_zz {n : Int} (h : W64 n) : num_turned.f n = some ((Vint.zz n : Nat) : Int) := by
  obtain ⟨h1, h2⟩ := h
  rw [num_turned.f]
  congr 1
  rw [wrap_u64, wrap_u64]
  unfold Vint.zz wrap64
  by_cases h0 : 0 ≤ n
  · have e1 : ((n * 2 + 9223372036854775808) % 18446744073709551616 - 9223372036854775808) % 18446744073709551616 = (((2 * n).toNat : Nat) : Int) := by omega
    have e2 : n / 9223372036854775808 % 18446744073709551616 = 0 := by omega
    rw [e1, e2, if_pos h0, xor_zero _ (by omega)]
  · have e1 : ((n * 2 + 9223372036854775808) % 18446744073709551616 - 9223372036854775808) % 18446744073709551616 = (((18446744073709551616 + 2 * n).toNat : Nat) : Int) := by omega
    have e2 : n / 9223372036854775808 % 18446744073709551616 = 18446744073709551615 := by omega
    rw [e1, e2, if_neg h0, xor_ones _ (by omega)]
    omega
theorem and_one (u : Nat) (h : u < 18446744073709551616) : Go.bits .and .u64 (u : Int) 1 = ((u % 2 : Nat) : Int) := by
  have := u64_and_nat u 1 h (by omega)
  rw [Nat.and_one_is_mod] at this
  exact this
theorem i64_xor_ones (a : Nat) (ha : a < 9223372036854775808) : Go.bits .xor .i64 (a : Int) (-1) = -1 - (a : Int) := by
  show IntKind.i64.wrap ((BitVec.ofInt 64 (a : Int) ^^^ BitVec.ofInt 64 (-1)).toNat : Int) = _
  have h1 : BitVec.ofInt 64 (-1) = BitVec.allOnes 64 := by decide
  rw [h1, BitVec.xor_allOnes, BitVec.toNat_not, ofInt_u64 a (by omega)]
  simp [IntKind.wrap, IntKind.bits, IntKind.signed]
  omega
theorem i64_xor_zero (a : Nat) (ha : a < 9223372036854775808) : Go.bits .xor .i64 (a : Int) 0 = (a : Int) := by
  show IntKind.i64.wrap ((BitVec.ofInt 64 (a : Int) ^^^ BitVec.ofInt 64 0).toNat : Int) = _
  have h1 : BitVec.ofInt 64 0 = 0#64 := by decide
  rw [h1, BitVec.xor_zero, ofInt_u64 a (by omega)]
  simp [IntKind.wrap, IntKind.bits, IntKind.signed]
  omega
theorem back_unzz (u : Nat) (h : u < 18446744073709551616) : num_back.f (u : Int) = some (Vint.unzz u) := by
  rw [num_back.f, and_one u h]
  congr 1
  unfold Vint.unzz
  have e1 : wrap64 ((u : Int) / 2) = ((u / 2 : Nat) : Int) := by unfold wrap64; omega
  rw [e1]
  by_cases h0 : u % 2 = 0
  · rw [if_pos h0, h0]
    have e2 : wrap64 (-wrap64 (((0 : Nat) : Int))) = 0 := by unfold wrap64; omega
    rw [e2, i64_xor_zero _ (by omega)]
  · rw [if_neg h0, show u % 2 = 1 from by omega]
    have e2 : wrap64 (-wrap64 (((1 : Nat) : Int))) = -1 := by unfold wrap64; omega
    rw [e2, i64_xor_ones _ (by omega)]
    omega
theorem page_back (u : Nat) (h : u < 18446744073709551616) : (if Go.bits .and .u64 (u : Int) 1 = 1 then Go.bits .xor .i64 (-1) (wrap64 ((u : Int) / 2)) else wrap64 ((u : Int) / 2)) = Vint.unzz u := by
  rw [and_one u h]
  unfold Vint.unzz
  have e1 : wrap64 ((u : Int) / 2) = ((u / 2 : Nat) : Int) := by unfold wrap64; omega
  rw [e1]
  by_cases h0 : u % 2 = 0
  · rw [if_pos h0, h0, if_neg (by omega)]
  · rw [if_neg h0, show u % 2 = 1 from by omega, if_pos (by omega), i64_not _ (by omega)]
    omega
theorem or_shl (u c k : Nat) (hk : k ≤ 9) (hu : u < 128 ^ k) (hc : c < 128) (h9 : k = 9 → c ≤ 1) : Go.bits .or .u64 (u : Int) (shl .u64 (c : Int) (((7 * k : Nat)) : Int)) = ((u + c * 128 ^ k : Nat) : Int) := by
  have hs : shl .u64 (c : Int) (((7 * k : Nat)) : Int) = ((c * 128 ^ k : Nat) : Int) := by
    unfold shl
    rw [wrap_u64]
    have : min (((7 * k : Nat)) : Int).toNat IntKind.u64.bits = 7 * k := by
      simp [IntKind.bits]
      omega
    rw [this]
    have hp : (2 : Int) ^ (7 * k) = ((128 ^ k : Nat) : Int) := by
      rw [Int.pow_mul]
      push_cast
      rfl
    rw [hp]
    have hb : c * 128 ^ k < 18446744073709551616 := by
      rcases (show k = 9 ∨ k < 9 from by omega) with rfl | h
      · have := h9 rfl
        have : c * 128 ^ 9 ≤ 1 * 128 ^ 9 := Nat.mul_le_mul_right _ this
        omega
      · have h1 : 128 ^ k ≤ 128 ^ 8 := Nat.pow_le_pow_right (by omega) (by omega)
        have h2 : c * 128 ^ k ≤ 127 * 128 ^ 8 := Nat.mul_le_mul (by omega) h1
        omega
    have : ((c : Int) * ((128 ^ k : Nat) : Int)) = ((c * 128 ^ k : Nat) : Int) := by push_cast; rfl
    rw [this]
    omega
  rw [hs]
  have h := bits_join_low .u64 64 (by decide) wraps_u64 (7 * k) (u : Int) ((c * 128 ^ k : Nat) : Int)
  have hp : (2 : Int) ^ (7 * k) = ((128 ^ k : Nat) : Int) := by
    rw [Int.pow_mul]
    push_cast
    rfl
  rw [hp] at h
  have hb : u + c * 128 ^ k < 18446744073709551616 := by
    rcases (show k = 9 ∨ k < 9 from by omega) with rfl | h
    · have := h9 rfl
      have : c * 128 ^ 9 ≤ 1 * 128 ^ 9 := Nat.mul_le_mul_right _ this
      omega
    · have h1 : 128 ^ k ≤ 128 ^ 8 := Nat.pow_le_pow_right (by omega) (by omega)
      have h2 : c * 128 ^ k ≤ 127 * 128 ^ 8 := Nat.mul_le_mul (by omega) h1
      omega
  rw [h (by omega) (by exact_mod_cast hu) (by exact_mod_cast (show u < 2 ^ 64 from by omega)) (by omega) ?_ (by exact_mod_cast (show c * 128 ^ k < 2 ^ 64 from by omega))]
  · push_cast
    rfl
  · have : (c * 128 ^ k) % 128 ^ k = 0 := Nat.mul_mod_left _ _
    exact_mod_cast this
theorem u8_and127' (c : Nat) (h : c < 256) : Go.bits .and .u8 (c : Int) 127 = ((c % 128 : Nat) : Int) := by
  rw [u8_and127 _ (by omega) (by omega)]
  omega
set_option maxRecDepth 20000 in
theorem u8_or128' (c : Nat) : Go.bits .or .u8 ((c : Int) % 256) 128 = ((c % 128 + 128 : Nat) : Int) := by
  have hm : ((c : Int) % 256) = ((c % 256 : Nat) : Int) := by omega
  rw [hm]
  have := (bits_nat .u8 8 (by decide) wraps_u8 (c % 256) 128 (by omega) (by omega)).2
  rw [show (128 : Int) = ((128 : Nat) : Int) from rfl, this]
  have h2 : ∀ x : Fin 256, x.val ||| 128 = x.val % 128 + 128 := by decide
  have h3 := h2 ⟨c % 256, by omega⟩
  simp only at h3
  rw [h3]
  omega
end Go.Proofs.YtpepmmfhanaipaaGreatDoor.Pure
end
section
namespace Go.Proofs.YtpepmmfhanaipaaGreatDoor.Pure
set_option linter.unusedVariables false
set_option linter.unusedSimpArgs false
open Go.RowKit Go.Proofs.YtpepmmfhanaipaaGreatDoor Go.Proofs.YtpepmmfhanaipaaGreatDoor.PJobBytes Go.Proofs.YtpepmmfhanaipaaGreatDoorW.PrintWords Go.Proofs.YtpepmmfhanaipaaGreatDoorW.PrintLast Go.Proofs.YtpepmmfhanaipaaGreatDoorW.PrintMore
def toks (s : ByteArray) : List Nat := s.data.toList.map (·.toNat)
theorem toks_length (s : ByteArray) : (toks s).length = s.size := by simp [toks]
theorem toks_byte (s : ByteArray) : ∀ x ∈ toks s, x < 256 := by
  intro x hx
  obtain ⟨b, _, rfl⟩ := List.mem_map.mp hx
  exact b.toNat_lt
theorem toks_at (s : ByteArray) (i : Nat) (h : i < s.size) : ∃ c : Nat, c < 256 ∧ bt s (i : Int) = (c : Int) ∧ (toks s).drop i = c :: (toks s).drop (i + 1) := by
  have hl : i < (toks s).length := by rw [toks_length]; exact h
  refine ⟨(toks s)[i], toks_byte s _ (List.getElem_mem hl), ?_, List.drop_eq_getElem_cons hl⟩
  have hb : bt s (i : Int) = ((s[i]'h).toNat : Int) := by simp [bt, h]
  rw [hb]
  simp [toks]
  rfl
theorem toks_end (s : ByteArray) (i : Nat) (h : s.size ≤ i) : (toks s).drop i = [] := List.drop_of_length_le (by rw [toks_length]; exact h)
def str (l : List Nat) : ByteArray := strOfNums (l.map fun n : Nat => (n : Int))
theorem str_size (l : List Nat) : (str l).size = l.length := by simp [str, strOfNums_size]
theorem toks_str (l : List Nat) (h : ∀ x ∈ l, x < 256) : toks (str l) = l := by
  unfold toks str
  rw [strOfNums_data, List.map_map, List.map_map]
  conv => rhs; rw [← List.map_id l]
  apply List.map_congr_left
  intro x hx
  have := h x hx
  simp
  omega
theorem str_toks (s : ByteArray) : str (toks s) = s := by
  apply ByteArray.ext
  apply Array.ext'
  unfold toks str
  rw [strOfNums_data, List.map_map, List.map_map]
  conv => rhs; rw [← List.map_id s.data.toList]
  apply List.map_congr_left
  intro x _
  simp
theorem toks_extract (s : ByteArray) (a b : Nat) : toks (s.extract a b) = ((toks s).take b).drop a := by
  simp [toks, List.map_take, List.map_drop, List.extract_eq_take_drop, List.drop_take]
theorem toks_inj {s t : ByteArray} (h : toks s = toks t) : s = t := by rw [← str_toks s, ← str_toks t, h]
def res (p : Nat × Nat × Int) : Int × Int × Int := if p.2.2 = 0 then (Vint.unzz p.1, (p.2.1 : Int), 0) else (0, 0, p.2.2)
theorem wrapN (i : Nat) (h : i < 9223372036854775807) : wrap64 ((i : Int) + 1) = ((i + 1 : Nat) : Int) := by
  unfold wrap64
  omega
theorem wrap7 (i : Nat) (h : i ≤ 9) : wrap64 (7 * (i : Int)) = ((7 * i : Nat) : Int) := by
  unfold wrap64
  omega
theorem sum_lt (u c i : Nat) (hu : u < 128 ^ i) (hc : c < 128) : u + c * 128 ^ i < 128 ^ (i + 1) := by
  rw [Nat.pow_succ]
  have : c * 128 ^ i ≤ 127 * 128 ^ i := Nat.mul_le_mul_right _ (by omega)
  omega
theorem sum_64 (u c i : Nat) (hi : i ≤ 9) (hu : u < 128 ^ i) (hc : c < 128) (h9 : i = 9 → c ≤ 1) : u + c * 128 ^ i < 18446744073709551616 := by
  rcases (show i = 9 ∨ i < 9 from by omega) with rfl | h
  · have := h9 rfl
    have : c * 128 ^ 9 ≤ 1 * 128 ^ 9 := Nat.mul_le_mul_right _ this
    omega
  · have h1 : 128 ^ (i + 1) ≤ 128 ^ 9 := Nat.pow_le_pow_right (by omega) (by omega)
    have := sum_lt u c i hu hc
    omega
theorem take_l0 (s : ByteArray) (m d : Nat) : ∀ (i u : Nat), i + d = 9 → u < 128 ^ i → num_Take.l0 (2 * d + 4 + m) s (i : Int) (u : Int) = some (res (Vint.tk i u ((toks s).drop i))) := by
  induction d with
  | zero =>
    intro i u hi hu
    obtain rfl : i = 9 := by omega
    rw [show 2 * 0 + 4 + m = (m + 3) + 1 from by omega]
    simp only [num_Take.l0]
    by_cases h : 9 < s.size
    · obtain ⟨c, hc, hb, hd⟩ := toks_at s 9 h
      rw [if_pos (by omega), if_pos (by omega), if_pos (by rfl), hd, hb, Vint.tk]
      by_cases h1 : c > 1
      · rw [if_pos ⟨rfl, h1⟩, decide_eq_true (by omega), show m + 3 = (m + 2) + 1 from rfl, num_Take.j1, if_pos rfl]
        rfl
      · rw [if_neg (by omega), if_neg (by omega), decide_eq_false (by omega), show m + 3 = (m + 2) + 1 from rfl, num_Take.j1, if_neg (by decide), u8_and127' c hc, wrap_u64]
        rw [show ((c % 128 : Nat) : Int) % 18446744073709551616 = ((c % 128 : Nat) : Int) from by omega, wrap7 9 (by omega), or_shl u (c % 128) 9 (by omega) hu (by omega) (by omega), if_pos (by omega), if_neg (by omega)]
        have h64 := sum_64 u (c % 128) 9 (by omega) hu (by omega) (by omega)
        rw [back_unzz _ h64]
        have e10 : wrap64 (((9 : Nat) : Int) + 1) = 10 := by unfold wrap64; omega
        rw [e10]
        by_cases h0 : c = 0
        · subst h0
          rw [if_pos (by rfl), if_pos (by omega), if_pos ⟨rfl, by omega⟩]
          rfl
        · rw [if_neg (by omega), if_neg (by omega)]
          rfl
    · rw [if_neg (by omega), toks_end s 9 (by omega)]
      rfl
  | succ d ih =>
    intro i u hi hu
    rw [show 2 * (d + 1) + 4 + m = ((2 * d + 4 + m) + 1) + 1 from by omega]
    simp only [num_Take.l0]
    by_cases h : i < s.size
    · obtain ⟨c, hc, hb, hd⟩ := toks_at s i h
      rw [if_pos (by omega), if_pos (by omega), if_neg (by omega), hd, hb, Vint.tk, if_neg (by omega), num_Take.j1, if_neg (by decide), u8_and127' c hc, wrap_u64]
      rw [show ((c % 128 : Nat) : Int) % 18446744073709551616 = ((c % 128 : Nat) : Int) from by omega, wrap7 i (by omega), or_shl u (c % 128) i (by omega) hu (by omega) (by omega), if_pos (by omega)]
      have h64 := sum_64 u (c % 128) i (by omega) hu (by omega) (by omega)
      rw [wrapN i (by omega)]
      by_cases h1 : c ≥ 128
      · rw [if_pos (by omega), if_pos h1]
        exact ih (i + 1) _ (by omega) (sum_lt u (c % 128) i hu (by omega))
      · rw [if_neg (by omega), if_neg h1, back_unzz _ h64]
        by_cases h0 : c = 0
        · subst h0
          rw [if_pos (by rfl)]
          by_cases hk : i > 0
          · rw [if_pos (by omega), if_pos ⟨rfl, hk⟩]
            rfl
          · rw [if_neg (by omega), if_neg (by omega)]
            rfl
        · rw [if_neg (by omega), if_neg (by omega)]
          rfl
    · rw [if_neg (by omega), toks_end s i (by omega)]
      rfl
theorem take_code (s : ByteArray) (k : Nat) (hk : 22 ≤ k) : num_Take.f k s = some (res (Vint.tk 0 0 (toks s))) := by
  obtain ⟨m, rfl⟩ := Nat.exists_eq_add_of_le hk
  exact take_l0 s m 9 0 0 rfl (by decide)
theorem j2_t (m : Nat) (x i : Int) : thresherref1_Take.j2 (m + 1) x i true = some (0, 0, 7) := by
  rw [thresherref1_Take.j2, if_pos rfl]
theorem j2_f (m u i : Nat) (hi : i < 1000) (hu : u < 18446744073709551616) : thresherref1_Take.j2 (m + 1) (u : Int) (i : Int) false = some (Vint.unzz u, ((i + 1 : Nat) : Int), 0) := by
  rw [thresherref1_Take.j2, if_neg (by decide), wrapN i (by omega), ← page_back u hu]
  split <;> rfl
theorem page_l0 (s : ByteArray) (m d : Nat) : ∀ (i u : Nat), i + d = 9 → u < 128 ^ i → thresherref1_Take.l0 (2 * d + 4 + m) s (u : Int) (i : Int) = some (res (Vint.tk i u ((toks s).drop i))) := by
  induction d with
  | zero =>
    intro i u hi hu
    obtain rfl : i = 9 := by omega
    rw [show 2 * 0 + 4 + m = (((m + 1) + 1) + 1) + 1 from by omega]
    simp only [thresherref1_Take.l0]
    rw [if_pos (by omega)]
    by_cases h : 9 < s.size
    · obtain ⟨c, hc, hb, hd⟩ := toks_at s 9 h
      rw [if_neg (by omega), if_pos (by omega), if_pos (by omega), if_pos (by rfl), hd, hb, Vint.tk, wrap_u64, show (c : Int) % 18446744073709551616 = (c : Int) from by omega]
      by_cases h1 : c > 1
      · rw [if_pos ⟨rfl, h1⟩, decide_eq_true (by omega), thresherref1_Take.j1, if_pos rfl]
        rfl
      · rw [if_neg (by omega), if_neg (by omega), decide_eq_false (by omega), thresherref1_Take.j1, if_neg (by decide), Int.tmod_eq_emod_of_nonneg (by omega)]
        rw [show (c : Int) % 128 = ((c % 128 : Nat) : Int) from by omega, wrap7 9 (by omega), or_shl u (c % 128) 9 (by omega) hu (by omega) (by omega), if_pos (by omega), if_pos (by omega)]
        have h64 := sum_64 u (c % 128) 9 (by omega) hu (by omega) (by omega)
        by_cases h0 : c = 0
        · subst h0
          rw [if_pos (by rfl), decide_eq_true (by omega), j2_t, if_pos ⟨rfl, by omega⟩]
          rfl
        · rw [if_neg (by omega), j2_f _ _ _ (by omega) h64, if_neg (by omega)]
          rfl
    · rw [if_pos (by omega), toks_end s 9 (by omega)]
      rfl
  | succ d ih =>
    intro i u hi hu
    rw [show 2 * (d + 1) + 4 + m = ((2 * d + 4 + m) + 1) + 1 from by omega]
    simp only [thresherref1_Take.l0]
    rw [if_pos (by omega)]
    by_cases h : i < s.size
    · obtain ⟨c, hc, hb, hd⟩ := toks_at s i h
      rw [if_neg (by omega), if_pos (by omega), if_pos (by omega), if_neg (by omega), hd, hb, Vint.tk, if_neg (by omega), wrap_u64, show (c : Int) % 18446744073709551616 = (c : Int) from by omega, thresherref1_Take.j1, if_neg (by decide), Int.tmod_eq_emod_of_nonneg (by omega)]
      rw [show (c : Int) % 128 = ((c % 128 : Nat) : Int) from by omega, wrap7 i (by omega), or_shl u (c % 128) i (by omega) hu (by omega) (by omega), if_pos (by omega)]
      have h64 := sum_64 u (c % 128) i (by omega) hu (by omega) (by omega)
      by_cases h1 : c ≥ 128
      · rw [if_neg (by omega), if_pos h1, wrapN i (by omega)]
        exact ih (i + 1) _ (by omega) (sum_lt u (c % 128) i hu (by omega))
      · rw [if_pos (by omega), if_neg h1, show 2 * d + 4 + m = (2 * d + 3 + m) + 1 from by omega]
        by_cases h0 : c = 0
        · subst h0
          rw [if_pos (by rfl)]
          by_cases hk : i > 0
          · rw [decide_eq_true (by omega), j2_t, if_pos ⟨rfl, hk⟩]
            rfl
          · rw [decide_eq_false (by omega), j2_f _ _ _ (by omega) h64, if_neg (by omega)]
            rfl
        · rw [if_neg (by omega), j2_f _ _ _ (by omega) h64, if_neg (by omega)]
          rfl
    · rw [if_pos (by omega), toks_end s i (by omega)]
      rfl
theorem take_page (s : ByteArray) (k : Nat) (hk : 22 ≤ k) : thresherref1_Take.f k s = some (res (Vint.tk 0 0 (toks s))) := by
  obtain ⟨m, rfl⟩ := Nat.exists_eq_add_of_le hk
  exact page_l0 s m 9 0 0 rfl (by decide)
def nb (n : Int) : ByteArray := str (Vint.bytes n)
theorem bytes_l0 (m u : Nat) : ∀ acc : List Int, acc.length + (Vint.enc u).length ≤ 1000 → num_Bytes.l0 ((Vint.enc u).length + m) (u : Int) acc = some (strOfNums (acc ++ (Vint.enc u).map fun n : Nat => (n : Int))) := by
  induction u using Vint.enc.induct with
  | case1 u h =>
    intro acc ha
    rw [Vint.enc_lt h] at *
    rw [show [u].length + m = m + 1 from by simp; omega]
    simp only [num_Bytes.l0, List.length_cons, List.length_nil] at *
    rw [if_neg (by omega), if_pos (by omega), show (u : Int) % 256 = (u : Int) from by omega]
    rfl
  | case2 u h ih =>
    intro acc ha
    rw [Vint.enc_ge h] at *
    simp only [List.length_cons] at *
    rw [show (Vint.enc (u / 128)).length + 1 + m = ((Vint.enc (u / 128)).length + m) + 1 from by omega]
    simp only [num_Bytes.l0]
    rw [if_pos (by omega), if_pos (by omega), u8_or128', show (u : Int) / 128 = ((u / 128 : Nat) : Int) from by omega, ih _ (by simp; omega)]
    simp
theorem page_bytes_l0 (m u : Nat) (hu : u < 18446744073709551616) : ∀ acc : List Int, acc.length + (Vint.enc u).length ≤ 1000 → thresherref1_Bytes.l0 ((Vint.enc u).length + m) (u : Int) acc = some (strOfNums (acc ++ (Vint.enc u).map fun n : Nat => (n : Int))) := by
  induction u using Vint.enc.induct with
  | case1 u h =>
    intro acc ha
    rw [Vint.enc_lt h] at *
    rw [show [u].length + m = m + 1 from by simp; omega]
    simp only [thresherref1_Bytes.l0, List.length_cons, List.length_nil] at *
    rw [if_neg (by omega), if_pos (by omega), show (u : Int) % 256 = (u : Int) from by omega]
    rfl
  | case2 u h ih =>
    intro acc ha
    rw [Vint.enc_ge h] at *
    simp only [List.length_cons] at *
    rw [show (Vint.enc (u / 128)).length + 1 + m = ((Vint.enc (u / 128)).length + m) + 1 from by omega]
    simp only [thresherref1_Bytes.l0]
    rw [if_pos (by omega), if_pos (by omega), Int.tdiv_eq_ediv_of_nonneg (by omega), Int.tmod_eq_emod_of_nonneg (by omega), wrap_u64, wrap_u64]
    rw [show ((u : Int) % 128 + 128) % 18446744073709551616 % 256 = ((u % 128 + 128 : Nat) : Int) from by omega, show (u : Int) / 128 % 18446744073709551616 = ((u / 128 : Nat) : Int) from by omega, ih (by omega) _ (by simp; omega)]
    simp
theorem bytes_len {n : Int} (h : W64 n) : (Vint.bytes n).length ≤ 10 := Vint.enc_len 9 _ (by have := Vint.zz_lt h.1 h.2; omega)
theorem bytes_byte (n : Int) : ∀ x ∈ Vint.bytes n, x < 256 := Vint.enc_byte _
theorem nb_size {n : Int} (h : W64 n) : (nb n).size ≤ 10 := by
  unfold nb
  rw [str_size]
  exact bytes_len h
theorem bytes_code {n : Int} (h : W64 n) (k : Nat) (hk : 10 ≤ k) : num_Bytes.f k n = some (nb n) := by
  rw [num_Bytes.f, turned_zz h, Option.bind_some]
  have hl := bytes_len h
  unfold Vint.bytes at hl
  obtain ⟨m, rfl⟩ : ∃ m, k = (Vint.enc (Vint.zz n)).length + m := ⟨k - (Vint.enc (Vint.zz n)).length, by omega⟩
  rw [bytes_l0 m (Vint.zz n) [] (by simp; omega)]
  rfl
theorem bytes_page {n : Int} (h : W64 n) (k : Nat) (hk : 11 ≤ k) : thresherref13_num.f k n = some (nb n) := by
  have hl := bytes_len h
  unfold Vint.bytes at hl
  have hz : (if n < 0 then Go.bits .xor .u64 18446744073709551615 (IntKind.u64.wrap ((IntKind.u64.wrap n) * 2)) else IntKind.u64.wrap ((IntKind.u64.wrap n) * 2)) = ((Vint.zz n : Nat) : Int) := by
    obtain ⟨h1, h2⟩ := h
    rw [wrap_u64, wrap_u64]
    unfold Vint.zz
    by_cases h0 : 0 ≤ n
    · rw [if_neg (by omega), if_pos h0]
      omega
    · rw [if_pos (by omega), if_neg h0, show n % 18446744073709551616 * 2 % 18446744073709551616 = (((18446744073709551616 + 2 * n).toNat : Nat) : Int) from by omega, ones_xor _ (by omega)]
      omega
  obtain ⟨m, rfl⟩ : ∃ m, k = ((Vint.enc (Vint.zz n)).length + m) + 1 := ⟨k - 1 - (Vint.enc (Vint.zz n)).length, by omega⟩
  have hf : thresherref1_Bytes.f (((Vint.enc (Vint.zz n)).length + m) + 1) n = thresherref1_Bytes.j0 (((Vint.enc (Vint.zz n)).length + m) + 1) ((Vint.zz n : Nat) : Int) := by
    rw [← hz, thresherref1_Bytes.f]
    split <;> rfl
  rw [thresherref13_num.f, hf, thresherref1_Bytes.j0, page_bytes_l0 m (Vint.zz n) (Vint.zz_lt h.1 h.2) [] (by simp; omega)]
  rfl
end Go.Proofs.YtpepmmfhanaipaaGreatDoor.Pure
end
section
namespace Go.Proofs.YtpepmmfhanaipaaGreatDoor.Pure
set_option linter.unusedVariables false
set_option linter.unusedSimpArgs false
open Go.RowKit Go.Proofs.YtpepmmfhanaipaaGreatDoor Go.Proofs.YtpepmmfhanaipaaGreatDoor.PJobBytes Go.Proofs.YtpepmmfhanaipaaGreatDoorW.PrintWords Go.Proofs.YtpepmmfhanaipaaGreatDoorW.PrintLast Go.Proofs.YtpepmmfhanaipaaGreatDoorW.PrintMore
theorem wrapP (i : Nat) (h : 1 ≤ i) (h2 : i < 9223372036854775807) : wrap64 ((i : Int) - 1) = ((i - 1 : Nat) : Int) := by
  unfold wrap64
  omega
theorem rising_eq (l : List Int) (c : Int) : ∀ (k : Nat) (i : Int), split_Rising.l0 k l c l (l.length : Int) i = thresherref0_Rising.l0 k l 1 c i
  | 0, _ => rfl
  | k + 1, i => by
    simp only [split_Rising.l0, thresherref0_Rising.l0, rising_eq l c k]
    by_cases h : i < (l.length : Int)
    · simp only [if_pos h]
    · simp only [if_neg h]
theorem rising_some (l : List Int) (a c : Int) (hl : l.length ≤ 1000) (d : Nat) : ∀ i : Nat, i + d = l.length → ∃ b, ∀ m, thresherref0_Rising.l0 (d + 1 + m) l a c (i : Int) = some b := by
  induction d with
  | zero =>
    intro i hi
    refine ⟨true, fun m => ?_⟩
    rw [show 0 + 1 + m = m + 1 from by omega, thresherref0_Rising.l0, if_neg (by omega)]
  | succ d ih =>
    intro i hi
    obtain ⟨b, hb⟩ := ih (i + 1) (by omega)
    by_cases h1 : rd l (i : Int) < a
    · refine ⟨false, fun m => ?_⟩
      rw [show d + 1 + 1 + m = (d + 1 + m) + 1 from by omega, thresherref0_Rising.l0, if_pos (by omega), if_pos (by omega), if_pos h1]
    · by_cases h2 : rd l (i : Int) > c
      · refine ⟨false, fun m => ?_⟩
        rw [show d + 1 + 1 + m = (d + 1 + m) + 1 from by omega, thresherref0_Rising.l0, if_pos (by omega), if_pos (by omega), if_neg h1, if_pos h2]
      · by_cases h0 : i = 0
        · refine ⟨b, fun m => ?_⟩
          rw [show d + 1 + 1 + m = (d + 1 + m) + 1 from by omega, thresherref0_Rising.l0, if_pos (by omega), if_pos (by omega), if_neg h1, if_neg h2, if_neg (by omega), wrapN i (by omega)]
          exact hb m
        · by_cases h3 : rd l (wrap64 ((i : Int) - 1)) ≥ rd l (i : Int)
          · refine ⟨false, fun m => ?_⟩
            rw [show d + 1 + 1 + m = (d + 1 + m) + 1 from by omega, thresherref0_Rising.l0, if_pos (by omega), if_pos (by omega), if_neg h1, if_neg h2, if_pos (by omega)]
            rw [wrapP i (by omega) (by omega)] at *
            rw [if_pos (by omega), if_pos (by omega), if_pos h3]
          · refine ⟨b, fun m => ?_⟩
            rw [show d + 1 + 1 + m = (d + 1 + m) + 1 from by omega, thresherref0_Rising.l0, if_pos (by omega), if_pos (by omega), if_neg h1, if_neg h2, if_pos (by omega)]
            rw [wrapP i (by omega) (by omega)] at *
            rw [if_pos (by omega), if_pos (by omega), if_neg h3, wrapN i (by omega)]
            exact hb m
theorem way_eq (a b : Int) : cell_May.f a b = thresherref9_Way.f a b := rfl
theorem job_dec (a0 : Int) (a1 : ByteArray) (a2 a3 a4 : Int) (l : List Int) (a6 : Int) :
    (((a1.size : Int) ≤ 512 ∧ l.length ≤ 6) ∧ ∀ k, 8 ≤ k → thresherref13_Job.f k a0 a1 a2 a3 a4 l a6 = some true ∧ job_Check.f k a0 a1 a2 a3 a4 l a6 = some 0) ∨
    (∀ k, 8 ≤ k → thresherref13_Job.f k a0 a1 a2 a3 a4 l a6 = some false ∧ job_Check.f k a0 a1 a2 a3 a4 l a6 = some 1) := by
  have hway : ∃ b, thresherref9_Way.f a2 a3 = some b := by
    unfold thresherref9_Way.f
    split
    · split <;> exact ⟨_, rfl⟩
    · split
      · split <;> exact ⟨_, rfl⟩
      · exact ⟨_, rfl⟩
  obtain ⟨bw, hway⟩ := hway
  simp only [thresherref13_Job.f, job_Check.f, local_May.f, way_eq, thresherref0_ID.f, thresherref0_Num.f, thresherref11_MayParts.f, split_Rising.f, thresherref0_Rising.f, rising_eq, hway, Option.bind_some]
  by_cases h0 : a0 ≥ 1
  case neg => exact .inr fun k _ => by simp [h0]
  by_cases h1 : a0 ≤ 1048576
  case neg => exact .inr fun k _ => by simp [h0, h1]
  by_cases h2 : (a1.size : Int) ≤ 512
  case neg => exact .inr fun k _ => by simp [h0, h1, h2]
  cases bw
  case false => exact .inr fun k _ => by simp [h0, h1, h2]
  by_cases h4 : a4 ≥ 0
  case neg => exact .inr fun k _ => by simp [h0, h1, h2, h4]
  by_cases h5 : a4 ≤ 2000
  case neg => exact .inr fun k _ => by simp [h0, h1, h2, h4, h5]
  by_cases h6 : (l.length : Int) ≥ 1
  case neg => exact .inr fun k _ => by simp only [h0, h1, h2, h4, h5, h6, if_true, if_false, decide_true, Option.bind_some, and_self]
  by_cases h7 : (l.length : Int) ≤ 6
  case neg => exact .inr fun k _ => by simp only [h0, h1, h2, h4, h5, h6, h7, if_true, if_false, decide_true, Option.bind_some, and_self]
  obtain ⟨b, hb⟩ := rising_some l 1 1048576 (by omega) l.length 0 (by omega)
  have hb' : ∀ k, 8 ≤ k → thresherref0_Rising.l0 k l 1 1048576 0 = some b := fun k hk => by
    have := hb (k - l.length - 1)
    rw [show l.length + 1 + (k - l.length - 1) = k from by omega] at this
    exact this
  cases b
  case false => exact .inr fun k hk => by simp only [h0, h1, h2, h4, h5, h6, h7, hb' k hk, if_true, if_false, decide_true, Option.bind_some, and_self, Bool.false_eq_true]
  by_cases h8 : a6 ≥ 1
  case neg => exact .inr fun k hk => by simp only [h0, h1, h2, h4, h5, h6, h7, h8, hb' k hk, if_true, if_false, decide_true, Option.bind_some, and_self, show a6 < 1 from by omega]
  by_cases h9 : a6 ≤ 8
  case neg => exact .inr fun k hk => by simp only [h0, h1, h2, h4, h5, h6, h7, h8, h9, hb' k hk, if_true, if_false, decide_true, decide_false, Option.bind_some, and_self, show ¬ a6 < 1 from by omega, show a6 > 8 from by omega]
  exact .inl ⟨⟨h2, by omega⟩, fun k hk => by simp only [h0, h1, h2, h4, h5, h6, h7, h8, h9, hb' k hk, if_true, if_false, decide_true, Option.bind_some, and_self, show ¬ a6 < 1 from by omega, show ¬ a6 > 8 from by omega]⟩
theorem str_append (a b : List Nat) : str a ++ str b = str (a ++ b) := by
  apply ByteArray.ext
  apply Array.ext'
  unfold str
  simp [strOfNums_data]
theorem app_nil (x : ByteArray) : x ++ (⟨#[]⟩ : ByteArray) = x := by
  apply ByteArray.ext
  apply Array.ext'
  simp
theorem nil_app (x : ByteArray) : (⟨#[]⟩ : ByteArray) ++ x = x := by
  apply ByteArray.ext
  apply Array.ext'
  simp
theorem str_nil : str [] = (⟨#[]⟩ : ByteArray) := rfl
def rowB (l : List Int) : List Nat := l.flatMap Vint.bytes
theorem rowB_len (l : List Int) (h : ∀ x ∈ l, W64 x) : (rowB l).length ≤ 10 * l.length := by
  induction l with
  | nil => simp [rowB]
  | cons x l ih =>
    have h1 := bytes_len (h x (by simp))
    have h2 := ih (fun y hy => h y (by simp [hy]))
    simp only [rowB, List.flatMap_cons, List.length_append, List.length_cons] at *
    omega
theorem rd_at (l : List Int) (i : Nat) (h : i < l.length) : l.drop i = rd l (i : Int) :: l.drop (i + 1) ∧ rd l (i : Int) ∈ l := by
  have e : rd l (i : Int) = l[i] := by simp [rd, List.getD_eq_getElem?_getD, h]
  rw [e]
  exact ⟨List.drop_eq_getElem_cons h, List.getElem_mem h⟩
theorem row_l0 (l : List Int) (h : ∀ x ∈ l, W64 x) (hl : l.length ≤ 1000) (m d : Nat) : ∀ (i : Nat) (x : ByteArray), i + d = l.length → x.size ≤ 100000 + 10 * i →
    num_Row_int.l0 (d + 11 + m) x l (l.length : Int) (i : Int) = some (x ++ str (rowB (l.drop i))) := by
  induction d with
  | zero =>
    intro i x hi hx
    rw [show 0 + 11 + m = (m + 10) + 1 from by omega, num_Row_int.l0, if_neg (by omega), List.drop_of_length_le (by omega)]
    rw [show rowB [] = [] from rfl, str_nil, app_nil]
  | succ d ih =>
    intro i x hi hx
    obtain ⟨hd, hm⟩ := rd_at l i (by omega)
    have hs := nb_size (h _ hm)
    rw [show d + 1 + 11 + m = (d + 11 + m) + 1 from by omega, num_Row_int.l0, if_pos (by omega), if_pos (by omega), if_pos (by omega), bytes_code (h _ hm) _ (by omega), Option.bind_some, if_pos (by omega), wrapN i (by omega), ih (i + 1) _ (by omega) (by rw [ByteArray.size_append]; omega), hd]
    rw [ByteArray.append_assoc, nb, str_append]
    rfl
theorem row_code (l : List Int) (h : ∀ x ∈ l, W64 x) (hl : l.length ≤ 6) (k : Nat) (hk : 20 ≤ k) : num_Row_int.f k l = some (str (rowB l)) := by
  have := row_l0 l h (by omega) (k - l.length - 11) l.length 0 (⟨#[]⟩ : ByteArray) (by omega) (by simp [ByteArray.size])
  rw [show l.length + 11 + (k - l.length - 11) = k from by omega] at this
  rw [num_Row_int.f]
  refine this.trans ?_
  rw [nil_app]
  rfl
def jobB (a0 : Int) (a1 : ByteArray) (a2 a3 a4 : Int) (l : List Int) (a6 : Int) : List Nat :=
  Vint.bytes a0 ++ (Vint.bytes (a1.size : Int) ++ (toks a1 ++ (Vint.bytes a2 ++ (Vint.bytes a3 ++ (Vint.bytes a4 ++ (Vint.bytes (l.length : Int) ++ (rowB l ++ Vint.bytes a6)))))))
theorem jobB_len (a0 : Int) (a1 : ByteArray) (a2 a3 a4 : Int) (l : List Int) (a6 : Int) (h0 : W64 a0) (h2 : W64 a2) (h3 : W64 a3) (h4 : W64 a4) (h6 : W64 a6) (hl : ∀ x ∈ l, W64 x) (hs : (a1.size : Int) ≤ 512) (hn : l.length ≤ 6) : (jobB a0 a1 a2 a3 a4 l a6).length ≤ 1000 := by
  have := bytes_len h0
  have := bytes_len h2
  have := bytes_len h3
  have := bytes_len h4
  have := bytes_len h6
  have := bytes_len (show W64 (a1.size : Int) from ⟨by omega, by omega⟩)
  have := bytes_len (show W64 (l.length : Int) from ⟨by omega, by omega⟩)
  have := rowB_len l hl
  have := toks_length a1
  simp only [jobB, List.length_append]
  omega
theorem jobBytes_code (a0 : Int) (a1 : ByteArray) (a2 a3 a4 : Int) (l : List Int) (a6 : Int) (h0 : W64 a0) (h2 : W64 a2) (h3 : W64 a3) (h4 : W64 a4) (h6 : W64 a6) (hl : ∀ x ∈ l, W64 x) (hs : (a1.size : Int) ≤ 512) (hn : l.length ≤ 6) (k : Nat) (hk : 20 ≤ k)
    (hc : job_Check.f k a0 a1 a2 a3 a4 l a6 = some 0) : job_Bytes.f k a0 a1 a2 a3 a4 l a6 = some (str (jobB a0 a1 a2 a3 a4 l a6), 0) := by
  have hz : W64 (a1.size : Int) := ⟨by omega, by omega⟩
  have hn' : W64 (l.length : Int) := ⟨by omega, by omega⟩
  have r1 := row_code [a0, (a1.size : Int)] (by simp [h0, hz]) (by simp) k hk
  have r2 := row_code [a2, a3, a4, (l.length : Int)] (by simp [h2, h3, h4, hn']) (by simp) k hk
  have r3 := row_code l hl hn k hk
  have r4 := row_code [a6] (by simp [h6]) (by simp) k hk
  have b1 := rowB_len [a0, (a1.size : Int)] (by simp [h0, hz])
  have b2 := rowB_len [a2, a3, a4, (l.length : Int)] (by simp [h2, h3, h4, hn'])
  have b3 := rowB_len l hl
  have b4 := rowB_len [a6] (by simp [h6])
  simp only [List.length_cons, List.length_nil] at b1 b2 b4
  simp only [job_Bytes.f, hc, Option.bind_some, r1, r2, r3, r4, if_true, ByteArray.size_append, str_size]
  rw [if_pos (by omega), if_pos (by omega), if_pos (by omega), if_pos (by omega)]
  congr 2
  conv => lhs; rw [← str_toks a1]
  simp only [str_append, jobB, rowB, List.flatMap_cons, List.flatMap_nil, List.append_nil, List.append_assoc, toks_length, str_size]
theorem jobBytes_bad (a0 : Int) (a1 : ByteArray) (a2 a3 a4 : Int) (l : List Int) (a6 : Int) (k : Nat) (hc : job_Check.f k a0 a1 a2 a3 a4 l a6 = some 1) : job_Bytes.f k a0 a1 a2 a3 a4 l a6 = some ((⟨#[]⟩ : ByteArray), 1) := by
  simp only [job_Bytes.f, hc, Option.bind_some]
  rw [if_neg (by omega)]
theorem page_row (a0 : Int) (a1 : ByteArray) (a2 a3 a4 : Int) (l : List Int) (a6 : Int) (h : ∀ x ∈ l, W64 x) (h6 : W64 a6) (hl : l.length ≤ 1000) (m d : Nat) : ∀ (i : Nat) (x : ByteArray), i + d = l.length → x.size ≤ 100000 + 10 * i →
    thresherref13_Bytes.l0 (d + 12 + m) x (i : Int) a0 a1 a2 a3 a4 l a6 = some (x ++ str (rowB (l.drop i) ++ Vint.bytes a6)) := by
  induction d with
  | zero =>
    intro i x hi hx
    have hs := nb_size h6
    rw [show 0 + 12 + m = (m + 11) + 1 from by omega, thresherref13_Bytes.l0, if_neg (by omega), List.drop_of_length_le (by omega), bytes_page h6 _ (by omega), Option.bind_some, if_pos (by omega)]
    rfl
  | succ d ih =>
    intro i x hi hx
    obtain ⟨hd, hm⟩ := rd_at l i (by omega)
    have hs := nb_size (h _ hm)
    rw [show d + 1 + 12 + m = (d + 12 + m) + 1 from by omega, thresherref13_Bytes.l0, if_pos (by omega), if_pos (by omega), bytes_page (h _ hm) _ (by omega), Option.bind_some, if_pos (by omega), wrapN i (by omega), ih (i + 1) _ (by omega) (by rw [ByteArray.size_append]; omega), hd]
    rw [ByteArray.append_assoc, nb, str_append, ← List.append_assoc]
    rfl
theorem jobBytes_page (a0 : Int) (a1 : ByteArray) (a2 a3 a4 : Int) (l : List Int) (a6 : Int) (h0 : W64 a0) (h2 : W64 a2) (h3 : W64 a3) (h4 : W64 a4) (h6 : W64 a6) (hl : ∀ x ∈ l, W64 x) (hs : (a1.size : Int) ≤ 512) (hn : l.length ≤ 6) (k : Nat) (hk : 30 ≤ k) :
    thresherref13_Bytes.f k a0 a1 a2 a3 a4 l a6 = some (str (jobB a0 a1 a2 a3 a4 l a6)) := by
  have hz : W64 (a1.size : Int) := ⟨by omega, by omega⟩
  have hn' : W64 (l.length : Int) := ⟨by omega, by omega⟩
  have b0 := nb_size h0
  have b1 := nb_size hz
  have b2 := nb_size h2
  have b3 := nb_size h3
  have b4 := nb_size h4
  have b5 := nb_size hn'
  have r := page_row a0 a1 a2 a3 a4 l a6 hl h6 (by omega) (k - l.length - 12) l.length 0 (nb a0 ++ nb (a1.size : Int) ++ a1 ++ nb a2 ++ nb a3 ++ nb a4 ++ nb (l.length : Int)) (by omega) (by simp only [ByteArray.size_append]; omega)
  rw [show l.length + 12 + (k - l.length - 12) = k from by omega] at r
  simp only [thresherref13_Bytes.f, bytes_page h0 k (by omega), bytes_page hz k (by omega), bytes_page h2 k (by omega), bytes_page h3 k (by omega), bytes_page h4 k (by omega), bytes_page hn' k (by omega), Option.bind_some, ByteArray.size_append]
  rw [if_pos (by omega), if_pos (by omega), if_pos (by omega), if_pos (by omega), if_pos (by omega), if_pos (by omega)]
  refine r.trans ?_
  congr 1
  conv => lhs; rw [← str_toks a1]
  simp only [nb, str_append, jobB, List.append_assoc, toks_length, str_size, List.drop_zero]
end Go.Proofs.YtpepmmfhanaipaaGreatDoor.Pure
end
section
namespace Go.Proofs.YtpepmmfhanaipaaGreatDoor.Pure
set_option linter.unusedVariables false
set_option linter.unusedSimpArgs false
open Go.RowKit Go.Proofs.YtpepmmfhanaipaaGreatDoor Go.Proofs.YtpepmmfhanaipaaGreatDoor.PJobBytes Go.Proofs.YtpepmmfhanaipaaGreatDoorW.PrintWords Go.Proofs.YtpepmmfhanaipaaGreatDoorW.PrintLast Go.Proofs.YtpepmmfhanaipaaGreatDoorW.PrintMore
theorem extract_all (s : ByteArray) : s.extract 0 s.size = s := by
  apply toks_inj
  rw [toks_extract, List.drop_zero, List.take_of_length_le (by rw [toks_length]; omega)]
def rnum (s : ByteArray) (e : Int) : Int × ByteArray × Int :=
  if e = 0 then ((res (Vint.tk 0 0 (toks s))).1, s.extract (res (Vint.tk 0 0 (toks s))).2.1.toNat s.size, (res (Vint.tk 0 0 (toks s))).2.2) else (0, s, e)
theorem res_le (s : ByteArray) : 0 ≤ (res (Vint.tk 0 0 (toks s))).2.1 ∧ (res (Vint.tk 0 0 (toks s))).2.1 ≤ (s.size : Int) := by
  have h := Vint.tk_le (toks s) 0 0
  rw [toks_length] at h
  unfold res
  split
  · simp only
    omega
  · simp only
    omega
theorem res_bad (s : ByteArray) (h : (res (Vint.tk 0 0 (toks s))).2.2 ≠ 0) : (res (Vint.tk 0 0 (toks s))).1 = 0 ∧ (res (Vint.tk 0 0 (toks s))).2.1 = 0 := by
  unfold res at *
  split
  · rename_i h0
    rw [if_pos h0] at h
    exact absurd rfl h
  · exact ⟨rfl, rfl⟩
theorem num_code (s : ByteArray) (e : Int) (k : Nat) (hk : 22 ≤ k) : job_reader_number.f k s e = some (rnum s e) := by
  unfold job_reader_number.f rnum
  by_cases h : e = 0
  · rw [if_pos h, if_pos h, take_code s k hk, Option.bind_some, if_pos (res_le s).1, if_pos (res_le s).2]
  · rw [if_neg h, if_neg h]
theorem num_page (s : ByteArray) (e : Int) (k : Nat) (hk : 22 ≤ k) : thresherref13_reader_num.f k s e = some (rnum s e) := by
  unfold thresherref13_reader_num.f rnum
  by_cases h : e = 0
  · rw [if_pos h, if_pos h, take_page s k hk, Option.bind_some]
    by_cases h2 : (res (Vint.tk 0 0 (toks s))).2.2 = 0
    · rw [if_pos h2, if_pos (res_le s).1, if_pos (res_le s).2, h2, h]
    · obtain ⟨h3, h4⟩ := res_bad s h2
      rw [if_neg h2, h3, h4]
      rw [show (0 : Int).toNat = 0 from rfl, extract_all]
  · rw [if_neg h, if_neg h]
theorem rnum_bad (s : ByteArray) (e : Int) (h : e ≠ 0) : rnum s e = (0, s, e) := by
  unfold rnum
  rw [if_neg h]
theorem rnum_back {n : Int} (h : W64 n) (t : List Nat) (ht : ∀ x ∈ t, x < 256) : rnum (str (Vint.bytes n ++ t)) 0 = (n, str t, 0) := by
  have hb : toks (str (Vint.bytes n ++ t)) = Vint.bytes n ++ t := toks_str _ (by
    intro x hx
    rcases List.mem_append.mp hx with hx | hx
    · exact bytes_byte n x hx
    · exact ht x hx)
  have htk := Vint.tk_enc (Vint.zz n) 0 0 t (fun _ => rfl) (by omega) (by rw [Nat.pow_zero, Nat.mul_one]; exact Vint.zz_lt h.1 h.2)
  have hz : (0 + Vint.zz n * 128 ^ 0) = Vint.zz n := by rw [Nat.pow_zero]; omega
  rw [hz, Nat.zero_add] at htk
  unfold rnum
  rw [if_pos rfl, hb]
  unfold Vint.bytes
  rw [htk]
  unfold res
  simp only [if_true, Vint.unzz_zz, Int.toNat_natCast]
  congr 2
  apply toks_inj
  rw [toks_extract, toks_str t ht]
  rw [show Vint.enc (Vint.zz n) = Vint.bytes n from rfl, hb, str_size, List.take_of_length_le (by omega)]
  simp
def zr (e : Int) : Int × ByteArray × Int × Int × Int × List Int × Int × Int := (0, (⟨#[]⟩ : ByteArray), 0, 0, 0, ([] : List Int), 0, e)
theorem many_bad (s : ByteArray) (e lim : Int) (h : e ≠ 0) (k : Nat) (hk : 22 ≤ k) : job_reader_many.f k s e lim = some (0, s, e) := by
  obtain ⟨m, rfl⟩ : ∃ m, k = m + 1 := ⟨k - 1, by omega⟩
  rw [job_reader_many.f, num_code s e _ hk, rnum_bad s e h, Option.bind_some, if_neg h, job_reader_many.j0, if_neg (by decide), if_neg h]
theorem text_bad (s : ByteArray) (e n : Int) (h : e ≠ 0) (k : Nat) (hk : 1 ≤ k) : job_reader_text.f k s e n = some ((⟨#[]⟩ : ByteArray), s, e) := by
  obtain ⟨m, rfl⟩ : ∃ m, k = m + 1 := ⟨k - 1, by omega⟩
  rw [job_reader_text.f, if_neg h, job_reader_text.j0, if_neg (by decide), if_neg h]
theorem many_code (s : ByteArray) (e lim : Int) (v : Int) (s' : ByteArray) (e' : Int) (hr : rnum s e = (v, s', e')) (k : Nat) (hk : 22 ≤ k) :
    job_reader_many.f k s e lim = some (if e' = 0 then (if v < 0 ∨ v > lim then (0, s', 7) else (v, s', 0)) else (0, s', e')) := by
  obtain ⟨m, rfl⟩ : ∃ m, k = m + 1 := ⟨k - 1, by omega⟩
  rw [job_reader_many.f, num_code s e _ hk, hr, Option.bind_some]
  simp only [job_reader_many.j0]
  by_cases h : e' = 0
  · subst h
    rw [if_pos rfl, if_pos rfl]
    by_cases h1 : v < 0
    · simp [h1]
    · by_cases h2 : v > lim
      · simp [h1, h2]
      · simp [h1, h2]
  · rw [if_neg h, if_neg h, if_neg (by decide), if_neg h]
theorem text_code (s : ByteArray) (n : Int) (h0 : 0 ≤ n) (k : Nat) (hk : 1 ≤ k) : job_reader_text.f k s 0 n = some (if n > (s.size : Int) then ((⟨#[]⟩ : ByteArray), s, 6) else (s.extract 0 n.toNat, s.extract n.toNat s.size, 0)) := by
  obtain ⟨m, rfl⟩ : ∃ m, k = m + 1 := ⟨k - 1, by omega⟩
  rw [job_reader_text.f, if_pos rfl, job_reader_text.j0]
  by_cases h : n > (s.size : Int)
  · rw [decide_eq_true h, if_pos rfl, if_neg (by omega), if_pos h]
  · rw [decide_eq_false h, if_neg (by decide), if_pos rfl, if_pos h0, if_pos (by omega), if_neg h]
theorem tail_bad (m : Int) (a0 : Int) (a1 : ByteArray) (a2 a3 a4 : Int) (a6 : Int) (s : ByteArray) (e : Int) (he : e ≠ 0) (j : Nat) (d : Nat) : ∀ (i : Nat) (l : List Int), (i : Int) + d = m → i + d ≤ 100 → l.length ≤ 100 + i →
    job_Take.l0 (d + 23 + j) m (i : Int) s e a0 a1 a2 a3 a4 l a6 = some (zr e) := by
  induction d with
  | zero =>
    intro i l hi _ hl
    rw [show 0 + 23 + j = (j + 22) + 1 from by omega, job_Take.l0, if_neg (by omega), num_code s e _ (by omega), rnum_bad s e he, Option.bind_some, if_neg he]
    rfl
  | succ d ih =>
    intro i l hi h6 hl
    rw [show d + 1 + 23 + j = (d + 23 + j) + 1 from by omega, job_Take.l0, if_pos (by omega), num_code s e _ (by omega), rnum_bad s e he, Option.bind_some, if_pos (by omega), wrapN i (by omega)]
    exact ih (i + 1) _ (by omega) (by omega) (by simp; omega)
theorem last_bad (a0 : Int) (a1 : ByteArray) (a2 a3 a4 : Int) (l : List Int) (a6 : Int) (s : ByteArray) (e : Int) (he : e ≠ 0) (k : Nat) (hk : 23 ≤ k) : thresherref13_Take.j5 k s e a0 a1 a2 a3 a4 l a6 = some (zr e) := by
  obtain ⟨m, rfl⟩ : ∃ m, k = m + 1 := ⟨k - 1, by omega⟩
  rw [thresherref13_Take.j5, num_page s e _ (by omega), rnum_bad s e he, Option.bind_some, if_neg he]
  rfl
theorem page_tail_bad (n : Int) (a0 : Int) (a1 : ByteArray) (a2 a3 a4 : Int) (l : List Int) (a6 : Int) (s : ByteArray) (e i : Int) (he : e ≠ 0) (k : Nat) (hk : 24 ≤ k) : thresherref13_Take.l0 k n i s e a0 a1 a2 a3 a4 l a6 = some (zr e) := by
  obtain ⟨m, rfl⟩ : ∃ m, k = m + 1 := ⟨k - 1, by omega⟩
  rw [thresherref13_Take.l0, last_bad a0 a1 a2 a3 a4 l a6 s e he m (by omega)]
  split <;> first | rfl | rw [if_neg he]
theorem toList_nil (s : ByteArray) : s.toList = ([] : List UInt8) ↔ ¬ (s.size : Int) > 0 := by
  rw [ByteArray.toList_eq]
  have hl := data_length s
  constructor
  · intro h
    rw [h] at hl
    simp at hl
    omega
  · intro h
    apply List.eq_nil_of_length_eq_zero
    omega
def Short (r : Int × ByteArray × Int × Int × Int × List Int × Int × Int) : Prop := r.2.2.2.2.2.1.length ≤ 6
theorem zr_short (e : Int) : Short (zr e) := by simp [Short, zr]
theorem tail_both (m : Int) (a0 : Int) (a1 : ByteArray) (a2 a3 a4 : Int) (d : Nat) : ∀ (i : Nat) (l : List Int) (s : ByteArray) (e : Int), (i : Int) + d = m → i + d ≤ 6 → l.length = i →
    ∃ r, Short r ∧ ∀ k, d + 30 ≤ k → job_Take.l0 k m (i : Int) s e a0 a1 a2 a3 a4 l 0 = some r ∧ thresherref13_Take.l0 k m (i : Int) s e a0 a1 a2 a3 a4 l 0 = some r := by
  induction d with
  | zero =>
    intro i l s e hi h6 hl
    by_cases he : e = 0
    · subst he
      rcases hr : rnum s 0 with ⟨p, s', e'⟩
      by_cases he : e' = 0
      · subst he
        by_cases hs : s'.toList = ([] : List UInt8)
        · rcases job_dec a0 a1 a2 a3 a4 l p with ⟨_, hj⟩ | hj
          · refine ⟨(a0, a1, a2, a3, a4, l, p, 0), by simp [Short]; omega, fun k hk => ?_⟩
            obtain ⟨k, rfl⟩ : ∃ k', k = k' + 2 := ⟨k - 2, by omega⟩
            obtain ⟨hj1, hj2⟩ := hj (k + 1) (by omega)
            obtain ⟨hj3, hj4⟩ := hj k (by omega)
            rw [job_Take.l0, thresherref13_Take.l0, if_neg (by omega), if_neg (by omega), thresherref13_Take.j5, num_code s 0 _ (by omega), num_page s 0 _ (by omega), hr]
            simp only [Option.bind_some, hj2, hj3]
            rw [if_pos trivial, if_pos hs, if_pos trivial, if_pos trivial, if_neg ((toList_nil s').mp hs)]
            exact ⟨rfl, rfl⟩
          · refine ⟨zr 7, zr_short _, fun k hk => ?_⟩
            obtain ⟨k, rfl⟩ : ∃ k', k = k' + 2 := ⟨k - 2, by omega⟩
            obtain ⟨hj1, hj2⟩ := hj (k + 1) (by omega)
            obtain ⟨hj3, hj4⟩ := hj k (by omega)
            rw [job_Take.l0, thresherref13_Take.l0, if_neg (by omega), if_neg (by omega), thresherref13_Take.j5, num_code s 0 _ (by omega), num_page s 0 _ (by omega), hr]
            simp only [Option.bind_some, hj2, hj3]
            rw [if_pos trivial, if_pos hs, if_neg (by omega), if_pos trivial, if_neg ((toList_nil s').mp hs), if_neg (by decide)]
            exact ⟨rfl, rfl⟩
        · refine ⟨zr 7, zr_short _, fun k hk => ?_⟩
          obtain ⟨k, rfl⟩ : ∃ k', k = k' + 2 := ⟨k - 2, by omega⟩
          rw [job_Take.l0, thresherref13_Take.l0, if_neg (by omega), if_neg (by omega), thresherref13_Take.j5, num_code s 0 _ (by omega), num_page s 0 _ (by omega), hr]
          simp only [Option.bind_some]
          rw [if_pos trivial, if_neg hs, if_pos trivial, if_pos (Decidable.not_not.mp (fun h => hs ((toList_nil s').mpr h)))]
          exact ⟨rfl, rfl⟩
      · refine ⟨zr e', zr_short _, fun k hk => ?_⟩
        obtain ⟨k, rfl⟩ : ∃ k', k = k' + 2 := ⟨k - 2, by omega⟩
        rw [job_Take.l0, thresherref13_Take.l0, if_neg (by omega), if_neg (by omega), thresherref13_Take.j5, num_code s 0 _ (by omega), num_page s 0 _ (by omega), hr]
        simp only [Option.bind_some]
        rw [if_neg he, if_neg he]
        exact ⟨rfl, rfl⟩
    · refine ⟨zr e, zr_short _, fun k hk => ⟨?_, page_tail_bad m a0 a1 a2 a3 a4 l 0 s e _ he k (by omega)⟩⟩
      have := tail_bad m a0 a1 a2 a3 a4 0 s e he (k - 23) 0 i l hi (by omega) (by omega)
      rwa [show 0 + 23 + (k - 23) = k from by omega] at this
  | succ d ih =>
    intro i l s e hi h6 hl
    by_cases he : e = 0
    · subst he
      rcases hr : rnum s 0 with ⟨v, s', e'⟩
      obtain ⟨r, hs, h⟩ := ih (i + 1) (l ++ [v]) s' e' (by omega) (by omega) (by simp [hl])
      refine ⟨r, hs, fun k hk => ?_⟩
      obtain ⟨k, rfl⟩ : ∃ k', k = k' + 1 := ⟨k - 1, by omega⟩
      obtain ⟨h1, h2⟩ := h k (by omega)
      rw [job_Take.l0, thresherref13_Take.l0, if_pos (by omega), if_pos (by omega), if_pos rfl, num_code s 0 _ (by omega), num_page s 0 _ (by omega), hr]
      simp only [Option.bind_some]
      rw [if_pos (by omega), if_pos (by omega), wrapN i (by omega)]
      exact ⟨h1, h2⟩
    · refine ⟨zr e, zr_short _, fun k hk => ⟨?_, page_tail_bad m a0 a1 a2 a3 a4 l 0 s e _ he k (by omega)⟩⟩
      have := tail_bad m a0 a1 a2 a3 a4 0 s e he (k - 23 - (d + 1)) (d + 1) i l hi (by omega) (by omega)
      rwa [show d + 1 + 23 + (k - 23 - (d + 1)) = k from by omega] at this
theorem mid_both (a0 : Int) (a1 : ByteArray) (s : ByteArray) (e : Int) : ∃ r, Short r ∧ ∀ k, 50 ≤ k →
    ((job_reader_number.f k s e).bind fun bt190 => ((job_reader_number.f k bt190.2.1 bt190.2.2).bind fun bt193 => ((job_reader_number.f k bt193.2.1 bt193.2.2).bind fun bt196 => ((job_reader_many.f k bt196.2.1 bt196.2.2 6).bind fun bt199 => (job_Take.l0 k bt199.1 0 bt199.2.1 bt199.2.2 a0 a1 bt190.1 bt193.1 bt196.1 ([] : List Int) 0))))) = some r ∧
    thresherref13_Take.j2 k s e a0 a1 0 0 0 0 = some r := by
  rcases h1 : rnum s e with ⟨x, s1, e1⟩
  rcases h2 : rnum s1 e1 with ⟨y, s2, e2⟩
  rcases h3 : rnum s2 e2 with ⟨z, s3, e3⟩
  rcases h4 : rnum s3 e3 with ⟨m, s4, e4⟩
  have code : ∀ k, 50 ≤ k → ((job_reader_number.f k s e).bind fun bt190 => ((job_reader_number.f k bt190.2.1 bt190.2.2).bind fun bt193 => ((job_reader_number.f k bt193.2.1 bt193.2.2).bind fun bt196 => ((job_reader_many.f k bt196.2.1 bt196.2.2 6).bind fun bt199 => (job_Take.l0 k bt199.1 0 bt199.2.1 bt199.2.2 a0 a1 bt190.1 bt193.1 bt196.1 ([] : List Int) 0))))) = (some (if e4 = 0 then (if m < 0 ∨ m > 6 then (0, s4, 7) else (m, s4, 0)) else (0, s4, e4))).bind fun bt199 => (job_Take.l0 k bt199.1 0 bt199.2.1 bt199.2.2 a0 a1 x y z ([] : List Int) 0) := by
    intro k hk
    rw [num_code s e k (by omega), h1, Option.bind_some, num_code s1 e1 k (by omega), h2, Option.bind_some, num_code s2 e2 k (by omega), h3, Option.bind_some, many_code s3 e3 6 m s4 e4 h4 k (by omega)]
  have page : ∀ k, 50 ≤ k → thresherref13_Take.j2 (k + 1) s e a0 a1 0 0 0 0 = if e4 = 0 then (if m < 0 then (thresherref13_Take.j3 k m true s4 e4 a0 a1 x y z 0) else (thresherref13_Take.j3 k m (decide (m > 6)) s4 e4 a0 a1 x y z 0)) else (thresherref13_Take.j3 k m false s4 e4 a0 a1 x y z 0) := by
    intro k hk
    rw [thresherref13_Take.j2, num_page s e k (by omega), h1, Option.bind_some, num_page s1 e1 k (by omega), h2, Option.bind_some, num_page s2 e2 k (by omega), h3, Option.bind_some, num_page s3 e3 k (by omega), h4, Option.bind_some]
  by_cases he : e4 = 0
  · by_cases hm : m < 0 ∨ m > 6
    · refine ⟨zr 7, zr_short _, fun k hk => ⟨?_, ?_⟩⟩
      · rw [code k hk, if_pos he, if_pos hm, Option.bind_some]
        have := tail_bad 0 a0 a1 x y z 0 s4 7 (by omega) (k - 23) 0 0 [] (by omega) (by omega) (by simp)
        rwa [show 0 + 23 + (k - 23) = k from by omega] at this
      · obtain ⟨k, rfl⟩ : ∃ k', k = k' + 2 := ⟨k - 2, by omega⟩
        rcases Nat.lt_or_ge k 49 with hk2 | hk2
        · obtain rfl : k = 48 := by omega
          rw [thresherref13_Take.j2, num_page s e _ (by omega), h1, Option.bind_some, num_page s1 e1 _ (by omega), h2, Option.bind_some, num_page s2 e2 _ (by omega), h3, Option.bind_some, num_page s3 e3 _ (by omega), h4, Option.bind_some]
          simp only
          rw [if_pos he]
          rcases hm with hm | hm
          · rw [if_pos hm, thresherref13_Take.j3, if_pos rfl]
            rfl
          · rw [if_neg (by omega), decide_eq_true hm, thresherref13_Take.j3, if_pos rfl]
            rfl
        · rw [page (k + 1) (by omega), if_pos he]
          rcases hm with hm | hm
          · rw [if_pos hm, thresherref13_Take.j3, if_pos rfl]
            rfl
          · rw [if_neg (by omega), decide_eq_true hm, thresherref13_Take.j3, if_pos rfl]
            rfl
    · obtain ⟨r, hs, h⟩ := tail_both m a0 a1 x y z m.toNat 0 [] s4 e4 (by omega) (by omega) rfl
      refine ⟨r, hs, fun k hk => ⟨?_, ?_⟩⟩
      · rw [code k hk, if_pos he, if_neg hm, Option.bind_some]
        subst he
        exact (h k (by omega)).1
      · obtain ⟨k, rfl⟩ : ∃ k', k = k' + 2 := ⟨k - 2, by omega⟩
        rw [thresherref13_Take.j2, num_page s e _ (by omega), h1, Option.bind_some, num_page s1 e1 _ (by omega), h2, Option.bind_some, num_page s2 e2 _ (by omega), h3, Option.bind_some, num_page s3 e3 _ (by omega), h4, Option.bind_some]
        simp only
        rw [if_pos he, if_neg (by omega), decide_eq_false (by omega), thresherref13_Take.j3, if_neg (by decide)]
        exact (h k (by omega)).2
  · refine ⟨zr e4, zr_short _, fun k hk => ⟨?_, ?_⟩⟩
    · rw [code k hk, if_neg he, Option.bind_some]
      have := tail_bad 0 a0 a1 x y z 0 s4 e4 he (k - 23) 0 0 [] (by omega) (by omega) (by simp)
      rwa [show 0 + 23 + (k - 23) = k from by omega] at this
    · obtain ⟨k, rfl⟩ : ∃ k', k = k' + 2 := ⟨k - 2, by omega⟩
      rw [thresherref13_Take.j2, num_page s e _ (by omega), h1, Option.bind_some, num_page s1 e1 _ (by omega), h2, Option.bind_some, num_page s2 e2 _ (by omega), h3, Option.bind_some, num_page s3 e3 _ (by omega), h4, Option.bind_some]
      simp only
      rw [if_neg he, thresherref13_Take.j3, if_neg (by decide)]
      exact page_tail_bad m a0 a1 x y z [] 0 s4 e4 0 he k (by omega)
theorem mid_bad (a0 : Int) (a1 : ByteArray) (s : ByteArray) (e : Int) (he : e ≠ 0) (k : Nat) (hk : 50 ≤ k) :
    ((job_reader_number.f k s e).bind fun bt190 => ((job_reader_number.f k bt190.2.1 bt190.2.2).bind fun bt193 => ((job_reader_number.f k bt193.2.1 bt193.2.2).bind fun bt196 => ((job_reader_many.f k bt196.2.1 bt196.2.2 6).bind fun bt199 => (job_Take.l0 k bt199.1 0 bt199.2.1 bt199.2.2 a0 a1 bt190.1 bt193.1 bt196.1 ([] : List Int) 0))))) = some (zr e) := by
  simp only [num_code s e k (by omega), rnum_bad s e he, Option.bind_some, many_bad s e 6 he k (by omega)]
  have := tail_bad 0 a0 a1 0 0 0 0 s e he (k - 23) 0 0 [] (by omega) (by omega) (by simp)
  rwa [show 0 + 23 + (k - 23) = k from by omega] at this
theorem page_mid_bad (a0 : Int) (a1 : ByteArray) (s : ByteArray) (e : Int) (he : e ≠ 0) (k : Nat) (hk : 50 ≤ k) : thresherref13_Take.j2 k s e a0 a1 0 0 0 0 = some (zr e) := by
  obtain ⟨k, rfl⟩ : ∃ k', k = k' + 2 := ⟨k - 2, by omega⟩
  simp only [thresherref13_Take.j2, num_page s e (k + 1) (by omega), rnum_bad s e he, Option.bind_some]
  rw [if_neg he, thresherref13_Take.j3, if_neg (by decide)]
  exact page_tail_bad 0 a0 a1 0 0 0 [] 0 s e 0 he k (by omega)
theorem take_both (s : ByteArray) : ∃ r, Short r ∧ ∀ k, 60 ≤ k → job_Take.f k s = some r ∧ thresherref13_Take.f k s = some r := by
  rcases h1 : rnum s 0 with ⟨id, s1, e1⟩
  rcases h2 : rnum s1 e1 with ⟨n, s2, e2⟩
  by_cases he : e2 = 0
  · subst he
    by_cases hn : n < 0 ∨ n > 512
    · refine ⟨zr 7, zr_short _, fun k hk => ⟨?_, ?_⟩⟩
      · rw [job_Take.f, num_code s 0 k (by omega), h1, Option.bind_some, many_code s1 e1 512 n s2 0 h2 k (by omega), if_pos rfl, if_pos hn, Option.bind_some, text_bad s2 7 0 (by omega) k (by omega), Option.bind_some]
        exact mid_bad id _ s2 7 (by omega) k (by omega)
      · obtain ⟨k, rfl⟩ : ∃ k', k = k' + 1 := ⟨k - 1, by omega⟩
        rw [thresherref13_Take.f, num_page s 0 _ (by omega), h1, Option.bind_some, num_page s1 e1 _ (by omega), h2, Option.bind_some]
        simp only [if_true]
        rcases hn with hn | hn
        · rw [if_pos hn, thresherref13_Take.j0, if_pos rfl]
          rfl
        · rw [if_neg (by omega), decide_eq_true hn, thresherref13_Take.j0, if_pos rfl]
          rfl
    · by_cases hb : n > (s2.size : Int)
      · refine ⟨zr 6, zr_short _, fun k hk => ⟨?_, ?_⟩⟩
        · rw [job_Take.f, num_code s 0 k (by omega), h1, Option.bind_some, many_code s1 e1 512 n s2 0 h2 k (by omega), if_pos rfl, if_neg hn, Option.bind_some, text_code s2 n (by omega) k (by omega), if_pos hb, Option.bind_some]
          exact mid_bad id _ s2 6 (by omega) k (by omega)
        · obtain ⟨k, rfl⟩ : ∃ k', k = k' + 2 := ⟨k - 2, by omega⟩
          rw [thresherref13_Take.f, num_page s 0 _ (by omega), h1, Option.bind_some, num_page s1 e1 _ (by omega), h2, Option.bind_some]
          simp only [if_true]
          rw [if_neg (by omega), decide_eq_false (by omega), thresherref13_Take.j0, if_neg (by decide), if_pos rfl, decide_eq_true hb, thresherref13_Take.j1, if_pos rfl]
          rfl
      · obtain ⟨r, hs, h⟩ := mid_both id (s2.extract 0 n.toNat) (s2.extract n.toNat s2.size) 0
        refine ⟨r, hs, fun k hk => ⟨?_, ?_⟩⟩
        · rw [job_Take.f, num_code s 0 k (by omega), h1, Option.bind_some, many_code s1 e1 512 n s2 0 h2 k (by omega), if_pos rfl, if_neg hn, Option.bind_some, text_code s2 n (by omega) k (by omega), if_neg hb, Option.bind_some]
          exact (h k (by omega)).1
        · obtain ⟨k, rfl⟩ : ∃ k', k = k' + 2 := ⟨k - 2, by omega⟩
          rw [thresherref13_Take.f, num_page s 0 _ (by omega), h1, Option.bind_some, num_page s1 e1 _ (by omega), h2, Option.bind_some]
          simp only [if_true]
          rw [if_neg (by omega), decide_eq_false (by omega), thresherref13_Take.j0, if_neg (by decide), if_pos rfl, decide_eq_false hb, thresherref13_Take.j1, if_neg (by decide), if_pos rfl, if_pos (by omega), if_pos (by omega)]
          exact (h k (by omega)).2
  · refine ⟨zr e2, zr_short _, fun k hk => ⟨?_, ?_⟩⟩
    · rw [job_Take.f, num_code s 0 k (by omega), h1, Option.bind_some, many_code s1 e1 512 n s2 e2 h2 k (by omega), if_neg he, Option.bind_some, text_bad s2 e2 0 he k (by omega), Option.bind_some]
      exact mid_bad id _ s2 e2 he k (by omega)
    · obtain ⟨k, rfl⟩ : ∃ k', k = k' + 2 := ⟨k - 2, by omega⟩
      rw [thresherref13_Take.f, num_page s 0 _ (by omega), h1, Option.bind_some, num_page s1 e1 _ (by omega), h2, Option.bind_some]
      simp only
      rw [if_neg he, thresherref13_Take.j0, if_neg (by decide), if_neg he, thresherref13_Take.j1, if_neg (by decide), if_neg he]
      exact page_mid_bad id _ s2 e2 he k (by omega)
end Go.Proofs.YtpepmmfhanaipaaGreatDoor.Pure
end
section
namespace Go.Proofs.YtpepmmfhanaipaaGreatDoor.Pure
set_option linter.unusedVariables false
set_option linter.unusedSimpArgs false
open Go.RowKit Go.Proofs.YtpepmmfhanaipaaGreatDoor Go.Proofs.YtpepmmfhanaipaaGreatDoor.PJobBytes Go.Proofs.YtpepmmfhanaipaaGreatDoorW.PrintWords Go.Proofs.YtpepmmfhanaipaaGreatDoorW.PrintLast Go.Proofs.YtpepmmfhanaipaaGreatDoorW.PrintMore
def B8 (l : List Nat) : Prop := ∀ x ∈ l, x < 256
theorem B8.app {a b : List Nat} (h : B8 a) (k : B8 b) : B8 (a ++ b) := by
  intro x hx
  rcases List.mem_append.mp hx with hx | hx
  · exact h x hx
  · exact k x hx
theorem b8_bytes (n : Int) : B8 (Vint.bytes n) := bytes_byte n
theorem b8_toks (s : ByteArray) : B8 (toks s) := toks_byte s
theorem b8_row (l : List Int) : B8 (rowB l) := by
  intro x hx
  obtain ⟨n, _, hn⟩ := List.mem_flatMap.mp hx
  exact bytes_byte n x hn
theorem b8_nil : B8 [] := by
  intro x hx
  simp at hx
theorem row_back (a0 : Int) (a1 : ByteArray) (a2 a3 a4 : Int) (l : List Int) (a6 : Int) (h6 : W64 a6) (hl : ∀ x ∈ l, W64 x) (hn : l.length ≤ 6)
    (hc : ∀ k, 8 ≤ k → job_Check.f k a0 a1 a2 a3 a4 l a6 = some 0) (d : Nat) : ∀ i : Nat, i + d = l.length → ∀ k, d + 30 ≤ k →
    job_Take.l0 k (l.length : Int) (i : Int) (str (rowB (l.drop i) ++ Vint.bytes a6)) 0 a0 a1 a2 a3 a4 (l.take i) 0 = some (a0, a1, a2, a3, a4, l, a6, 0) := by
  induction d with
  | zero =>
    intro i hi k hk
    obtain ⟨k, rfl⟩ : ∃ k', k = k' + 1 := ⟨k - 1, by omega⟩
    have hr := rnum_back h6 [] b8_nil
    rw [List.append_nil] at hr
    rw [job_Take.l0, if_neg (by omega), num_code _ 0 k (by omega), List.drop_of_length_le (by omega), List.take_of_length_le (by omega)]
    rw [show rowB [] ++ Vint.bytes a6 = Vint.bytes a6 from rfl, hr, Option.bind_some, if_pos rfl, if_pos ((toList_nil _).mpr (by rw [str_size]; simp)), hc k (by omega), Option.bind_some, if_pos rfl]
  | succ d ih =>
    intro i hi k hk
    obtain ⟨k, rfl⟩ : ∃ k', k = k' + 1 := ⟨k - 1, by omega⟩
    obtain ⟨hd, hm⟩ := rd_at l i (by omega)
    have hr := rnum_back (hl _ hm) (rowB (l.drop (i + 1)) ++ Vint.bytes a6) ((b8_row _).app (b8_bytes _))
    rw [job_Take.l0, if_pos (by omega), num_code _ 0 k (by omega), hd]
    rw [show rowB (rd l (i : Int) :: l.drop (i + 1)) ++ Vint.bytes a6 = Vint.bytes (rd l (i : Int)) ++ (rowB (l.drop (i + 1)) ++ Vint.bytes a6) from by simp [rowB], hr, Option.bind_some, if_pos (by simp; omega), wrapN i (by omega)]
    have e : l.take i ++ [rd l (i : Int)] = l.take (i + 1) := by
      have hi' : i < l.length := by omega
      have : rd l (i : Int) = l[i] := by simp [rd, List.getD_eq_getElem?_getD, hi']
      rw [this, List.take_succ_eq_append_getElem hi']
    rw [e]
    exact ih (i + 1) (by omega) k (by omega)
theorem take_back (a0 : Int) (a1 : ByteArray) (a2 a3 a4 : Int) (l : List Int) (a6 : Int) (h0 : W64 a0) (h2 : W64 a2) (h3 : W64 a3) (h4 : W64 a4) (h6 : W64 a6) (hl : ∀ x ∈ l, W64 x) (hs : (a1.size : Int) ≤ 512) (hn : l.length ≤ 6)
    (hc : ∀ k, 8 ≤ k → job_Check.f k a0 a1 a2 a3 a4 l a6 = some 0) (k : Nat) (hk : 60 ≤ k) : job_Take.f k (str (jobB a0 a1 a2 a3 a4 l a6)) = some (a0, a1, a2, a3, a4, l, a6, 0) := by
  have hz : W64 (a1.size : Int) := ⟨by omega, by omega⟩
  have hn' : W64 (l.length : Int) := ⟨by omega, by omega⟩
  have b7 : B8 (rowB l ++ Vint.bytes a6) := (b8_row _).app (b8_bytes _)
  have b6 := (b8_bytes (l.length : Int)).app b7
  have b5 := (b8_bytes a4).app b6
  have b4 := (b8_bytes a3).app b5
  have b3 := (b8_bytes a2).app b4
  have b2 := (b8_toks a1).app b3
  have b1 := (b8_bytes (a1.size : Int)).app b2
  have r0 := rnum_back h0 _ b1
  have r1 := rnum_back hz _ b2
  have r2 := rnum_back h2 _ b4
  have r3 := rnum_back h3 _ b5
  have r4 := rnum_back h4 _ b6
  have r5 := rnum_back hn' _ b7
  rw [jobB, job_Take.f, num_code _ 0 k (by omega), r0, Option.bind_some, many_code _ 0 512 _ _ _ r1 k (by omega), if_pos rfl, if_neg (by omega), Option.bind_some]
  have ht : toks (str (toks a1 ++ (Vint.bytes a2 ++ (Vint.bytes a3 ++ (Vint.bytes a4 ++ (Vint.bytes (l.length : Int) ++ (rowB l ++ Vint.bytes a6))))))) = toks a1 ++ (Vint.bytes a2 ++ (Vint.bytes a3 ++ (Vint.bytes a4 ++ (Vint.bytes (l.length : Int) ++ (rowB l ++ Vint.bytes a6))))) := toks_str _ b2
  have hsz : ((str (toks a1 ++ (Vint.bytes a2 ++ (Vint.bytes a3 ++ (Vint.bytes a4 ++ (Vint.bytes (l.length : Int) ++ (rowB l ++ Vint.bytes a6))))))).size : Int) = (a1.size : Int) + ((Vint.bytes a2 ++ (Vint.bytes a3 ++ (Vint.bytes a4 ++ (Vint.bytes (l.length : Int) ++ (rowB l ++ Vint.bytes a6))))).length : Int) := by
    rw [str_size, List.length_append, toks_length]
    omega
  rw [text_code _ _ (by omega) k (by omega), if_neg (by rw [hsz]; omega), Option.bind_some]
  have e1 : (str (toks a1 ++ (Vint.bytes a2 ++ (Vint.bytes a3 ++ (Vint.bytes a4 ++ (Vint.bytes (l.length : Int) ++ (rowB l ++ Vint.bytes a6))))))).extract 0 (a1.size : Int).toNat = a1 := by
    apply toks_inj
    rw [toks_extract, ht, Int.toNat_natCast, List.drop_zero, ← toks_length a1, List.take_left']
    rfl
  have e2 : (str (toks a1 ++ (Vint.bytes a2 ++ (Vint.bytes a3 ++ (Vint.bytes a4 ++ (Vint.bytes (l.length : Int) ++ (rowB l ++ Vint.bytes a6))))))).extract (a1.size : Int).toNat (str (toks a1 ++ (Vint.bytes a2 ++ (Vint.bytes a3 ++ (Vint.bytes a4 ++ (Vint.bytes (l.length : Int) ++ (rowB l ++ Vint.bytes a6))))))).size = str (Vint.bytes a2 ++ (Vint.bytes a3 ++ (Vint.bytes a4 ++ (Vint.bytes (l.length : Int) ++ (rowB l ++ Vint.bytes a6))))) := by
    apply toks_inj
    rw [toks_extract, toks_str _ b3, ht, Int.toNat_natCast, str_size, List.take_of_length_le (Nat.le_refl _), ← toks_length a1, List.drop_left']
    rfl
  simp only [e1, e2]
  rw [num_code _ 0 k (by omega), r2, Option.bind_some, num_code _ 0 k (by omega), r3, Option.bind_some, num_code _ 0 k (by omega), r4, Option.bind_some, many_code _ 0 6 _ _ _ r5 k (by omega), if_pos rfl, if_neg (by omega), Option.bind_some]
  exact row_back a0 a1 a2 a3 a4 l a6 h6 hl hn hc l.length 0 (by omega) k (by omega)
theorem eqnums_self (l : List Int) (hl : l.length ≤ 1000) (d : Nat) : ∀ i : Nat, i + d = l.length → ∀ k, d + 1 ≤ k → thresherref0_EqNumbers.l0 k l l (i : Int) = some true := by
  induction d with
  | zero =>
    intro i hi k hk
    obtain ⟨k, rfl⟩ : ∃ k', k = k' + 1 := ⟨k - 1, by omega⟩
    rw [thresherref0_EqNumbers.l0, if_neg (by omega)]
  | succ d ih =>
    intro i hi k hk
    obtain ⟨k, rfl⟩ : ∃ k', k = k' + 1 := ⟨k - 1, by omega⟩
    rw [thresherref0_EqNumbers.l0, if_pos (by omega), if_pos (by omega), if_pos (by omega), if_pos rfl, wrapN i (by omega)]
    exact ih (i + 1) (by omega) k (by omega)
theorem eqjob_self (a0 : Int) (a1 : ByteArray) (a2 a3 a4 : Int) (l : List Int) (a6 : Int) (hl : l.length ≤ 6) (k : Nat) (hk : 8 ≤ k) : thresherref0_EqJob.f k a0 a1 a2 a3 a4 l a6 a0 a1 a2 a3 a4 l a6 = some true := by
  rw [thresherref0_EqJob.f, if_pos rfl, if_pos rfl, if_pos rfl, if_pos rfl, if_pos rfl, thresherref0_EqNumbers.f, if_pos rfl, show (0 : Int) = ((0 : Nat) : Int) from rfl, eqnums_self l (by omega) l.length 0 (by omega) k (by omega), Option.bind_some, if_pos rfl]
  simp
theorem weight_l0 (a0 : Int) (l : List S123) (a2 a3 : Int) (hl : l.length ≤ 140737488355328) (d : Nat) : ∀ (i : Nat) (x : Int), i + d = l.length → ∃ v, ∀ m, thresherlaw0_ConfigWeight.l0 (d + 1 + m) x (i : Int) a0 l a2 a3 = some v := by
  induction d with
  | zero =>
    intro i x hi
    refine ⟨x, fun m => ?_⟩
    rw [show 0 + 1 + m = m + 1 from by omega, thresherlaw0_ConfigWeight.l0, if_neg (by omega)]
  | succ d ih =>
    intro i x hi
    by_cases hx : x < 1048576
    · obtain ⟨v, hv⟩ := ih (i + 1) (wrap64 ((wrap64 (x + (((rd_T123 l (i : Int)).f1).size : Int))) + (((rd_T123 l (i : Int)).f2).length : Int))) (by omega)
      refine ⟨v, fun m => ?_⟩
      rw [show d + 1 + 1 + m = (d + 1 + m) + 1 from by omega, thresherlaw0_ConfigWeight.l0, if_pos (by omega), if_pos hx, if_pos (by omega), wrapN i (by omega)]
      exact hv m
    · refine ⟨x, fun m => ?_⟩
      rw [show d + 1 + 1 + m = (d + 1 + m) + 1 from by omega, thresherlaw0_ConfigWeight.l0, if_pos (by omega), if_neg hx]
theorem heavy12 (a0 : Int) (l : List S123) (a2 a3 : Int) (l4 : List Int) (hl : l.length ≤ 140737488355328) : ∃ b, ∀ k, l.length + 1 ≤ k → thresherlaw12_Heavy.f k a0 l a2 a3 l4 = some b := by
  obtain ⟨v, hv⟩ := weight_l0 a0 l a2 a3 hl l.length 0 (wrap64 (1 + (l.length : Int))) (by omega)
  refine ⟨if v > 20000 then true else decide ((l4.length : Int) > 300), fun k hk => ?_⟩
  have := hv (k - (l.length + 1))
  rw [show l.length + 1 + (k - (l.length + 1)) = k from by omega] at this
  rw [thresherlaw12_Heavy.f, thresherlaw0_ConfigWeight.f, show (0 : Int) = ((0 : Nat) : Int) from rfl, this, Option.bind_some]
  split <;> rfl
theorem heavy14_l0 (a0 : Int) (l : List S123) (a2 a3 : Int) (l4 : List Int) (js : List S63) (x : ByteArray) (hl : l.length ≤ 140737488355328) (hj : js.length ≤ 140737488355328) (d : Nat) : ∀ (i : Nat) (y : Int), i + d = js.length →
    ∃ b, ∀ m, thresherlaw14_Heavy.l0 (d + 2 + l.length + m) y (i : Int) a0 l a2 a3 l4 js x = some b := by
  obtain ⟨b, hb⟩ := heavy12 a0 l a2 a3 l4 hl
  induction d with
  | zero =>
    intro i y hi
    refine ⟨if y > 8000 then true else b, fun m => ?_⟩
    rw [show 0 + 2 + l.length + m = (l.length + 1 + m) + 1 from by omega, thresherlaw14_Heavy.l0, if_neg (by omega), hb _ (by omega)]
    split <;> rfl
  | succ d ih =>
    intro i y hi
    by_cases hy : y < 1048576
    · obtain ⟨v, hv⟩ := ih (i + 1) (wrap64 (y + (wrap64 ((wrap64 (1 + ((rd_T63 js (i : Int)).f1.size : Int))) + ((rd_T63 js (i : Int)).f5.length : Int))))) (by omega)
      refine ⟨v, fun m => ?_⟩
      rw [show d + 1 + 2 + l.length + m = (d + 2 + l.length + m) + 1 from by omega, thresherlaw14_Heavy.l0, if_pos (by omega), if_pos hy, if_pos (by omega), thresherlaw0_JobWeight.f, Option.bind_some, wrapN i (by omega)]
      exact hv m
    · refine ⟨true, fun m => ?_⟩
      rw [show d + 1 + 2 + l.length + m = (d + 2 + l.length + m) + 1 from by omega, thresherlaw14_Heavy.l0, if_pos (by omega), if_neg hy, if_pos (by omega)]
theorem heavy14 (a0 : Int) (l : List S123) (a2 a3 : Int) (l4 : List Int) (js : List S63) (x : ByteArray) (hl : l.length ≤ 140737488355328) (hj : js.length ≤ 140737488355328) : ∃ b K, ∀ k, K ≤ k → thresherlaw14_Heavy.f k a0 l a2 a3 l4 js x = some b := by
  obtain ⟨b, hb⟩ := heavy14_l0 a0 l a2 a3 l4 js x hl hj js.length 0 (x.size : Int) (by omega)
  refine ⟨b, js.length + 2 + l.length, fun k hk => ?_⟩
  have := hb (k - (js.length + 2 + l.length))
  rw [show js.length + 2 + l.length + (k - (js.length + 2 + l.length)) = k from by omega] at this
  exact this
theorem texts_true (xs : List ByteArray) (hx : xs.length ≤ 100000) (d : Nat) : ∀ i : Nat, i + d = xs.length → ∀ k, d + 70 ≤ k → thresherlaw14_JobBytes.l2 k xs (i : Int) = some true := by
  induction d with
  | zero =>
    intro i hi k hk
    obtain ⟨k, rfl⟩ : ∃ k', k = k' + 1 := ⟨k - 1, by omega⟩
    rw [thresherlaw14_JobBytes.l2, if_neg (by omega)]
    rfl
  | succ d ih =>
    intro i hi k hk
    obtain ⟨k, rfl⟩ : ∃ k', k = k' + 1 := ⟨k - 1, by omega⟩
    obtain ⟨r, hs, hr⟩ := take_both (rdOf ByteArray.empty xs (i : Int))
    obtain ⟨h1, h2⟩ := hr k (by omega)
    rw [thresherlaw14_JobBytes.l2, if_pos (by omega), if_pos (by omega), h1, Option.bind_some, h2, Option.bind_some, thresherlaw14_num.f, Option.bind_some, if_pos rfl, eqjob_self _ _ _ _ _ _ _ hs k (by omega), Option.bind_some, if_pos rfl, wrapN i (by omega)]
    exact ih (i + 1) (by omega) k (by omega)
section
variable (a0 : Int) (l : List S123) (a2 a3 : Int) (l4 : List Int) (js : List S63) (x : ByteArray)
def Jobs : Prop := ∀ j ∈ js, W64 j.f0 ∧ W64 j.f2 ∧ W64 j.f3 ∧ W64 j.f4 ∧ W64 j.f6 ∧ ∀ y ∈ j.f5, W64 y
variable {js} in
theorem Jobs.at_ (h : Jobs js) (i : Nat) (hi : i < js.length) : W64 (rd_T63 js (i : Int)).f0 ∧ W64 (rd_T63 js (i : Int)).f2 ∧ W64 (rd_T63 js (i : Int)).f3 ∧ W64 (rd_T63 js (i : Int)).f4 ∧ W64 (rd_T63 js (i : Int)).f6 ∧ ∀ y ∈ (rd_T63 js (i : Int)).f5, W64 y := by
  apply h
  have e : rd_T63 js (i : Int) = js[i] := by simp [rd_T63, List.getD_eq_getElem?_getD, hi]
  rw [e]
  exact List.getElem_mem hi
theorem j3_true (hJ : Jobs js) (i : Nat) (hi : i < js.length) (hj : js.length ≤ 140737488355328) (xs : List ByteArray) (K : Nat) (hK : 70 ≤ K)
    (next : ∀ k, K ≤ k → thresherlaw14_JobBytes.l0 k xs ((i + 1 : Nat) : Int) a0 l a2 a3 l4 js x = some true)
    (x5 : ByteArray) (x6 x7 : Int) (x8 : ByteArray)
    (hcase : (x6 = 0 ∧ x7 = 0 ∧ x5 = x8 ∧ x8 = str (jobB (rd_T63 js (i : Int)).f0 (rd_T63 js (i : Int)).f1 (rd_T63 js (i : Int)).f2 (rd_T63 js (i : Int)).f3 (rd_T63 js (i : Int)).f4 (rd_T63 js (i : Int)).f5 (rd_T63 js (i : Int)).f6) ∧
        (((rd_T63 js (i : Int)).f1.size : Int) ≤ 512 ∧ (rd_T63 js (i : Int)).f5.length ≤ 6) ∧ ∀ k, 8 ≤ k → job_Check.f k (rd_T63 js (i : Int)).f0 (rd_T63 js (i : Int)).f1 (rd_T63 js (i : Int)).f2 (rd_T63 js (i : Int)).f3 (rd_T63 js (i : Int)).f4 (rd_T63 js (i : Int)).f5 (rd_T63 js (i : Int)).f6 = some 0) ∨
      (x6 = 1 ∧ x7 = 1 ∧ x5 = x8 ∧ ∀ k, 8 ≤ k → job_Check.f k (rd_T63 js (i : Int)).f0 (rd_T63 js (i : Int)).f1 (rd_T63 js (i : Int)).f2 (rd_T63 js (i : Int)).f3 (rd_T63 js (i : Int)).f4 (rd_T63 js (i : Int)).f5 (rd_T63 js (i : Int)).f6 = some 1)) :
    ∀ k, K + 2 ≤ k → thresherlaw14_JobBytes.j3 k xs (i : Int) x5 x6 x7 x8 a0 l a2 a3 l4 js x = some true := by
  intro k hk
  obtain ⟨k, rfl⟩ : ∃ k', k = k' + 2 := ⟨k - 2, by omega⟩
  obtain ⟨w0, w2, w3, w4, w6, w5⟩ := hJ.at_ i hi
  rcases hcase with ⟨rfl, rfl, rfl, rfl, ⟨hs, hn⟩, hc⟩ | ⟨rfl, rfl, rfl, hc⟩
  · rw [thresherlaw14_JobBytes.j3, if_pos (by omega), if_pos (by omega), hc (k + 1) (by omega), Option.bind_some, thresherlaw14_num.f, Option.bind_some, if_pos rfl, Option.bind_some, if_pos rfl, bne_self_eq_false, thresherlaw14_JobBytes.j4, if_neg (by decide), take_back _ _ _ _ _ _ _ w0 w2 w3 w4 w6 w5 hs hn hc k (by omega), Option.bind_some, if_pos rfl, thresherlaw14_num.f, Option.bind_some, if_pos rfl, if_pos (by omega), if_pos (by omega), eqjob_self _ _ _ _ _ _ _ hn k (by omega), Option.bind_some, if_pos rfl, wrapN i (by omega)]
    exact next k (by omega)
  · obtain ⟨r, hs, hr⟩ := take_both x5
    rw [thresherlaw14_JobBytes.j3, if_pos (by omega), if_pos (by omega), hc (k + 1) (by omega), Option.bind_some, thresherlaw14_num.f, Option.bind_some, if_pos rfl, Option.bind_some, if_pos rfl, bne_self_eq_false, thresherlaw14_JobBytes.j4, if_neg (by decide), (hr k (by omega)).1, Option.bind_some, if_neg (by omega), wrapN i (by omega)]
    exact next k (by omega)
theorem wrap_small (n : Int) (h0 : 0 ≤ n) (h1 : n < 9223372036854775808) : wrap64 n = n := by
  unfold wrap64
  omega
theorem step9 (y s : Nat) (hy : y ≤ 3000) (hs : s ≤ 1000) : wrap64 ((wrap64 ((y : Int) + 1)) + (wrap64 ((s : Int) / 9))) = ((y + 1 + s / 9 : Nat) : Int) := by
  have e1 : (s : Int) / 9 = ((s / 9 : Nat) : Int) := by omega
  rw [e1, wrapN y (by omega), wrap_small ((s / 9 : Nat) : Int) (by omega) (by omega), wrap_small _ (by omega) (by omega)]
  omega
theorem l1_true (i : Int) (x5 : ByteArray) (x6 x7 : Int) (x8 : ByteArray) (h8 : x8.size ≤ 1000) (K : Nat)
    (L : Nat) (hL : L ≤ 100000) (next : ∀ xs : List ByteArray, xs.length ≤ L → ∀ k, K ≤ k → thresherlaw14_JobBytes.j3 k xs i x5 x6 x7 x8 a0 l a2 a3 l4 js x = some true) (d : Nat) :
    ∀ (y : Nat) (xs : List ByteArray), x8.size ≤ y + d → xs.length + d ≤ L → y ≤ 3000 → ∀ k, K + d + 1 ≤ k → thresherlaw14_JobBytes.l1 k xs i x5 x6 x7 x8 (y : Int) a0 l a2 a3 l4 js x = some true := by
  induction d with
  | zero =>
    intro y xs hy hx _ k hk
    obtain ⟨k, rfl⟩ : ∃ k', k = k' + 1 := ⟨k - 1, by omega⟩
    rw [thresherlaw14_JobBytes.l1, if_neg (by omega)]
    exact next xs (by omega) k (by omega)
  | succ d ih =>
    intro y xs hy hx h3 k hk
    obtain ⟨k, rfl⟩ : ∃ k', k = k' + 1 := ⟨k - 1, by omega⟩
    by_cases h : (y : Int) < (x8.size : Int)
    · have e : wrap64 ((wrap64 ((y : Int) + 1)) + (wrap64 ((x8.size : Int) / 9))) = ((y + 1 + x8.size / 9 : Nat) : Int) := step9 y x8.size (by omega) (by omega)
      rw [thresherlaw14_JobBytes.l1, if_pos h, if_pos (by omega), if_pos (by omega), if_pos (by omega), e]
      exact ih _ _ (by omega) (by simp; omega) (by omega) k (by omega)
    · rw [thresherlaw14_JobBytes.l1, if_neg h]
      exact next xs (by omega) k (by omega)
theorem stop_true (i : Int) (xs : List ByteArray) (hx : xs.length ≤ 20000) (k : Nat) (hk : xs.length + 71 ≤ k) : thresherlaw14_JobBytes.j1 k xs i false a0 l a2 a3 l4 js x = some true := by
  obtain ⟨k, rfl⟩ : ∃ k', k = k' + 1 := ⟨k - 1, by omega⟩
  rw [thresherlaw14_JobBytes.j1, if_neg (by decide)]
  exact texts_true xs (by omega) xs.length 0 (by omega) k (by omega)
theorem l0_step (hJ : Jobs js) (hj : js.length ≤ 140737488355328) (i : Nat) (hi : i < 6) (hlt : i < js.length) (L L' : Nat) (hL : L + 1010 ≤ L') (hL' : L' ≤ 20000) (K : Nat) (hK : 70 ≤ K)
    (next : ∀ ys : List ByteArray, ys.length ≤ L' → ∀ k, K ≤ k → thresherlaw14_JobBytes.l0 k ys ((i + 1 : Nat) : Int) a0 l a2 a3 l4 js x = some true)
    (xs : List ByteArray) (hx : xs.length ≤ L) (k : Nat) (hk : K + 1010 ≤ k) : thresherlaw14_JobBytes.j1 k xs (i : Int) true a0 l a2 a3 l4 js x = some true := by
  obtain ⟨k, rfl⟩ : ∃ k', k = k' + 1 := ⟨k - 1, by omega⟩
  obtain ⟨w0, w2, w3, w4, w6, w5⟩ := hJ.at_ i hlt
  rw [thresherlaw14_JobBytes.j1, if_pos rfl, if_pos (by omega), if_pos (by omega)]
  rcases job_dec (rd_T63 js (i : Int)).f0 (rd_T63 js (i : Int)).f1 (rd_T63 js (i : Int)).f2 (rd_T63 js (i : Int)).f3 (rd_T63 js (i : Int)).f4 (rd_T63 js (i : Int)).f5 (rd_T63 js (i : Int)).f6 with ⟨⟨hs, hn⟩, hc⟩ | hc
  · have hb := jobB_len _ (rd_T63 js (i : Int)).f1 _ _ _ _ _ w0 w2 w3 w4 w6 w5 hs hn
    obtain ⟨hc1, hc2⟩ := hc k (by omega)
    rw [jobBytes_code _ _ _ _ _ _ _ w0 w2 w3 w4 w6 w5 hs hn k (by omega) hc2, Option.bind_some, hc1, Option.bind_some, if_pos rfl, jobBytes_page _ _ _ _ _ _ _ w0 w2 w3 w4 w6 w5 hs hn k (by omega), Option.bind_some, if_pos (by rw [str_size]; omega), Option.bind_some, if_pos (by simp; omega)]
    have hsz : (str (jobB (rd_T63 js (i : Int)).f0 (rd_T63 js (i : Int)).f1 (rd_T63 js (i : Int)).f2 (rd_T63 js (i : Int)).f3 (rd_T63 js (i : Int)).f4 (rd_T63 js (i : Int)).f5 (rd_T63 js (i : Int)).f6)).size ≤ 1000 := by
      rw [str_size]
      exact hb
    have done : ∀ ys : List ByteArray, ys.length ≤ L' → ∀ k', K + 2 ≤ k' → thresherlaw14_JobBytes.j3 k' ys (i : Int) _ 0 0 _ a0 l a2 a3 l4 js x = some true := fun ys hy k' hk' => j3_true a0 l a2 a3 l4 js x hJ i hlt hj ys K hK (next ys hy) _ 0 0 _ (.inl ⟨rfl, rfl, rfl, rfl, ⟨hs, hn⟩, fun k hk => (hc k hk).2⟩) k' hk'
    have h1000 : ∀ D : Nat, D = 1000 → thresherlaw14_JobBytes.l1 k (xs ++ [str (jobB (rd_T63 js (i : Int)).f0 (rd_T63 js (i : Int)).f1 (rd_T63 js (i : Int)).f2 (rd_T63 js (i : Int)).f3 (rd_T63 js (i : Int)).f4 (rd_T63 js (i : Int)).f5 (rd_T63 js (i : Int)).f6), str (jobB (rd_T63 js (i : Int)).f0 (rd_T63 js (i : Int)).f1 (rd_T63 js (i : Int)).f2 (rd_T63 js (i : Int)).f3 (rd_T63 js (i : Int)).f4 (rd_T63 js (i : Int)).f5 (rd_T63 js (i : Int)).f6) ++ ⟨#[120]⟩]) (i : Int) (str (jobB (rd_T63 js (i : Int)).f0 (rd_T63 js (i : Int)).f1 (rd_T63 js (i : Int)).f2 (rd_T63 js (i : Int)).f3 (rd_T63 js (i : Int)).f4 (rd_T63 js (i : Int)).f5 (rd_T63 js (i : Int)).f6)) 0 0 (str (jobB (rd_T63 js (i : Int)).f0 (rd_T63 js (i : Int)).f1 (rd_T63 js (i : Int)).f2 (rd_T63 js (i : Int)).f3 (rd_T63 js (i : Int)).f4 (rd_T63 js (i : Int)).f5 (rd_T63 js (i : Int)).f6)) ((0 : Nat) : Int) a0 l a2 a3 l4 js x = some true := by
      intro D hD
      exact l1_true a0 l a2 a3 l4 js x (i : Int) _ 0 0 _ hsz (K + 2) L' (by omega) done D 0 _ (by omega) (by rw [List.length_append]; simp only [List.length_cons, List.length_nil]; omega) (by omega) k (by omega)
    exact h1000 1000 rfl
  · obtain ⟨hc1, hc2⟩ := hc k (by omega)
    rw [jobBytes_bad _ _ _ _ _ _ _ k hc2, Option.bind_some, hc1, Option.bind_some, if_neg (by decide)]
    exact j3_true a0 l a2 a3 l4 js x hJ i hlt hj xs K hK (next xs (by omega)) _ 1 1 _ (.inr ⟨rfl, rfl, rfl, fun k hk => (hc k hk).2⟩) k (by omega)
theorem l0_true (hJ : Jobs js) (hj : js.length ≤ 140737488355328) (B : Nat → Nat) (hB : ∀ i, i < 6 → B i + 1010 ≤ B (i + 1)) (hB2 : ∀ i, i ≤ 6 → B i ≤ 20000) (d : Nat) : ∀ i : Nat, i + d = 6 → ∃ K, 70 ≤ K ∧ ∀ xs : List ByteArray, xs.length ≤ B i → ∀ k, K ≤ k → thresherlaw14_JobBytes.l0 k xs (i : Int) a0 l a2 a3 l4 js x = some true := by
  induction d with
  | zero =>
    intro i hi
    refine ⟨B i + 100, by omega, fun xs hx k hk => ?_⟩
    have := hB2 i (by omega)
    obtain ⟨k, rfl⟩ : ∃ k', k = k' + 1 := ⟨k - 1, by omega⟩
    rw [thresherlaw14_JobBytes.l0, decide_eq_false (by omega)]
    split
    · exact stop_true a0 l a2 a3 l4 js x _ xs (by omega) k (by omega)
    · exact stop_true a0 l a2 a3 l4 js x _ xs (by omega) k (by omega)
  | succ d ih =>
    intro i hi
    obtain ⟨K, hK, next⟩ := ih (i + 1) (by omega)
    refine ⟨K + B i + 1100, by omega, fun xs hx k hk => ?_⟩
    have h1 := hB i (by omega)
    have h2 := hB2 (i + 1) (by omega)
    obtain ⟨k, rfl⟩ : ∃ k', k = k' + 1 := ⟨k - 1, by omega⟩
    by_cases hlt : i < js.length
    · rw [thresherlaw14_JobBytes.l0, if_pos (by omega), decide_eq_true (by omega)]
      exact l0_step a0 l a2 a3 l4 js x hJ hj i (by omega) hlt (B i) (B (i + 1)) h1 h2 K hK next xs hx k (by omega)
    · rw [thresherlaw14_JobBytes.l0, if_neg (by omega)]
      exact stop_true a0 l a2 a3 l4 js x _ xs (by omega) k (by omega)
theorem jobBytes_true (hJ : Jobs js) (hj : js.length ≤ 140737488355328) (hl : l.length ≤ 140737488355328) : ∃ k, thresherlaw14_JobBytes.f k a0 l a2 a3 l4 js x = some true := by
  obtain ⟨b, K, hb⟩ := heavy14 a0 l a2 a3 l4 js x hl hj
  obtain ⟨K', _, h0⟩ := l0_true a0 l a2 a3 l4 js x hJ hj (fun i => 1 + 2000 * i) (fun i _ => by show 1 + 2000 * i + 1010 ≤ 1 + 2000 * (i + 1); omega) (fun i h => by show 1 + 2000 * i ≤ 20000; omega) 6 0 (by omega)
  refine ⟨K + K', ?_⟩
  rw [thresherlaw14_JobBytes.f, hb _ (by omega), Option.bind_some]
  cases b
  · rw [if_neg (by decide)]
    exact h0 [x] (by simp) _ (by omega)
  · rw [if_pos rfl]
end
end Go.Proofs.YtpepmmfhanaipaaGreatDoor.Pure
end
section
namespace Go.Proofs.YtpepmmfhanaipaaGreatDoor.Pure
open Go.RowKit Go.Proofs.YtpepmmfhanaipaaGreatDoor.PJobBytes
theorem wf64 {n : Int} (h : (Lit.int .i64 n).wf = true) : W64 n := by
  simp [Lit.wf, IntKind.min, IntKind.max, IntKind.bits, IntKind.signed] at h
  unfold W64
  omega
theorem JobBytes : ∀ (a0_0 : Int) (l0_1 : List S123) (a0_2 : Int) (a0_3 : Int) (l0_4 : List Int) (l0_5 : List S63) (a0_6 : ByteArray), (Lit.int .i64 a0_0).wf = true → (l0_1.length * 48 ≤ 140737488351232 ∧ ∀ x1 ∈ l0_1, ((Lit.int .i64 x1.f0).wf = true ∧ x1.f1.size ≤ 140737488351232 ∧ (x1.f2.length * 8 ≤ 140737488351232 ∧ ∀ x2 ∈ x1.f2, (Lit.int .i64 x2).wf = true))) → (Lit.int .i64 a0_2).wf = true → (Lit.int .i64 a0_3).wf = true → (l0_4.length * 8 ≤ 140737488351232 ∧ ∀ x3 ∈ l0_4, (Lit.int .i64 x3).wf = true) → (l0_5.length * 80 ≤ 140737488351232 ∧ ∀ x4 ∈ l0_5, ((Lit.int .i64 x4.f0).wf = true ∧ x4.f1.size ≤ 140737488351232 ∧ (Lit.int .i64 x4.f2).wf = true ∧ (Lit.int .i64 x4.f3).wf = true ∧ (Lit.int .i64 x4.f4).wf = true ∧ (x4.f5.length * 8 ≤ 140737488351232 ∧ ∀ x5 ∈ x4.f5, (Lit.int .i64 x5).wf = true) ∧ (Lit.int .i64 x4.f6).wf = true)) → a0_6.size ≤ 140737488351232 → ∃ k, thresherlaw14_JobBytes.f k a0_0 l0_1 a0_2 a0_3 l0_4 l0_5 a0_6 = some true := by
  intro a0 l a2 a3 l4 js x _ h1 _ _ _ h5 _
  exact jobBytes_true a0 l a2 a3 l4 js x (fun j hj => by
    obtain ⟨w0, _, w2, w3, w4, ⟨_, w5⟩, w6⟩ := h5.2 j hj
    exact ⟨wf64 w0, wf64 w2, wf64 w3, wf64 w4, wf64 w6, fun y hy => wf64 (w5 y hy)⟩) (by omega) (by omega)
end Go.Proofs.YtpepmmfhanaipaaGreatDoor.Pure
end
