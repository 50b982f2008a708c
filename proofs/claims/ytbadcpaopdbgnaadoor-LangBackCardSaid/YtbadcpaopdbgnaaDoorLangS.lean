/-
  Plain: the page's own numbers are just the texts that FormatInt writes of what ParseInt reads.
-/
import Derived.Lib.ParseIntBCases
import Derived.Lib.ItoaNum
namespace Go.Proofs.YtbadcpaopdbgnaaDoor.Lang
open Go
set_option linter.unusedVariables false
set_option linter.unusedSimpArgs false

/-- Digits, read on from acc. -/
def digs : Nat → List UInt8 → Option Nat
  | acc, [] => some acc
  | acc, c :: r => if 48 ≤ c.toNat ∧ c.toNat ≤ 57 then digs (acc * 10 + (c.toNat - 48)) r else none
/-- The page's own numbers. -/
def refBody (sign : Bool) (l : List UInt8) : Option Int :=
  match l with
  | [] => none
  | c :: r => if 19 < l.length then none else if c.toNat = 48 ∧ (r ≠ [] ∨ sign = true) then none
    else match digs 0 l with
      | none => none
      | some u => if sign then (if 9223372036854775808 < u then none else some (-(u : Int))) else if 9223372036854775808 ≤ u then none else some (u : Int)
def refNumber (l : List UInt8) : Option Int :=
  match l with
  | [] => none
  | c :: r => if c.toNat = 45 then refBody true r else refBody false l

theorem digs_snoc : ∀ (l : List UInt8) (acc : Nat) (c : UInt8), digs acc (l ++ [c]) = (digs acc l).bind fun u => if 48 ≤ c.toNat ∧ c.toNat ≤ 57 then some (u * 10 + (c.toNat - 48)) else none
  | [], acc, c => by simp [digs]
  | d :: l, acc, c => by
    simp only [List.cons_append, digs]
    split
    · exact digs_snoc l _ c
    · rfl
theorem digs_ge : ∀ (l : List UInt8) (acc u : Nat), digs acc l = some u → acc ≤ u
  | [], acc, u, h => by simp [digs] at h; omega
  | c :: r, acc, u, h => by
    simp only [digs] at h
    split at h
    · have := digs_ge r _ u h
      omega
    · cases h
theorem digs_lt : ∀ (l : List UInt8) (acc u : Nat), digs acc l = some u → u < (acc + 1) * 10 ^ l.length
  | [], acc, u, h => by simp [digs] at h; simp; omega
  | c :: r, acc, u, h => by
    simp only [digs] at h
    split at h
    · have h1 := digs_lt r _ u h
      have h2 : (acc * 10 + (c.toNat - 48) + 1) * 10 ^ r.length ≤ ((acc + 1) * 10) * 10 ^ r.length := Nat.mul_le_mul_right _ (by omega)
      rw [List.length_cons, Nat.pow_succ, Nat.mul_comm (10 ^ r.length) 10, ← Nat.mul_assoc]
      omega
    · cases h
theorem uint8_of (c : UInt8) (h : 48 ≤ c.toNat) : UInt8.ofNat (48 + (c.toNat - 48)) = c := by
  rw [show 48 + (c.toNat - 48) = c.toNat by omega]
  exact UInt8.ofNat_toNat
/-- Digits without a needless 0 are what is written of their number. -/
theorem dec_of_digs : ∀ (n : Nat) (l : List UInt8) (c : UInt8) (r : List UInt8) (u : Nat), l.length = n → l = c :: r → (r ≠ [] → c.toNat ≠ 48) → digs 0 l = some u → Lib.decDigits u = l := by
  intro n
  induction n with
  | zero => intro l c r u hn hl; subst hl; simp at hn
  | succ n ih =>
    intro l c r u hn hl h0 hd
    rcases List.eq_nil_or_concat r with hr | ⟨m, d, hr⟩
    · subst hr
      subst hl
      simp only [digs] at hd
      split at hd
      · rename_i hc
        simp only [Option.some.injEq] at hd
        have hu : u = c.toNat - 48 := by omega
        rw [Lib.decDigits, dif_pos (by omega), hu, uint8_of c hc.1]
      · cases hd
    · rw [List.concat_eq_append] at hr
      have hl2 : l = (c :: m) ++ [d] := by rw [hl, hr]; rfl
      rw [hl2, digs_snoc] at hd
      cases hv : digs 0 (c :: m) with
      | none => rw [hv] at hd; cases hd
      | some v =>
        rw [hv, Option.bind_some] at hd
        split at hd
        · rename_i hdd
          simp only [Option.some.injEq] at hd
          have hc : c.toNat ≠ 48 := h0 (by rw [hr]; simp)
          have hvpos : 1 ≤ v := by
            simp only [digs] at hv
            split at hv
            · have := digs_ge m _ v hv
              omega
            · cases hv
          have hi := ih (c :: m) c m v (by rw [hl2] at hn; simp at hn; simpa using hn) rfl (fun _ => hc) hv
          have e1 : u / 10 = v := by omega
          have e2 : u % 10 = d.toNat - 48 := by omega
          rw [Lib.decDigits, dif_neg (by omega), e1, hi, e2, uint8_of d hdd.1, hl2]
        · cases hd
/-- What is written of a number are its digits. -/
theorem digs_of_dec (u : Nat) : digs 0 (Lib.decDigits u) = some u ∧ ∃ c r, Lib.decDigits u = c :: r ∧ 48 ≤ c.toNat ∧ c.toNat ≤ 57 ∧ (r ≠ [] → c.toNat ≠ 48) ∧ (c.toNat = 48 → u = 0) := by
  induction u using Nat.strongRecOn with
  | _ u ih =>
    by_cases h : u < 10
    · have e : (UInt8.ofNat (48 + u)).toNat = 48 + u := by simp [UInt8.toNat_ofNat']; omega
      rw [Lib.decDigits, dif_pos h]
      refine ⟨?_, _, [], rfl, by omega, by omega, by simp, by omega⟩
      simp only [digs, e]
      rw [if_pos (by omega)]
      simp
    · obtain ⟨h1, c, r, h2, h3, h4, h5, h6⟩ := ih (u / 10) (by omega)
      have e : (UInt8.ofNat (48 + u % 10)).toNat = 48 + u % 10 := by simp [UInt8.toNat_ofNat']; omega
      rw [Lib.decDigits, dif_neg h]
      refine ⟨?_, c, r ++ [UInt8.ofNat (48 + u % 10)], by rw [h2]; rfl, h3, h4, fun _ hc => by have := h6 hc; omega, fun hc => by have := h6 hc; omega⟩
      rw [digs_snoc, h1, Option.bind_some, e, if_pos (by omega)]
      congr 1
      omega
theorem dec_inj_len {u k : Nat} (h : u < 10 ^ k) (hk : 1 ≤ k) : (Lib.decDigits u).length ≤ k := by
  induction k generalizing u with
  | zero => omega
  | succ k ih =>
    by_cases h10 : u < 10
    · rw [Lib.decDigits, dif_pos h10]; simp
    · rw [Lib.decDigits, dif_neg h10, List.length_append]
      have : (Lib.decDigits (u / 10)).length ≤ k := by
        refine ih (by rw [Nat.pow_succ] at h; omega) ?_
        rcases Nat.eq_zero_or_pos k with rfl | hk'
        · simp at h; omega
        · exact hk'
      simp
      exact this

theorem parseM_of_digs (M : Nat) (hM : M < 18446744073709551616) : ∀ (l : List UInt8) (acc u : Nat), digs acc l = some u → u ≤ M → Lib.parseUintM M acc l = .ok u
  | [], acc, u, h, hu => by simp [digs] at h; simp [Lib.parseUintM, h]
  | c :: r, acc, u, h, hu => by
    simp only [digs] at h
    split at h
    · rename_i hc
      have := digs_ge r _ u h
      rw [Lib.parseUintM, if_pos hc, if_neg (by omega), if_neg (by omega)]
      exact parseM_of_digs M hM r _ u h hu
    · cases h

theorem refBody_true {l : List UInt8} {v : Int} (h : refBody true l = some v) : ∃ u : Nat, v = -(u : Int) ∧ 1 ≤ u ∧ u ≤ 9223372036854775808 ∧ Lib.decDigits u = l ∧ digs 0 l = some u ∧ l ≠ [] := by
  cases l with
  | nil => simp [refBody] at h
  | cons c r =>
    simp only [refBody] at h
    split at h
    · cases h
    · split at h
      · cases h
      · rename_i h19 h48
        cases hd : digs 0 (c :: r) with
        | none => rw [hd] at h; cases h
        | some u =>
          rw [hd] at h
          simp only [if_true] at h
          split at h
          · cases h
          · simp only [Option.some.injEq] at h
            have hc : c.toNat ≠ 48 := fun e => h48 ⟨e, .inr trivial⟩
            refine ⟨u, h.symm, ?_, by omega, dec_of_digs _ _ c r u rfl rfl (fun _ => hc) hd, rfl, by simp⟩
            simp only [digs] at hd
            split at hd
            · have := digs_ge r _ u hd
              omega
            · cases hd
theorem refBody_false {l : List UInt8} {v : Int} (h : refBody false l = some v) : ∃ u : Nat, v = (u : Int) ∧ u < 9223372036854775808 ∧ Lib.decDigits u = l ∧ digs 0 l = some u ∧ l ≠ [] := by
  cases l with
  | nil => simp [refBody] at h
  | cons c r =>
    simp only [refBody] at h
    split at h
    · cases h
    · split at h
      · cases h
      · rename_i h19 h48
        cases hd : digs 0 (c :: r) with
        | none => rw [hd] at h; cases h
        | some u =>
          rw [hd] at h
          simp only [Bool.false_eq_true, if_false] at h
          split at h
          · cases h
          · simp only [Option.some.injEq] at h
            exact ⟨u, h.symm, by omega, dec_of_digs _ _ c r u rfl rfl (fun hr e => h48 ⟨e, .inl hr⟩) hd, rfl, by simp⟩
theorem refBody_dec {u : Nat} (h : u < 9223372036854775808) : refBody false (Lib.decDigits u) = some (u : Int) := by
  obtain ⟨h1, c, r, h2, h3, h4, h5, h6⟩ := digs_of_dec u
  have hl := dec_inj_len (u := u) (k := 19) (by omega) (by omega)
  rw [h2] at h1 hl ⊢
  simp only [refBody]
  rw [if_neg (by omega), if_neg (fun hh => by rcases hh.2 with hr | hr; exact h5 hr hh.1; cases hr), h1]
  simp only [Bool.false_eq_true, if_false]
  rw [if_neg (by omega)]
theorem refBody_decN {u : Nat} (h0 : 1 ≤ u) (h : u ≤ 9223372036854775808) : refBody true (Lib.decDigits u) = some (-(u : Int)) := by
  obtain ⟨h1, c, r, h2, h3, h4, h5, h6⟩ := digs_of_dec u
  have hl := dec_inj_len (u := u) (k := 19) (by omega) (by omega)
  rw [h2] at h1 hl ⊢
  simp only [refBody]
  rw [if_neg (by omega), if_neg (fun hh => by have := h6 hh.1; omega), h1]
  simp only [if_true]
  rw [if_neg (by omega)]

/-- The page's numbers are what is written of a number. -/
theorem refNumber_iff (l : List UInt8) (v : Int) : refNumber l = some v ↔ l = Lib.itoa v ∧ -9223372036854775808 ≤ v ∧ v ≤ 9223372036854775807 := by
  constructor
  · intro h
    cases l with
    | nil => simp [refNumber] at h
    | cons c r =>
      simp only [refNumber] at h
      split at h
      · rename_i hc
        obtain ⟨u, rfl, h1, h2, h3, _, _⟩ := refBody_true h
        refine ⟨?_, by omega, by omega⟩
        unfold Lib.itoa
        rw [if_pos (by omega)]
        have : (-(u : Int)).natAbs = u := by omega
        rw [this, h3]
        congr 1
        exact UInt8.toNat_inj.mp hc
      · obtain ⟨u, rfl, h2, h3, _, _⟩ := refBody_false h
        refine ⟨?_, by omega, by omega⟩
        unfold Lib.itoa
        rw [if_neg (by omega)]
        simp [h3]
  · rintro ⟨rfl, h0, h1⟩
    unfold Lib.itoa
    split
    · obtain ⟨u, rfl⟩ : ∃ u : Nat, v = -(u : Int) := ⟨v.natAbs, by omega⟩
      have : (-(u : Int)).natAbs = u := by omega
      rw [this]
      simp only [refNumber]
      rw [if_pos (by rfl)]
      exact refBody_decN (by omega) (by omega)
    · obtain ⟨u, rfl⟩ : ∃ u : Nat, v = (u : Int) := ⟨v.toNat, by omega⟩
      obtain ⟨_, c, r, h2, h3, h4, h5, h6⟩ := digs_of_dec u
      have hb := refBody_dec (u := u) (by omega)
      simp only [Int.toNat_natCast]
      rw [h2] at hb ⊢
      simp only [refNumber]
      rw [if_neg (by omega)]
      exact hb
theorem parse_itoa (v : Int) (h0 : -9223372036854775808 ≤ v) (h1 : v ≤ 9223372036854775807) : Lib.parseIntB 64 (Lib.itoa v) = .ok v := by
  unfold Lib.itoa
  split
  · obtain ⟨u, rfl⟩ : ∃ u : Nat, v = -(u : Int) := ⟨v.natAbs, by omega⟩
    have : (-(u : Int)).natAbs = u := by omega
    rw [this, Lib.parseIntB_minus]
    obtain ⟨hd, c, r, h2, _⟩ := digs_of_dec u
    unfold Lib.parseUintB
    rw [if_neg (by rw [h2]; simp), parseM_of_digs _ (by decide) _ _ u hd (by simp; omega)]
    simp only [Lib.signedC]
    rw [if_neg (by simp; omega)]
  · obtain ⟨u, rfl⟩ : ∃ u : Nat, v = (u : Int) := ⟨v.toNat, by omega⟩
    obtain ⟨hd, c, r, h2, h3, h4, _⟩ := digs_of_dec u
    simp only [Int.toNat_natCast]
    have hp : Lib.parseUintB 64 (c :: r) = .ok u := by
      unfold Lib.parseUintB
      rw [if_neg (by simp), ← h2, parseM_of_digs _ (by decide) _ _ u hd (by simp; omega)]
    rw [h2, Lib.parseIntB_plain 64 c r (by omega) (by omega), hp]
    simp only [Lib.signlessC]
    rw [if_neg (by simp; omega)]
end Go.Proofs.YtbadcpaopdbgnaaDoor.Lang
