/-
  Plain: which ops may be, how many there are, their words and their text.
-/
import Derived.Test.YtbadcpaopdbgnaaDoorLangT
import Derived.Test.YtbadcpaopdbgnaaDoorLangM
import Derived.Lib.Join
import Derived.Lib.ItoaLen
namespace Go.Proofs.YtbadcpaopdbgnaaDoor.Lang
open Go
set_option linter.unusedVariables false
set_option linter.unusedSimpArgs false

namespace Ops
def drop : Ops → Nat → Ops
  | l, 0 => l
  | nil, _ + 1 => nil
  | cons _ _ _ r, i + 1 => r.drop i
theorem drop_get : ∀ {l : Ops} {i : Nat} {x : Int × Int × Ops}, l.get i = some x → l.drop i = cons x.1 x.2.1 x.2.2 (l.drop (i + 1))
  | nil, i, x, h => by simp [get] at h
  | cons k n b r, 0, x, h => by
    simp only [get, Option.some.injEq] at h
    subst h
    simp [drop]
  | cons k n b r, i + 1, x, h => by
    simp only [drop]
    exact drop_get (l := r) (by simpa [get] using h)
theorem drop_all : ∀ {l : Ops} {i : Nat}, l.len ≤ i → l.drop i = nil
  | nil, 0, _ => rfl
  | nil, i + 1, _ => rfl
  | cons k n b r, 0, h => by simp [len] at h
  | cons k n b r, i + 1, h => by
    simp only [drop]
    exact drop_all (l := r) (by simp [len] at h; omega)
theorem len_zero {l : Ops} (h : l.len = 0) : l = nil := by
  cases l with
  | nil => rfl
  | cons => simp [len] at h
end Ops

/-- Ops that may be, so deep. -/
def okOps : Ops → Nat → Bool
  | .nil, _ => true
  | .cons k n b r, d => decide (1 ≤ k ∧ k ≤ 30 ∧ (n = 0 ∨ k = 1) ∧ (b.len = 0 ∨ k = 28 ∨ k = 29)) && (if k = 28 ∨ k = 29 then decide (d < 6) && okOps b (d + 1) else true) && okOps r d
theorem ok_cons (k n : Int) (b r : Ops) (d : Nat) : okOps (.cons k n b r) d = true ↔ (1 ≤ k ∧ k ≤ 30 ∧ (n = 0 ∨ k = 1) ∧ (b.len = 0 ∨ k = 28 ∨ k = 29)) ∧ ((k = 28 ∨ k = 29) → d < 6 ∧ okOps b (d + 1) = true) ∧ okOps r d = true := by
  simp only [okOps, Bool.and_eq_true, decide_eq_true_iff, and_assoc]
  by_cases hk : k = 28 ∨ k = 29
  · simp [hk]
  · simp [hk]
/-- The program's count. -/
def cnt : Ops → Nat → Nat → Nat
  | .nil, n, _ => n
  | .cons k m b r, n, d => if ¬ (1 ≤ k ∧ k ≤ 30 ∧ (m = 0 ∨ k = 1) ∧ (b.len = 0 ∨ k = 28 ∨ k = 29)) ∨ 128 < n + 1 ∨ ((k = 28 ∨ k = 29) ∧ d = 6) then 129 else cnt r (n + 1 + cnt b 0 (d + 1)) d
theorem cnt_spec : ∀ (l : Ops) (n d : Nat), d ≤ 6 → (okOps l d = true ∧ n + l.size ≤ 128 → cnt l n d = n + l.size) ∧ (¬ (okOps l d = true ∧ n + l.size ≤ 128) → 128 < cnt l n d) := by
  intro l
  induction l with
  | nil => intro n d _; simp [okOps, cnt, Ops.size]
  | cons k m b r ihb ihr =>
    intro n d hd
    rw [ok_cons]
    simp only [cnt, Ops.size]
    by_cases hp : 1 ≤ k ∧ k ≤ 30 ∧ (m = 0 ∨ k = 1) ∧ (b.len = 0 ∨ k = 28 ∨ k = 29)
    · by_cases hn : 128 < n + 1
      · rw [if_pos (.inr (.inl hn))]
        exact ⟨fun h => by omega, fun _ => by omega⟩
      · by_cases hk : k = 28 ∨ k = 29
        · by_cases h6 : d = 6
          · rw [if_pos (.inr (.inr ⟨hk, h6⟩))]
            exact ⟨fun h => by have := h.1.2.1 hk; omega, fun _ => by omega⟩
          · rw [if_neg (fun h => by rcases h with h | h | h; exact h hp; exact hn h; exact h6 h.2)]
            have h1 := ihb 0 (d + 1) (by omega)
            have h2 := ihr (n + 1 + cnt b 0 (d + 1)) d hd
            by_cases hb : okOps b (d + 1) = true ∧ 0 + b.size ≤ 128
            · rw [h1.1 hb] at h2 ⊢
              refine ⟨fun h => ?_, fun h => ?_⟩
              · rw [h2.1 ⟨h.1.2.2, by omega⟩]; omega
              · exact h2.2 (fun h' => h ⟨⟨hp, fun _ => ⟨by omega, hb.1⟩, h'.1⟩, by omega⟩)
            · have h3 := h1.2 hb
              refine ⟨fun h => absurd ⟨(h.1.2.1 hk).2, by omega⟩ hb, fun h => h2.2 (fun h' => by omega)⟩
        · rw [if_neg (fun h => by rcases h with h | h | h; exact h hp; exact hn h; exact hk h.1)]
          have hb : b = .nil := Ops.len_zero (by rcases hp.2.2.2 with h | h; exact h; exact absurd h hk)
          subst hb
          have h2 := ihr (n + 1) d hd
          simp only [cnt, Ops.size, Nat.add_zero]
          refine ⟨fun h => ?_, fun h => ?_⟩
          · rw [h2.1 ⟨h.1.2.2, by omega⟩]; omega
          · exact h2.2 (fun h' => h ⟨⟨hp, fun hk' => absurd hk' hk, h'.1⟩, by omega⟩)
    · rw [if_pos (.inl hp)]
      exact ⟨fun h => absurd h.1.1 hp, fun _ => by omega⟩
theorem cnt_le : ∀ (l : Ops) (n d : Nat), d ≤ 6 → n ≤ 129 * (8 - d) → cnt l n d ≤ 129 * (8 - d) := by
  intro l
  induction l with
  | nil => intro n d _ h; exact h
  | cons k m b r ihb ihr =>
    intro n d hd hn
    simp only [cnt]
    split
    · omega
    · rename_i h
      refine ihr _ d hd ?_
      have hn1 : n + 1 ≤ 128 := by
        rcases Nat.lt_or_ge 128 (n + 1) with h' | h'
        · exact absurd (.inr (.inl h')) h
        · exact h'
      by_cases hk : k = 28 ∨ k = 29
      · have h6 : d ≠ 6 := fun e => h (.inr (.inr ⟨hk, e⟩))
        have := ihb 0 (d + 1) (by omega) (by omega)
        omega
      · have hb : b = .nil := Ops.len_zero (by
          have hp : 1 ≤ k ∧ k ≤ 30 ∧ (m = 0 ∨ k = 1) ∧ (b.len = 0 ∨ k = 28 ∨ k = 29) := Classical.byContradiction fun hp => h (.inl hp)
          rcases hp.2.2.2 with h | h
          · exact h
          · exact absurd h hk)
        subst hb
        simp only [cnt]
        omega
/-- The page's count: how many, and whether they may be. -/
def rc : Ops → Nat → Nat → Nat × Bool
  | .nil, m, _ => (m, true)
  | .cons k n b r, m, d =>
    if 128 < m + 1 then (m + 1, false)
    else if k < 1 ∨ 30 < k ∨ (k ≠ 1 ∧ n ≠ 0) ∨ (¬ (k = 28 ∨ k = 29) ∧ 0 < b.len) then (m + 1, false)
    else if k = 28 ∨ k = 29 then
      (if 6 < d + 1 then (m + 1, false) else if (rc b (m + 1) (d + 1)).2 then rc r (rc b (m + 1) (d + 1)).1 d else ((rc b (m + 1) (d + 1)).1, false))
    else rc r (m + 1) d
theorem rc_spec : ∀ (l : Ops) (m d : Nat), d ≤ 6 → (okOps l d = true ∧ m + l.size ≤ 128 → rc l m d = (m + l.size, true)) ∧ (m ≤ 128 → ¬ (okOps l d = true ∧ m + l.size ≤ 128) → (rc l m d).2 = false) := by
  intro l
  induction l with
  | nil => intro m d _; simp [okOps, rc, Ops.size]
  | cons k n b r ihb ihr =>
    intro m d hd
    rw [ok_cons]
    simp only [rc, Ops.size]
    by_cases hm : 128 < m + 1
    · rw [if_pos hm]
      exact ⟨fun h => by omega, fun _ _ => rfl⟩
    · rw [if_neg hm]
      by_cases hp : 1 ≤ k ∧ k ≤ 30 ∧ (n = 0 ∨ k = 1) ∧ (b.len = 0 ∨ k = 28 ∨ k = 29)
      · rw [if_neg (by omega)]
        by_cases hk : k = 28 ∨ k = 29
        · rw [if_pos hk]
          by_cases h6 : 6 < d + 1
          · rw [if_pos h6]
            exact ⟨fun h => by have := h.1.2.1 hk; omega, fun _ _ => rfl⟩
          · rw [if_neg h6]
            have h1 := ihb (m + 1) (d + 1) (by omega)
            by_cases hb : okOps b (d + 1) = true ∧ m + 1 + b.size ≤ 128
            · rw [h1.1 hb]
              simp only [if_true]
              have h2 := ihr (m + 1 + b.size) d hd
              refine ⟨fun h => ?_, fun h0 h => ?_⟩
              · rw [h2.1 ⟨h.1.2.2, by omega⟩]
                congr 1
                omega
              · exact h2.2 hb.2 (fun h' => h ⟨⟨hp, fun _ => ⟨by omega, hb.1⟩, h'.1⟩, by omega⟩)
            · rw [h1.2 (by omega) hb]
              exact ⟨fun h => absurd ⟨(h.1.2.1 hk).2, by omega⟩ hb, fun _ _ => rfl⟩
        · rw [if_neg hk]
          have hb : b = .nil := Ops.len_zero (by rcases hp.2.2.2 with h | h; exact h; exact absurd h hk)
          subst hb
          have h2 := ihr (m + 1) d hd
          simp only [Ops.size]
          refine ⟨fun h => ?_, fun h0 h => ?_⟩
          · rw [h2.1 ⟨h.1.2.2, by omega⟩]
            congr 1
            omega
          · exact h2.2 (by omega) (fun h' => h ⟨⟨hp, fun hk' => absurd hk' hk, h'.1⟩, by omega⟩)
      · rw [if_pos (by omega)]
        exact ⟨fun h => absurd h.1.1 hp, fun _ _ => rfl⟩

/-- The word of a kind. -/
def wordOf (k : Int) : ByteArray := wordsB.getD (k - 2).toNat ⟨#[]⟩
def itoaB (n : Int) : ByteArray := ⟨(Lib.itoa n).toArray⟩
/-- The words of ops. -/
def layW : Ops → List ByteArray
  | .nil => []
  | .cons k n b r => (if k = 1 then [itoaB n] else if k = 28 ∨ k = 29 then wordOf k :: lb :: (layW b ++ [rb]) else [wordOf k]) ++ layW r
/-- The page's text of ops; the first one, or a further one. -/
def rtG : Ops → Bool → List UInt8
  | .nil, _ => []
  | .cons k n b r, f => (if f then [] else [32]) ++ ((if k = 1 then Lib.itoa n else (wordOf k).data.toList ++ (if k = 28 ∨ k = 29 then [32, 91, 32] ++ (if rtG b true = [] then [] else rtG b true ++ [32]) ++ [93] else [])) ++ rtG r false)
def datas (l : List ByteArray) : List (List UInt8) := l.map (·.data.toList)
theorem tail_append (a b : List (List UInt8)) : Lib.joinTail [32] (a ++ b) = Lib.joinTail [32] a ++ Lib.joinTail [32] b := by simp [Lib.joinTail]
theorem tail_cons (x : List UInt8) (r : List (List UInt8)) : Lib.joinTail [32] (x :: r) = 32 :: (x ++ Lib.joinTail [32] r) := by simp [Lib.joinTail]
theorem join_tail : ∀ (x : List UInt8) (r : List (List UInt8)), Lib.join (x :: r) [32] = x ++ Lib.joinTail [32] r
  | x, [] => by simp [Lib.join, List.intercalate, Lib.joinTail]
  | x, y :: r => by
    have := join_tail y r
    rw [tail_cons, ← this]
    simp [Lib.join, List.intercalate, List.intersperse]
theorem tail_join {r : List (List UInt8)} (h : r ≠ []) : Lib.joinTail [32] r = 32 :: Lib.join r [32] := by
  cases r with
  | nil => exact absurd rfl h
  | cons x r => rw [tail_cons, join_tail]
theorem words_ne : ∀ x ∈ wordsB, x.data.toList ≠ [] := by decide +kernel
theorem wordOf_mem {k : Int} (h0 : 2 ≤ k) (h1 : k ≤ 30) : wordOf k ∈ wordsB := by
  have hl : (k - 2).toNat < wordsB.length := by rw [wordsB_length]; omega
  unfold wordOf
  rw [List.getD_eq_getElem?_getD, List.getElem?_eq_getElem hl]
  exact List.getElem_mem hl
theorem itoa_ne (n : Int) : Lib.itoa n ≠ [] := by
  unfold Lib.itoa
  split
  · simp
  · obtain ⟨_, c, r, h, _⟩ := digs_of_dec n.toNat
    rw [h]
    simp
theorem layW_nil {l : Ops} (h : layW l = []) : l = .nil := by
  cases l with
  | nil => rfl
  | cons k n b r =>
    simp only [layW] at h
    split at h
    · simp at h
    · split at h <;> simp at h
/-- The page's text is the words, joined. -/
theorem rt_join : ∀ (l : Ops) (d : Nat), okOps l d = true → rtG l false = Lib.joinTail [32] (datas (layW l)) ∧ rtG l true = Lib.join (datas (layW l)) [32] ∧ (l ≠ .nil → rtG l true ≠ []) := by
  intro l
  induction l with
  | nil => intro d _; simp [rtG, layW, datas, Lib.joinTail, Lib.join, List.intercalate]
  | cons k n b r ihb ihr =>
    intro d h
    rw [ok_cons] at h
    obtain ⟨hp, hb, hr⟩ := h
    obtain ⟨hr1, -, -⟩ := ihr d hr
    have key : ∃ x xs, datas (layW (.cons k n b r)) = x :: xs ∧ x ≠ [] ∧ (if k = 1 then Lib.itoa n else (wordOf k).data.toList ++ (if k = 28 ∨ k = 29 then [32, 91, 32] ++ (if rtG b true = [] then [] else rtG b true ++ [32]) ++ [93] else [])) ++ rtG r false = x ++ Lib.joinTail [32] xs := by
      by_cases h1 : k = 1
      · refine ⟨Lib.itoa n, datas (layW r), by simp [layW, h1, datas, itoaB], itoa_ne n, ?_⟩
        rw [if_pos h1, hr1]
      · rw [if_neg h1]
        have hw := words_ne _ (wordOf_mem (k := k) (by omega) (by omega))
        by_cases hk : k = 28 ∨ k = 29
        · rw [if_pos hk]
          obtain ⟨hb1, hb2, hb3⟩ := ihb (d + 1) (hb hk).2
          refine ⟨(wordOf k).data.toList, datas (lb :: (layW b ++ [rb])) ++ datas (layW r), by simp [layW, h1, hk, datas], hw, ?_⟩
          rw [hr1, tail_append, List.append_assoc]
          congr 1
          have hrb : datas [rb] = [[93]] := rfl
          have hlb : datas [lb] = [[91]] := rfl
          have hx : Lib.joinTail [32] (datas (lb :: (layW b ++ [rb]))) = [32, 91] ++ (rtG b false ++ [32, 93]) := by
            have : datas (lb :: (layW b ++ [rb])) = [91] :: (datas (layW b) ++ [[93]]) := by simp [datas, lb, rb]
            rw [this, tail_cons, tail_append, ← hb1]
            simp [Lib.joinTail]
          rw [hx, hb1]
          generalize Lib.joinTail [32] (datas (layW r)) = tl
          by_cases hbn : b = .nil
          · subst hbn
            simp [rtG, layW, datas, Lib.joinTail]
          · have hne := hb3 hbn
            rw [if_neg hne, hb2, tail_join (by intro e; exact hbn (layW_nil (by simpa [datas] using e)))]
            simp
        · rw [if_neg hk]
          refine ⟨(wordOf k).data.toList, datas (layW r), by simp [layW, h1, hk, datas], hw, ?_⟩
          rw [hr1]
          simp
    obtain ⟨x, xs, e1, e2, e3⟩ := key
    simp only [rtG]
    rw [e1, e3, tail_cons, join_tail]
    refine ⟨by simp, by simp, fun _ => ?_⟩
    simp [e2]
theorem words_len : ∀ x ∈ wordsB, x.data.toList.length ≤ 5 := by decide +kernel
/-- The numbers are those of 64 bits. -/
def nums : Ops → Prop
  | .nil => True
  | .cons k n b r => (-9223372036854775808 ≤ n ∧ n ≤ 9223372036854775807) ∧ nums b ∧ nums r
/-- Blocks are no longer than memory goes. -/
def short : Ops → Prop
  | .nil => True
  | .cons k n b r => b.len ≤ 3518437208780 ∧ short b ∧ short r
theorem nums_get : ∀ {l : Ops} {i : Nat} {x : Int × Int × Ops}, nums l → l.get i = some x → (-9223372036854775808 ≤ x.2.1 ∧ x.2.1 ≤ 9223372036854775807) ∧ nums x.2.2
  | .nil, i, x, _, h => by simp [Ops.get] at h
  | .cons k n b r, 0, x, hn, h => by
    simp only [Ops.get, Option.some.injEq] at h
    subst h
    exact ⟨hn.1, hn.2.1⟩
  | .cons k n b r, i + 1, x, hn, h => nums_get (l := r) hn.2.2 (by simpa [Ops.get] using h)
theorem short_get : ∀ {l : Ops} {i : Nat} {x : Int × Int × Ops}, short l → l.get i = some x → x.2.2.len ≤ 3518437208780 ∧ short x.2.2
  | .nil, i, x, _, h => by simp [Ops.get] at h
  | .cons k n b r, 0, x, hn, h => by
    simp only [Ops.get, Option.some.injEq] at h
    subst h
    exact ⟨hn.1, hn.2.1⟩
  | .cons k n b r, i + 1, x, hn, h => short_get (l := r) hn.2.2 (by simpa [Ops.get] using h)
/-- How long a text is at most. -/
theorem rt_len : ∀ (l : Ops) (d : Nat) (f : Bool), okOps l d = true → nums l → (rtG l f).length ≤ 40 * l.size := by
  intro l
  induction l with
  | nil => intro d f _ _; simp [rtG]
  | cons k n b r ihb ihr =>
    intro d f h hn
    rw [ok_cons] at h
    obtain ⟨hp, hb, hr⟩ := h
    have h1 := ihr d false hr hn.2.2
    simp only [rtG, Ops.size, List.length_append]
    have h2 : (if f = true then ([] : List UInt8) else [32]).length ≤ 1 := by split <;> simp
    have h3 : (if k = 1 then Lib.itoa n else (wordOf k).data.toList ++ (if k = 28 ∨ k = 29 then [32, 91, 32] ++ (if rtG b true = [] then [] else rtG b true ++ [32]) ++ [93] else [])).length ≤ 40 * b.size + 39 := by
      by_cases hk1 : k = 1
      · rw [if_pos hk1]
        have := Lib.itoa_length_le n hn.1.1 hn.1.2
        omega
      · rw [if_neg hk1]
        have hw := words_len _ (wordOf_mem (k := k) (by omega) (by omega))
        by_cases hk : k = 28 ∨ k = 29
        · rw [if_pos hk]
          have := ihb (d + 1) true (hb hk).2 hn.2.1
          by_cases he : rtG b true = []
          · rw [if_pos he]
            simp only [List.length_append, List.length_cons, List.length_nil]
            omega
          · rw [if_neg he]
            simp only [List.length_append, List.length_cons, List.length_nil]
            omega
        · rw [if_neg hk]
          simp only [List.length_append, List.length_nil]
          omega
    omega
end Go.Proofs.YtbadcpaopdbgnaaDoor.Lang
