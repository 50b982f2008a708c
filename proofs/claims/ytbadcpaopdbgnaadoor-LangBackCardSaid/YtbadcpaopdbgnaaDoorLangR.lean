/-
  Walk: the page's split.
-/
import Derived.Test.YtbadcpaopdbgnaaDoorLangQ
namespace Go.Proofs.YtbadcpaopdbgnaaDoor.Lang
open Go.RowKit Go.Shelf
set_option linter.unusedVariables false
set_option linter.unusedSimpArgs false

theorem split_snoc (s : ByteArray) (i : Nat) (h : i < s.size) : splitAt (s.data.toList.take (i + 1)) = splitStep (splitAt (s.data.toList.take i)) s[i] := by
  rw [List.take_succ_eq_append_getElem (by simpa using h), splitAt_snoc]
  rfl
theorem own_end {w : World} {B m : Nat} {v : Value} {st : List ByteArray × List UInt8} {c : ByteArray} (h : c = ⟨st.2.toArray⟩ ∧ st.2 ≠ []) (hm : m = st.1.length) (ho : w.ownsRow B 9 1 v (m + 1) (st.1.map Value.string ++ [.string c])) :
    w.ownsRow B 9 1 v (splitEnd st).length ((splitEnd st).map Value.string) := by
  subst hm
  unfold splitEnd
  rw [if_neg h.2, ← h.1]
  simpa using ho
theorem end_nil {st : List ByteArray × List UInt8} (h : st.2 = []) : splitEnd st = st.1 := by
  unfold splitEnd
  rw [if_pos h]
/-- What a round's head says of place i. -/
structure At (s : ByteArray) (B : Nat) (i : Nat) (cur : ByteArray) (v : Value) (w : World) : Prop where
  mid : i ≤ s.size → cur = ⟨(splitAt (s.data.toList.take i)).2.toArray⟩ ∧ cur.size ≤ i ∧ (splitAt (s.data.toList.take i)).1.length ≤ i ∧ w.ownsRow B 9 1 v (splitAt (s.data.toList.take i)).1.length ((splitAt (s.data.toList.take i)).1.map Value.string)
  last : i = s.size + 1 → w.ownsRow B 9 1 v (refSplit s).length ((refSplit s).map Value.string)
theorem splitEnd_len (st : List ByteArray × List UInt8) : (splitEnd st).length ≤ st.1.length + 1 := by
  unfold splitEnd
  split <;> simp
theorem At.part {s : ByteArray} {B i : Nat} {cur : ByteArray} {v v' : Value} {w w' : World} (h : At s B i cur v w) (hi : i ≤ s.size) (hp : ∀ h : i < s.size, s[i] = 32 ∨ s[i] = 10)
    (ho : w'.ownsRow B 9 1 v' (splitEnd (splitAt (s.data.toList.take i))).length ((splitEnd (splitAt (s.data.toList.take i))).map Value.string)) : At s B (i + 1) ⟨#[]⟩ v' w' := by
  obtain ⟨h1, h2, h3, h4⟩ := h.mid hi
  have hl := splitEnd_len (splitAt (s.data.toList.take i))
  refine ⟨fun hi' => ?_, fun hi' => ?_⟩
  · have e := split_snoc s i hi'
    have e2 : splitAt (s.data.toList.take (i + 1)) = (splitEnd (splitAt (s.data.toList.take i)), []) := by
      rw [e]
      unfold splitStep splitEnd
      rw [if_pos (hp hi')]
      split <;> rfl
    rw [e2]
    exact ⟨rfl, by simp [ByteArray.size], by simp only; omega, ho⟩
  · have : i = s.size := by omega
    unfold refSplit
    rw [this, List.take_of_length_le (by simp)] at ho
    exact ho
theorem At.more {s : ByteArray} {B i : Nat} {cur : ByteArray} {v : Value} {w w' : World} (h : At s B i cur v w) (hi : i < s.size) (h32 : s[i] ≠ 32) (h10 : s[i] ≠ 10) : At s B (i + 1) (cur ++ s.extract i (i + 1)) v w := by
  obtain ⟨h1, h2, h3, h4⟩ := h.mid (Nat.le_of_lt hi)
  have e := split_snoc s i hi
  have e2 : splitAt (s.data.toList.take (i + 1)) = ((splitAt (s.data.toList.take i)).1, (splitAt (s.data.toList.take i)).2 ++ [s[i]]) := by
    rw [e]
    unfold splitStep
    rw [if_neg (fun e => e.elim h32 h10)]
  have ex : s.extract i (i + 1) = ⟨#[s[i]]⟩ := by
    apply ByteArray.ext
    apply Array.toList_inj.mp
    rw [Lib.extract_data, Nat.add_sub_cancel_left, List.drop_eq_getElem_cons (by simpa using hi)]
    simp
    rfl
  refine ⟨fun hi' => ?_, fun hi' => by omega⟩
  rw [e2]
  refine ⟨?_, ?_, by simp only; omega, h4⟩
  · rw [ex, h1]
    apply ByteArray.ext
    apply Array.toList_inj.mp
    simp
  · rw [ex, ByteArray.size_append]
    have : (⟨#[s[i]]⟩ : ByteArray).size = 1 := rfl
    omega
theorem tl_empty {c : ByteArray} {l : List UInt8} (h : c = ⟨l.toArray⟩) : c.toList.isEmpty = l.isEmpty := by
  subst h
  rw [ByteArray.toList_eq]
theorem eq_byte (c : UInt8) (n : Nat) (hn : n < 256) : ((c.toNat : Int) == (n : Int)) = decide (c = UInt8.ofNat n) := by
  rw [Bool.eq_iff_iff, beq_iff_eq, decide_eq_true_iff]
  constructor
  · intro h
    have h2 : c.toNat = n := by exact_mod_cast h
    rw [← h2, UInt8.ofNat_toNat]
  · rintro rfl
    simp [UInt8.toNat_ofNat']
    omega

set_option maxRecDepth 100000 in
set_option maxHeartbeats 8000000 in
theorem split_calls (s : ByteArray) (w : World) (hs : s.size ≤ 1000000) : Calls Tryd.prog 25 #[.string s] w fun e w' => ∃ v, e = .returned v ∧ w'.ownsRow w.heap.size 9 1 v (refSplit s).length ((refSplit s).map Value.string) ∧ Below w.heap.size w w' := by
  have hs1 : s.size ≤ 9223372036854775807 := by omega
  obtain ⟨i0, hi, hz0, hz1, hz2⟩ := info_parts info9
  have HI0 := Aside.mk hi
  clear hi
  go_enter Tryd.func25, Tryd.ntmps25
  go_wp2
  go_loopg [3, 4, 5] (s.size + 2) (fun kq v3 v4 v5 w' => ∃ (i : Nat) (cur : ByteArray), v5 = .int .i64 (i : Int) ∧ v4 = .string cur ∧ Aside (i + kq = s.size + 2 ∧ i ≤ s.size + 1) ∧ Aside (Below w.heap.size w w') ∧ Aside (At s w.heap.size i cur v3 w'))
  case atStart => exact ⟨0, ⟨#[]⟩, rfl, rfl, ⟨by omega⟩, ⟨Below.refl _ _⟩, ⟨⟨fun _ => ⟨rfl, by simp [ByteArray.size], by simp [splitAt], World.ownsRow_nil _ _ _ _⟩, fun h => by omega⟩⟩⟩
  case round =>
    obtain ⟨i, cur, rfl, rfl, HI, HB, HC⟩ := hrel
    cases gk with
    | zero => have := HI.out; omega
    | succ k1 =>
      by_cases hi : i ≤ s.size
      · have hib := decide_eq_true (show (i : Int) ≤ (s.size : Int) by omega)
        have hib2 := decide_eq_true hi
        obtain ⟨hc1, hc2, hc3, hc4⟩ := HC.out.mid hi
        obtain ⟨st, hst⟩ : ∃ st, st = splitAt (s.data.toList.take i) := ⟨_, rfl⟩
        rw [← hst] at hc1 hc3 hc4
        have HST := Aside.mk hst
        have HO := Aside.mk hc4
        have hce := tl_empty hc1
        obtain ⟨m, hm⟩ : ∃ m, m = st.1.length := ⟨_, rfl⟩
        have hml : m ≤ 1000000 := by omega
        obtain ⟨A, c, rfl⟩ := own_slice hc4
        rw [← hm] at HO HC ⊢
        have HM := Aside.mk hm
        have HC1 := Aside.mk hc1
        clear hst hc4 hc3 hm hc1
        have hcs : cur.size ≤ 1000001 := by omega
        clear hc2
        by_cases hpart : ∀ h : i < s.size, s[i] = 32 ∨ s[i] = 10
        · have HPA := Aside.mk hpart
          have hfacts : (((i : Int) == (s.size : Int)) = true) ∨ (∃ h : i < s.size, ((i : Int) == (s.size : Int)) = false ∧ ((s[i].toNat : Int) == 32) = true) ∨ (∃ h : i < s.size, ((i : Int) == (s.size : Int)) = false ∧ ((s[i].toNat : Int) == 32) = false ∧ ((s[i].toNat : Int) == 10) = true) := by
            by_cases h : i < s.size
            · have hne : ((i : Int) == (s.size : Int)) = false := by simp; omega
              rcases hpart h with h1 | h1
              · exact .inr (.inl ⟨h, hne, by rw [h1]; rfl⟩)
              · exact .inr (.inr ⟨h, hne, by rw [h1]; rfl, by rw [h1]; rfl⟩)
            · exact .inl (by simp; omega)
          clear hpart
          by_cases hemp : st.2.isEmpty = true
          · rw [hemp] at hce
            have HE := Aside.mk (List.isEmpty_iff.mp hemp)
            clear hemp
            rcases hfacts with hf1 | ⟨hlt, hf1, hf2⟩ | ⟨hlt, hf1, hf2, hf3⟩
            all_goals
              try (have p1 := eq_true (show 0 ≤ (i : Int) by omega))
              try (have q1 := eq_true (show (i : Int) < (s.size : Int) by omega))
              go_wp2
              go_roundg k1
              case measure => omega
              case rel => exact ⟨i + 1, _, by simp; done, rfl, ⟨by have := HI.out; omega⟩, HB, ⟨HC.out.part hi HPA.out (by rw [← HST.out, end_nil HE.out, ← HM.out]; exact HO.out)⟩⟩
          · have hemp' : st.2.isEmpty = false := by simpa using hemp
            rw [hemp'] at hce
            have HE : Aside (cur = ⟨st.2.toArray⟩ ∧ st.2 ≠ []) := ⟨HC1.out, fun e => by rw [e] at hemp'; cases hemp'⟩
            clear hemp hemp'
            rcases hfacts with hf1 | ⟨hlt, hf1, hf2⟩ | ⟨hlt, hf1, hf2, hf3⟩
            all_goals
              try (have p1 := eq_true (show 0 ≤ (i : Int) by omega))
              try (have q1 := eq_true (show (i : Int) < (s.size : Int) by omega))
              go_wp2_with (first | (at_builtin; refine wpList_append_own_at _ rfl _ _ 22 rfl w.heap.size 9 i0 (.string ⟨#[]⟩) 1 16 Tryd.underlying22 HI0.out hz0 hz1 hz2 rfl (by decide) _ _ _ rfl (HO.out.alloc _) ⟨wr.heap.size, 0, none⟩ 1 1 [.string cur] rfl rfl (cell_one_new _ _ _) (by simp [Value.oneCell']) (by unfold maxLen; omega) (by omega) (by have := HB.out.size; simp; omega) ?_; go_must (intro v' w5 hown' hgrow hnil hloc; clear hnil hloc; have HO5 := Aside.mk (own_end HE.out HM.out hown'); have HB5 := Aside.mk ((HB.out.alloc HB.out.size (.cells #[.string cur] 9)).grown hgrow (by have := HB.out.size; simp; omega) (fun b hb => (own_mem HO.out b (mem_bl.mpr hb)).1)); clear hown' hgrow)))
              go_roundg k1
              case measure => omega
              case rel => exact ⟨i + 1, _, by simp; done, rfl, ⟨by have := HI.out; omega⟩, HB5, ⟨HC.out.part hi HPA.out (by rw [← HST.out]; exact HO5.out)⟩⟩
        · have hlt : i < s.size := by
            rcases Nat.lt_or_ge i s.size with h | h
            · exact h
            · exact absurd (show ∀ h : i < s.size, s[i] = 32 ∨ s[i] = 10 from fun h' => absurd h' (Nat.not_lt.mpr h)) hpart
          have hf1 : ((i : Int) == (s.size : Int)) = false := by clear hpart; simp; omega
          have h32 : s[i] ≠ 32 := fun e => hpart (fun _ => .inl e)
          have h10 : s[i] ≠ 10 := fun e => hpart (fun _ => .inr e)
          have hf2 : ((s[i].toNat : Int) == 32) = false := by rw [show (32 : Int) = ((32 : Nat) : Int) from rfl, eq_byte _ 32 (by omega)]; exact decide_eq_false h32
          have hf3 : ((s[i].toNat : Int) == 10) = false := by rw [show (10 : Int) = ((10 : Nat) : Int) from rfl, eq_byte _ 10 (by omega)]; exact decide_eq_false h10
          have HMO := Aside.mk (HC.out.more (w' := wr) hlt h32 h10)
          clear hpart h32 h10
          have p1 := eq_true (show 0 ≤ (i : Int) by omega)
          have q1 := eq_true (show (i : Int) < (s.size : Int) by omega)
          have q2 := eq_true (show (i : Int) + 1 ≤ (s.size : Int) by omega)
          go_wp2
          go_roundg k1
          case measure => omega
          case rel => exact ⟨i + 1, _, by simp; done, rfl, ⟨by have := HI.out; omega⟩, HB, HMO⟩
      · have hib := decide_eq_false (show ¬ (i : Int) ≤ (s.size : Int) by omega)
        have hib2 := decide_eq_false hi
        go_wp2
        go_ret
        exact ⟨_, rfl, HC.out.last (by have := HI.out; omega), HB.out⟩
end Go.Proofs.YtbadcpaopdbgnaaDoor.Lang
