/-
  Plain: what is written of ops reads as those ops; what is read may be written; blanks around a text are nothing.
-/
import Derived.Test.YtbadcpaopdbgnaaDoorLangZ7
import Derived.Test.YtbadcpaopdbgnaaDoorLangZ5
namespace Go.Proofs.YtbadcpaopdbgnaaDoor.Lang
open Go
set_option linter.unusedVariables false
set_option linter.unusedSimpArgs false

theorem words_op : ∀ i : Fin 29, opOf (wordsB.getD i.val ⟨#[]⟩) = some (2 + (i.val : Int), 0) := by decide +kernel
theorem opOf_rb : opOf rb = none := by decide +kernel
theorem lb_rb : lb ≠ rb := by decide +kernel
theorem opOf_word {k : Int} (h0 : 2 ≤ k) (h1 : k ≤ 30) : opOf (wordOf k) = some (k, 0) := by
  have h := words_op ⟨(k - 2).toNat, by omega⟩
  have e : (2 + (((k - 2).toNat : Nat) : Int)) = k := by omega
  simp only [e] at h
  exact h
theorem opOf_num {n : Int} (h0 : -9223372036854775808 ≤ n) (h1 : n ≤ 9223372036854775807) : opOf (itoaB n) = some (1, n) := by
  rw [← refOp_eq]
  unfold refOp
  have h : refNumber (itoaB n).data.toList = some n := (refNumber_iff _ _).mpr ⟨by simp [itoaB], h0, h1⟩
  rw [h]
theorem ne_rb {w : ByteArray} {p : Int × Int} (h : opOf w = some p) : w ≠ rb := by
  rintro rfl
  rw [opOf_rb] at h
  cases h
theorem kindOf_lt {s : ByteArray} {i : Nat} (h : kindOf s = some i) : i < 29 := by
  unfold kindOf at h
  rw [List.findIdx?_eq_some_iff_getElem] at h
  obtain ⟨hi, _⟩ := h
  rw [wordsB_length] at hi
  exact hi
theorem opOf_bounds {w : ByteArray} {p : Int × Int} (h : opOf w = some p) : 1 ≤ p.1 ∧ p.1 ≤ 30 ∧ (p.2 = 0 ∨ p.1 = 1) ∧ (-9223372036854775808 ≤ p.2 ∧ p.2 ≤ 9223372036854775807) := by
  rw [← refOp_eq] at h
  unfold refOp at h
  cases hr : refNumber w.data.toList with
  | some v =>
    rw [hr] at h
    simp only [Option.some.injEq] at h
    subst h
    obtain ⟨-, h2, h3⟩ := (refNumber_iff _ _).mp hr
    exact ⟨by simp, by simp, .inr rfl, h2, h3⟩
  | none =>
    rw [hr] at h
    cases hk : kindOf w with
    | none => rw [hk] at h; cases h
    | some i =>
      rw [hk] at h
      simp only [Option.some.injEq] at h
      subst h
      have := kindOf_lt hk
      exact ⟨by simp only; omega, by simp only; omega, .inl rfl, by simp only; omega, by simp only; omega⟩

/-- The words of ops, read. -/
theorem blk_lay : ∀ (l : Ops) (d : Nat), okOps l d = true → nums l → ∀ (f m : Nat) (rest : List ByteArray) (out : Ops), (layW l ++ rest).length < f → m + l.size ≤ 128 →
    ∃ f', rest.length < f' ∧ blk f d m (layW l ++ rest) out = blk f' d (m + l.size) rest (out.app l) := by
  intro l
  induction l with
  | nil =>
    intro d _ _ f m rest out hf _
    refine ⟨f, by simpa [layW] using hf, ?_⟩
    simp [layW, Ops.size, Ops.app_nil]
  | cons k n b r ihb ihr =>
    intro d h hn f m rest out hf hm
    rw [ok_cons] at h
    obtain ⟨hp, hb, hr⟩ := h
    simp only [Ops.size] at hm
    cases f with
    | zero => omega
    | succ f =>
      by_cases hk : k = 28 ∨ k = 29
      · have h1 : ¬ k = 1 := by omega
        have hn0 : n = 0 := by rcases hp.2.2.1 with h | h; exact h; exact absurd h h1
        subst hn0
        obtain ⟨hd, hob⟩ := hb hk
        have hw := opOf_word (k := k) (by omega) (by omega)
        have hl : layW (.cons k 0 b r) ++ rest = wordOf k :: lb :: (layW b ++ (rb :: (layW r ++ rest))) := by
          simp [layW, h1, hk]
        rw [hl] at hf ⊢
        simp only [List.length_cons, List.length_append] at hf
        rw [blk.eq_def]
        simp only
        rw [if_neg (ne_rb hw), hw]
        simp only
        rw [if_neg (by omega), if_pos hk, if_neg (by simp), if_neg (by omega)]
        obtain ⟨f1, hf1, e1⟩ := ihb (d + 1) hob hn.2.1 f (m + 1) (rb :: (layW r ++ rest)) .nil (by simp only [List.length_cons, List.length_append]; omega) (by omega)
        rw [e1]
        cases f1 with
        | zero => omega
        | succ f1 =>
          have e2 : blk (f1 + 1) (d + 1) (m + 1 + b.size) (rb :: (layW r ++ rest)) (Ops.app .nil b) = .ok (b, layW r ++ rest, m + 1 + b.size) := by
            rw [blk.eq_def]
            simp only
            rw [if_pos trivial, if_neg (by omega)]
            rfl
          rw [e2]
          simp only
          obtain ⟨f2, hf2, e3⟩ := ihr d hr hn.2.2 f (m + 1 + b.size) rest (out.snoc k 0 b) (by simp only [List.length_append]; omega) (by omega)
          refine ⟨f2, hf2, ?_⟩
          rw [e3, Ops.app_snoc]
          simp only [Ops.size]
          rw [show m + 1 + b.size + r.size = m + (b.size + r.size + 1) by omega]
      · have hbn : b = .nil := Ops.len_zero (by rcases hp.2.2.2 with h | h; exact h; exact absurd h hk)
        subst hbn
        have hw : ∃ w, opOf w = some (k, n) ∧ layW (.cons k n .nil r) ++ rest = w :: (layW r ++ rest) := by
          by_cases h1 : k = 1
          · subst h1
            exact ⟨itoaB n, opOf_num hn.1.1 hn.1.2, by simp [layW]⟩
          · have hn0 : n = 0 := by rcases hp.2.2.1 with h | h; exact h; exact absurd h h1
            subst hn0
            exact ⟨wordOf k, opOf_word (by omega) (by omega), by simp [layW, h1, hk]⟩
        obtain ⟨w, hw, hl⟩ := hw
        rw [hl] at hf ⊢
        simp only [List.length_cons, List.length_append] at hf
        rw [blk.eq_def]
        simp only
        rw [if_neg (ne_rb hw), hw]
        simp only
        rw [if_neg (by omega), if_neg hk]
        simp only [Ops.size] at hm
        obtain ⟨f2, hf2, e3⟩ := ihr d hr hn.2.2 f (m + 1) rest (out.snoc k n .nil) (by simp only [List.length_append]; omega) (by omega)
        refine ⟨f2, hf2, ?_⟩
        rw [e3, Ops.app_snoc]
        simp only [Ops.size]
        rw [show m + 1 + r.size = m + (0 + r.size + 1) by omega]

theorem size_snoc : ∀ (l : Ops) (k n : Int) (b : Ops), (l.snoc k n b).size = l.size + b.size + 1
  | .nil, k, n, b => by simp [Ops.snoc, Ops.size]
  | .cons k' n' b' r, k, n, b => by simp only [Ops.snoc, Ops.size, size_snoc r k n b]; omega
theorem ok_snoc : ∀ (l : Ops) (k n : Int) (b : Ops) (d : Nat), okOps l d = true → okOps (.cons k n b .nil) d = true → okOps (l.snoc k n b) d = true
  | .nil, k, n, b, d, _, h => h
  | .cons k' n' b' r, k, n, b, d, h0, h => by
    rw [ok_cons] at h0
    simp only [Ops.snoc]
    rw [ok_cons]
    exact ⟨h0.1, h0.2.1, ok_snoc r k n b d h0.2.2 h⟩
theorem nums_snoc : ∀ (l : Ops) (k n : Int) (b : Ops), nums l → (-9223372036854775808 ≤ n ∧ n ≤ 9223372036854775807) → nums b → nums (l.snoc k n b)
  | .nil, k, n, b, _, h1, h2 => ⟨h1, h2, trivial⟩
  | .cons k' n' b' r, k, n, b, h0, h1, h2 => ⟨h0.1, h0.2.1, nums_snoc r k n b h0.2.2 h1 h2⟩
/-- What is read may be. -/
theorem blk_ok : ∀ (f d m : Nat) (ws : List ByteArray) (out t : Ops) (r : List ByteArray) (m' : Nat), blk f d m ws out = .ok (t, r, m') → d ≤ 6 → m ≤ 128 → okOps out d = true → nums out →
    okOps t d = true ∧ nums t ∧ t.size + m = out.size + m' ∧ m' ≤ 128 := by
  intro f
  induction f with
  | zero => intro d m ws out t r m' h; simp [blk] at h
  | succ f ih =>
    intro d m ws out t r m' h hd hm hok hnu
    cases ws with
    | nil =>
      rw [blk] at h
      split at h
      · cases h
      · simp only [Except.ok.injEq, Prod.mk.injEq] at h
        obtain ⟨rfl, rfl, rfl⟩ := h
        exact ⟨hok, hnu, rfl, hm⟩
    | cons w ws =>
      rw [blk.eq_def] at h
      simp only at h
      split at h
      · split at h
        · cases h
        · simp only [Except.ok.injEq, Prod.mk.injEq] at h
          obtain ⟨rfl, rfl, rfl⟩ := h
          exact ⟨hok, hnu, rfl, hm⟩
      · cases hop : opOf w with
        | none => rw [hop] at h; cases h
        | some p =>
          rw [hop] at h
          simp only at h
          obtain ⟨b1, b2, b3, b4⟩ := opOf_bounds hop
          split at h
          · cases h
          · rename_i hm1
            split at h
            · rename_i hk
              cases ws with
              | nil => cases h
              | cons b r2 =>
                simp only at h
                split at h
                · cases h
                · split at h
                  · cases h
                  · rename_i hd6
                    cases hx : blk f (d + 1) (m + 1) r2 .nil with
                    | error c => rw [hx] at h; cases h
                    | ok x =>
                      obtain ⟨t1, r1, m1⟩ := x
                      rw [hx] at h
                      simp only at h
                      obtain ⟨c1, c2, c3, c4⟩ := ih (d + 1) (m + 1) r2 .nil t1 r1 m1 hx (by omega) (by omega) rfl trivial
                      obtain ⟨d1, d2, d3, d4⟩ := ih d m1 r1 (out.snoc p.1 p.2 t1) t r m' h hd c4
                        (ok_snoc _ _ _ _ _ hok (by rw [ok_cons]; exact ⟨⟨b1, b2, b3, .inr hk⟩, fun _ => ⟨by omega, c1⟩, rfl⟩)) (nums_snoc _ _ _ _ hnu b4 c2)
                      rw [size_snoc] at d3
                      simp only [Ops.size] at c3
                      exact ⟨d1, d2, by omega, d4⟩
            · rename_i hk
              obtain ⟨d1, d2, d3, d4⟩ := ih d (m + 1) ws (out.snoc p.1 p.2 .nil) t r m' h hd (by omega)
                (ok_snoc _ _ _ _ _ hok (by rw [ok_cons]; exact ⟨⟨b1, b2, b3, .inl rfl⟩, fun h => absurd h hk, rfl⟩)) (nums_snoc _ _ _ _ hnu b4 trivial)
              rw [size_snoc] at d3
              simp only [Ops.size] at d3
              exact ⟨d1, d2, by omega, d4⟩
theorem parsed_ok {s : ByteArray} {l : Ops} (h : parsed s = .ok l) : okOps l 0 = true ∧ nums l ∧ l.size ≤ 128 := by
  rw [← refParsed_eq] at h
  unfold refParsed at h
  split at h
  · cases h
  · cases hx : blk ((refSplit s).length + 1) 0 0 (refSplit s) .nil with
    | error c => rw [hx] at h; cases h
    | ok x =>
      obtain ⟨t, r, m⟩ := x
      rw [hx] at h
      simp only [Except.ok.injEq] at h
      subst h
      obtain ⟨h1, h2, h3, h4⟩ := blk_ok _ _ _ _ _ _ _ _ hx (by omega) (by omega) rfl trivial
      simp only [Ops.size] at h3
      exact ⟨h1, h2, by omega⟩

/-- A word without a blank. -/
def plainW (x : List UInt8) : Prop := x ≠ [] ∧ ∀ c ∈ x, c ≠ 32 ∧ c ≠ 10
theorem fold_word : ∀ (x : List UInt8) (ws : List ByteArray) (c : List UInt8), (∀ b ∈ x, b ≠ 32 ∧ b ≠ 10) → x.foldl splitStep (ws, c) = (ws, c ++ x)
  | [], ws, c, _ => by simp
  | b :: x, ws, c, h => by
    have hb := h b (List.mem_cons_self ..)
    rw [List.foldl_cons, splitStep_more (fun e => e.elim hb.1 hb.2), fold_word x ws (c ++ [b]) (fun z hz => h z (List.mem_cons_of_mem _ hz))]
    simp
theorem fold_tail : ∀ (L : List ByteArray) (ws : List ByteArray) (c : List UInt8), c ≠ [] → (∀ x ∈ L, plainW x.data.toList) → ∃ ws' c', (Lib.joinTail [32] (datas L)).foldl splitStep (ws, c) = (ws', c') ∧ c' ≠ [] ∧ ws' ++ [⟨c'.toArray⟩] = ws ++ ⟨c.toArray⟩ :: L
  | [], ws, c, hc, _ => ⟨ws, c, by simp [datas, Lib.joinTail], hc, rfl⟩
  | x :: L, ws, c, hc, h => by
    obtain ⟨hx, hp⟩ := h x (List.mem_cons_self ..)
    obtain ⟨ws', c', e1, e2, e3⟩ := fold_tail L (ws ++ [⟨c.toArray⟩]) x.data.toList hx (fun z hz => h z (List.mem_cons_of_mem _ hz))
    refine ⟨ws', c', ?_, e2, ?_⟩
    · rw [show datas (x :: L) = x.data.toList :: datas L from rfl, tail_cons, List.foldl_cons, splitStep_part (.inl rfl), splitEnd_ne hc, List.foldl_append, fold_word _ _ _ hp, List.nil_append]
      exact e1
    · rw [e3]
      simp
theorem split_join {L : List ByteArray} (h : ∀ x ∈ L, plainW x.data.toList) {s : ByteArray} (hs : s.data.toList = Lib.join (datas L) [32]) : refSplit s = L := by
  unfold refSplit
  rw [hs]
  cases L with
  | nil => simp [datas, Lib.join, List.intercalate, splitAt, splitEnd]
  | cons x L =>
    obtain ⟨hx, hp⟩ := h x (List.mem_cons_self ..)
    obtain ⟨ws', c', e1, e2, e3⟩ := fold_tail L [] x.data.toList hx (fun z hz => h z (List.mem_cons_of_mem _ hz))
    rw [show datas (x :: L) = x.data.toList :: datas L from rfl, join_tail]
    unfold splitAt
    rw [List.foldl_append, fold_word _ _ _ hp, List.nil_append, e1, splitEnd_ne e2, e3]
    simp
theorem split_blanks {s t : ByteArray} (h : t.data.toList = 32 :: 10 :: (s.data.toList ++ [10, 32])) : refSplit t = refSplit s := by
  unfold refSplit
  rw [h]
  have e : splitAt (32 :: 10 :: (s.data.toList ++ [10, 32])) = (splitEnd (splitAt s.data.toList), []) := by
    unfold splitAt
    rw [List.foldl_cons, splitStep_part (.inl rfl), List.foldl_cons, splitStep_part (.inr rfl), List.foldl_append]
    rw [show (splitEnd (splitEnd (([] : List ByteArray), ([] : List UInt8)), []), ([] : List UInt8)) = ([], []) from rfl]
    generalize List.foldl splitStep ([], []) s.data.toList = st
    obtain ⟨ws, c⟩ := st
    rw [List.foldl_cons, splitStep_part (.inr rfl), List.foldl_cons, splitStep_part (.inl rfl), List.foldl_nil]
    rfl
  rw [e]
  rfl
theorem dec_plain (u : Nat) : ∀ c ∈ Lib.decDigits u, 48 ≤ c.toNat := by
  induction u using Nat.strongRecOn with
  | _ u ih =>
    intro c hc
    rw [Lib.decDigits] at hc
    split at hc
    · simp only [List.mem_cons, List.not_mem_nil, or_false] at hc
      subst hc
      simp [UInt8.toNat_ofNat']
      omega
    · rw [List.mem_append] at hc
      rcases hc with hc | hc
      · exact ih (u / 10) (by omega) c hc
      · simp only [List.mem_cons, List.not_mem_nil, or_false] at hc
        subst hc
        simp [UInt8.toNat_ofNat']
        omega
theorem itoa_plain (n : Int) : plainW (Lib.itoa n) := by
  refine ⟨itoa_ne n, fun c hc => ?_⟩
  have h : 45 ≤ c.toNat := by
    unfold Lib.itoa at hc
    split at hc
    · rcases List.mem_cons.mp hc with rfl | hc
      · decide
      · have := dec_plain _ c hc
        omega
    · have := dec_plain _ c hc
      omega
  constructor
  · rintro rfl
    exact absurd h (by decide)
  · rintro rfl
    exact absurd h (by decide)
theorem words_plain : ∀ x ∈ wordsB, x.data.toList ≠ [] ∧ ∀ c ∈ x.data.toList, c ≠ 32 ∧ c ≠ 10 := by decide +kernel
theorem lay_plain : ∀ (l : Ops) (d : Nat), okOps l d = true → ∀ x ∈ layW l, plainW x.data.toList := by
  intro l
  induction l with
  | nil => intro d _ x hx; simp [layW] at hx
  | cons k n b r ihb ihr =>
    intro d h x hx
    rw [ok_cons] at h
    obtain ⟨hp, hb, hr⟩ := h
    simp only [layW, List.mem_append] at hx
    rcases hx with hx | hx
    · by_cases h1 : k = 1
      · rw [if_pos h1] at hx
        simp only [List.mem_cons, List.not_mem_nil, or_false] at hx
        subst hx
        simpa [itoaB] using itoa_plain n
      · rw [if_neg h1] at hx
        have hw := words_plain _ (wordOf_mem (k := k) (by omega) (by omega))
        by_cases hk : k = 28 ∨ k = 29
        · rw [if_pos hk] at hx
          simp only [List.mem_cons, List.mem_append, List.not_mem_nil, or_false] at hx
          rcases hx with rfl | rfl | hx | rfl
          · exact hw
          · exact (by unfold plainW; decide +kernel)
          · exact ihb (d + 1) (hb hk).2 x hx
          · exact (by unfold plainW; decide +kernel)
        · rw [if_neg hk] at hx
          simp only [List.mem_cons, List.not_mem_nil, or_false] at hx
          subst hx
          exact hw
    · exact ihr d hr x hx
/-- A text that splits into the words of ops reads as them. -/
theorem parsed_of_split {s : ByteArray} {l : Ops} (hs : s.size ≤ 512) (h : refSplit s = layW l) (hok : okOps l 0 = true) (hnu : nums l) (hsz : l.size ≤ 128) : parsed s = .ok l := by
  rw [← refParsed_eq]
  unfold refParsed
  rw [if_neg (by omega), h]
  obtain ⟨f, hf, e⟩ := blk_lay l 0 hok hnu ((layW l).length + 1) 0 [] .nil (by simp) (by omega)
  rw [List.append_nil] at e
  rw [e]
  cases f with
  | zero => simp at hf
  | succ f =>
    rw [blk, if_neg (by omega)]
    rfl
theorem split_text {l : Ops} (hok : okOps l 0 = true) : refSplit ⟨(rtG l true).toArray⟩ = layW l :=
  split_join (lay_plain l 0 hok) (by rw [(rt_join l 0 hok).2.1])
/-- What is written of ops reads as those ops. -/
theorem parsed_text {l : Ops} {t : ByteArray} (h : textOf l = (t, 0)) (hnu : nums l) : parsed t = .ok l := by
  unfold textOf at h
  split at h
  · rename_i hok
    split at h
    · simp at h
    · rename_i hl
      simp only [Prod.mk.injEq, and_true] at h
      subst h
      exact parsed_of_split (by rw [size_arr']; omega) (split_text hok.1) hok.1 hnu hok.2
  · simp at h
theorem text_code {s : ByteArray} {l : Ops} (h : parsed s = .ok l) : (∃ t, textOf l = (t, 0)) ∨ textOf l = (⟨#[]⟩, 2) := by
  obtain ⟨h1, h2, h3⟩ := parsed_ok h
  unfold textOf
  rw [if_pos ⟨h1, h3⟩]
  split
  · exact .inr rfl
  · exact .inl ⟨_, rfl⟩
/-- .. with blanks around it, too. -/
theorem parsed_blanks {l : Ops} {t s : ByteArray} (h : textOf l = (t, 0)) (hnu : nums l) (hs : s.data.toList = 32 :: 10 :: (t.data.toList ++ [10, 32])) (hl : t.size < 508) : parsed s = .ok l := by
  unfold textOf at h
  split at h
  · rename_i hok
    split at h
    · simp at h
    · simp only [Prod.mk.injEq, and_true] at h
      subst h
      refine parsed_of_split ?_ ?_ hok.1 hnu hok.2
      · have e : s.size = s.data.toList.length := rfl
        have e2 : (⟨(rtG l true).toArray⟩ : ByteArray).data.toList.length = (⟨(rtG l true).toArray⟩ : ByteArray).size := rfl
        rw [e, hs]
        simp only [List.length_cons, List.length_append, List.length_nil, e2]
        omega
      · rw [split_blanks hs]
        exact split_text hok.1
  · simp at h
end Go.Proofs.YtbadcpaopdbgnaaDoor.Lang
