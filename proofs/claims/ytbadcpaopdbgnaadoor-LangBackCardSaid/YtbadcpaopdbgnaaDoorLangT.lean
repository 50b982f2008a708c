/-
  Plain: the page's own reading of a text is the program's.
-/
import Derived.Test.YtbadcpaopdbgnaaDoorLangJ
import Derived.Test.YtbadcpaopdbgnaaDoorLangQ
import Derived.Test.YtbadcpaopdbgnaaDoorLangS
import Derived.Lib.SpaceUEq
import Derived.Lib.TrimUEq
namespace Go.Proofs.YtbadcpaopdbgnaaDoor.Lang
open Go
set_option linter.unusedVariables false
set_option linter.unusedSimpArgs false

theorem splitAt_plain : ∀ (m l : List UInt8), (∀ c ∈ m, c ≠ 32 ∧ c ≠ 10) → splitAt (l ++ m) = ((splitAt l).1, (splitAt l).2 ++ m)
  | [], l, _ => by simp
  | c :: m, l, h => by
    have h1 := splitAt_plain m (l ++ [c]) (fun x hx => h x (List.mem_cons_of_mem _ hx))
    have hc := h c (List.mem_cons_self ..)
    rw [List.append_assoc] at h1
    rw [show l ++ c :: m = l ++ ([c] ++ m) by simp, h1, splitAt_snoc]
    unfold splitStep
    rw [if_neg (fun e => e.elim hc.1 hc.2)]
    simp
theorem extract_eq (s : ByteArray) (a b : Nat) : s.extract a b = ⟨((s.data.toList.take b).drop a).toArray⟩ := by
  apply ByteArray.ext
  apply Array.toList_inj.mp
  rw [Lib.extract_data, List.drop_take]
theorem decodeN_part (n b0 b1 b2 b3 : Nat) (h0 : ¬ b0 < 128) : 128 ≤ (Lib.decodeN n b0 b1 b2 b3).1 := by
  rcases Lib.decodeN_cases n b0 b1 b2 b3 with h | ⟨h, _, _, h2, e⟩ | ⟨h, _, _, _, h2, e⟩ | ⟨h, _⟩ | e
  · omega
  · rw [e]; exact h2
  · rw [e]; show 128 ≤ b0 % 16 * 4096 + b1 % 64 * 64 + b2 % 64; omega
  · omega
  · rw [e]; show 128 ≤ 65533; omega
/-- What stands at a place: an ASCII sign, or a rune that is none, of bytes that are none. -/
theorem decode_part (s : ByteArray) (pos : Nat) (h : pos < s.size) :
    ((s.data.toList.getD pos 0).toNat < 128 ∧ Utf8.decode s pos = ((s.data.toList.getD pos 0).toNat, 1)) ∨
    (128 ≤ (Utf8.decode s pos).1 ∧ pos + (Utf8.decode s pos).2 ≤ s.size ∧ 1 ≤ (Utf8.decode s pos).2 ∧ ∀ j, j < (Utf8.decode s pos).2 → 128 ≤ (s.data.toList.getD (pos + j) 0).toNat) := by
  have hl : s.data.toList.length = s.size := rfl
  rw [Lib.decode_N, hl]
  by_cases h0 : (s.data.toList.getD pos 0).toNat < 128
  · exact .inl ⟨h0, Lib.decodeN_ascii _ _ _ _ _ h0⟩
  · right
    have hc := Lib.decodeN_conts (s.size - pos) (s.data.toList.getD pos 0).toNat (s.data.toList.getD (pos + 1) 0).toNat (s.data.toList.getD (pos + 2) 0).toNat (s.data.toList.getD (pos + 3) 0).toNat
    have hw := Lib.decodeN_ge1 (s.size - pos) (s.data.toList.getD pos 0).toNat (s.data.toList.getD (pos + 1) 0).toNat (s.data.toList.getD (pos + 2) 0).toNat (s.data.toList.getD (pos + 3) 0).toNat
    refine ⟨decodeN_part _ _ _ _ _ h0, ?_, hw, ?_⟩
    · obtain ⟨c1, c2, c3, c4⟩ := hc
      generalize (Lib.decodeN (s.size - pos) (s.data.toList.getD pos 0).toNat (s.data.toList.getD (pos + 1) 0).toNat (s.data.toList.getD (pos + 2) 0).toNat (s.data.toList.getD (pos + 3) 0).toNat).2 = k at *
      omega
    · obtain ⟨c1, c2, c3, c4⟩ := hc
      generalize (Lib.decodeN (s.size - pos) (s.data.toList.getD pos 0).toNat (s.data.toList.getD (pos + 1) 0).toNat (s.data.toList.getD (pos + 2) 0).toNat (s.data.toList.getD (pos + 3) 0).toNat).2 = k at *
      intro j hj
      have : j = 0 ∨ j = 1 ∨ j = 2 ∨ j = 3 := by omega
      rcases this with rfl | rfl | rfl | rfl
      · simpa using h0
      · have := c1 (by omega); omega
      · have := c2 (by omega); omega
      · have := c3 (by omega); omega
theorem take_more (L : List UInt8) (pos k : Nat) (h : pos + k ≤ L.length) : L.take (pos + k) = L.take pos ++ (L.drop pos).take k ∧ ∀ c ∈ (L.drop pos).take k, ∃ j, j < k ∧ c = L.getD (pos + j) 0 := by
  refine ⟨List.take_add, fun c hc => ?_⟩
  obtain ⟨j, hj, rfl⟩ := List.getElem_of_mem hc
  have hj' : j < k := by rw [List.length_take] at hj; omega
  refine ⟨j, hj', ?_⟩
  rw [List.getElem_take, List.getElem_drop, List.getD_eq_getElem?_getD, List.getElem?_eq_getElem (by omega)]
  rfl

theorem splitEnd_ne {ws : List ByteArray} {c : List UInt8} (h : c ≠ []) : splitEnd (ws, c) = ws ++ [⟨c.toArray⟩] := by
  unfold splitEnd
  exact if_neg h
theorem splitStep_part {ws : List ByteArray} {c : List UInt8} {b : UInt8} (h : b = 32 ∨ b = 10) : splitStep (ws, c) b = (splitEnd (ws, c), []) := by
  unfold splitStep splitEnd
  rw [if_pos h]
  split <;> rfl
theorem splitStep_more {ws : List ByteArray} {c : List UInt8} {b : UInt8} (h : ¬ (b = 32 ∨ b = 10)) : splitStep (ws, c) b = (ws, c ++ [b]) := by
  unfold splitStep
  exact if_neg h
theorem spans_next (s : ByteArray) (f pos : Nat) (st : Option Nat) (acc : List (Nat × Nat)) (h : pos < s.size) : Lib.spansFromP isPart s (f + 1) pos st acc =
    if isPart (Utf8.decode s pos).1 then (match st with
      | some a => Lib.spansFromP isPart s f (pos + (Utf8.decode s pos).2) none (acc ++ [(a, pos)])
      | none => Lib.spansFromP isPart s f (pos + (Utf8.decode s pos).2) none acc)
    else (match st with
      | some a => Lib.spansFromP isPart s f (pos + (Utf8.decode s pos).2) (some a) acc
      | none => Lib.spansFromP isPart s f (pos + (Utf8.decode s pos).2) (some pos) acc) := by
  rw [Lib.spansFromP.eq_def]
  simp only
  rw [if_pos h]
  cases st <;> rfl
/-- The piece that is open. -/
def openOf (L : List UInt8) (pos : Nat) : Option Nat → List UInt8
  | none => []
  | some a => (L.take pos).drop a
theorem spans_split (s : ByteArray) : ∀ (f pos : Nat) (st : Option Nat) (acc : List (Nat × Nat)), s.size ≤ pos + f → pos ≤ s.size → (∀ a, st = some a → a < pos) →
    splitAt (s.data.toList.take pos) = (acc.map (fun x => s.extract x.1 x.2), openOf s.data.toList pos st) →
    splitEnd (splitAt s.data.toList) = (Lib.closeSpans s (Lib.spansFromP isPart s f pos st acc)).map fun x => s.extract x.1 x.2 := by
  have hl : s.data.toList.length = s.size := rfl
  have key : ∀ (pos : Nat) (st : Option Nat) (acc : List (Nat × Nat)), ¬ pos < s.size → pos ≤ s.size → (∀ a, st = some a → a < pos) →
      splitAt (s.data.toList.take pos) = (acc.map (fun x => s.extract x.1 x.2), openOf s.data.toList pos st) →
      splitEnd (splitAt s.data.toList) = (Lib.closeSpans s (acc, st)).map fun x => s.extract x.1 x.2 := by
    intro pos st acc hp hp2 hst h
    have e : pos = s.size := by omega
    rw [List.take_of_length_le (by omega)] at h
    rw [h]
    cases st with
    | none => simp [splitEnd, openOf, Lib.closeSpans]
    | some a =>
      have ha := hst a rfl
      have hne : (s.data.toList.take pos).drop a ≠ [] := by
        intro h0
        have := congrArg List.length h0
        rw [List.length_drop, List.length_take, List.length_nil] at this
        omega
      show splitEnd (_, (s.data.toList.take pos).drop a) = _
      rw [splitEnd_ne hne]
      simp only [Lib.closeSpans]
      rw [List.map_append]
      simp only [List.map_cons, List.map_nil]
      rw [extract_eq s a s.size, e]
  intro f
  induction f with
  | zero =>
    intro pos st acc hf hp hst h
    exact key pos st acc (by omega) hp hst h
  | succ f ih =>
    intro pos st acc hf hp hst h
    by_cases hlt : pos < s.size
    · rw [spans_next s f pos st acc hlt]
      rcases decode_part s pos hlt with ⟨h1, e⟩ | ⟨h1, h2, h3, h4⟩
      · rw [e]
        obtain ⟨ht, -⟩ := take_more s.data.toList pos 1 (by omega)
        have hd : (s.data.toList.drop pos).take 1 = [s.data.toList.getD pos 0] := by
          rw [List.drop_eq_getElem_cons (by omega)]
          simp [List.getD_eq_getElem?_getD, hlt]
        rw [hd] at ht
        have hs : splitAt (s.data.toList.take (pos + 1)) = splitStep (splitAt (s.data.toList.take pos)) (s.data.toList.getD pos 0) := by rw [ht, splitAt_snoc]
        rw [h] at hs
        generalize hb : s.data.toList.getD pos 0 = b at hs ht h1
        have hpart : isPart b.toNat = true ↔ (b = 32 ∨ b = 10) := by
          unfold isPart
          rw [Bool.or_eq_true, beq_iff_eq, beq_iff_eq]
          constructor
          · rintro (h | h)
            · exact .inl (UInt8.toNat_inj.mp h)
            · exact .inr (UInt8.toNat_inj.mp h)
          · rintro (rfl | rfl)
            · exact .inl rfl
            · exact .inr rfl
        by_cases hp' : b = 32 ∨ b = 10
        · rw [splitStep_part hp'] at hs
          rw [if_pos (hpart.mpr hp')]
          cases st with
          | none =>
            refine ih (pos + 1) none acc (by omega) (by omega) (fun a h => by cases h) ?_
            rw [hs]
            rfl
          | some a =>
            have ha := hst a rfl
            refine ih (pos + 1) none (acc ++ [(a, pos)]) (by omega) (by omega) (fun a h => by cases h) ?_
            have hne : (s.data.toList.take pos).drop a ≠ [] := by
              intro h0
              have := congrArg List.length h0
              rw [List.length_drop, List.length_take, List.length_nil] at this
              omega
            rw [hs]
            show (splitEnd (_, (s.data.toList.take pos).drop a), []) = _
            rw [splitEnd_ne hne, List.map_append]
            simp only [List.map_cons, List.map_nil]
            rw [extract_eq s a pos]
            rfl
        · rw [splitStep_more hp'] at hs
          rw [if_neg (fun h => hp' (hpart.mp h))]
          cases st with
          | none =>
            refine ih (pos + 1) (some pos) acc (by omega) (by omega) (fun a h => by cases h; omega) ?_
            rw [hs]
            simp only [openOf]
            rw [ht, List.drop_append_of_le_length (by rw [List.length_take]; omega), List.drop_of_length_le (l := s.data.toList.take pos) (by rw [List.length_take]; omega)]
          | some a =>
            have ha := hst a rfl
            refine ih (pos + 1) (some a) acc (by omega) (by omega) (fun a' h => by cases h; omega) ?_
            rw [hs]
            simp only [openOf]
            rw [ht, List.drop_append_of_le_length (by rw [List.length_take]; omega)]
      · have hnp : ¬ isPart (Utf8.decode s pos).1 = true := by
          unfold isPart
          rw [Bool.or_eq_true, beq_iff_eq, beq_iff_eq]
          omega
        rw [if_neg hnp]
        generalize (Utf8.decode s pos).2 = k at h2 h3 h4 ⊢
        obtain ⟨ht, hm⟩ := take_more s.data.toList pos k (by omega)
        have hs : splitAt (s.data.toList.take (pos + k)) = ((splitAt (s.data.toList.take pos)).1, (splitAt (s.data.toList.take pos)).2 ++ (s.data.toList.drop pos).take k) := by
          rw [ht]
          exact splitAt_plain ((s.data.toList.drop pos).take k) (s.data.toList.take pos) (fun c hc => by
            obtain ⟨j, hj, rfl⟩ := hm c hc
            have := h4 j hj
            constructor
            · intro e
              rw [e] at this
              exact absurd this (by decide)
            · intro e
              rw [e] at this
              exact absurd this (by decide))
        rw [h] at hs
        cases st with
        | none =>
          refine ih (pos + k) (some pos) acc (by omega) (by omega) (fun a h => by cases h; omega) ?_
          rw [hs]
          simp only [openOf]
          rw [ht, List.drop_append_of_le_length (by rw [List.length_take]; omega), List.drop_of_length_le (l := s.data.toList.take pos) (by rw [List.length_take]; omega)]
        | some a =>
          have ha := hst a rfl
          refine ih (pos + k) (some a) acc (by omega) (by omega) (fun a' h => by cases h; omega) ?_
          rw [hs]
          simp only [openOf]
          rw [ht, List.drop_append_of_le_length (by rw [List.length_take]; omega)]
    · rw [Lib.spansFromP_end _ _ _ _ _ _ hlt]
      exact key pos st acc hlt hp hst h
/-- The page's split is FieldsFunc's. -/
theorem refSplit_eq (s : ByteArray) : refSplit s = wordsOf s := by
  unfold refSplit wordsOf Lib.goFieldsP Lib.spansOfP
  exact spans_split s s.size 0 none [] (by omega) (by omega) (fun a h => by cases h) rfl

/-- The page's op. -/
def refOp (s : ByteArray) : Option (Int × Int) :=
  match refNumber s.data.toList with
  | some v => some (1, v)
  | none => match kindOf s with
    | some i => some (2 + (i : Int), 0)
    | none => none
theorem words_nonum : ∀ x ∈ wordsB, refNumber x.data.toList = none := by decide +kernel
theorem kindOf_mem {s : ByteArray} {i : Nat} (h : kindOf s = some i) : s ∈ wordsB := by
  unfold kindOf at h
  rw [List.findIdx?_eq_some_iff_getElem] at h
  obtain ⟨hi, h1, _⟩ := h
  have := of_decide_eq_true h1
  rw [← this]
  exact List.getElem_mem hi
theorem refOp_eq (s : ByteArray) : refOp s = opOf s := by
  unfold refOp opOf
  cases hk : kindOf s with
  | some i => rw [words_nonum s (kindOf_mem hk)]
  | none =>
    cases hr : refNumber s.data.toList with
    | some v =>
      obtain ⟨h1, h2, h3⟩ := (refNumber_iff _ _).mp hr
      have hp := parse_itoa v h2 h3
      rw [← h1] at hp
      simp only [hp]
      rw [if_pos h1.symm]
    | none =>
      cases hp : Lib.parseIntB 64 s.data.toList with
      | ok v =>
        simp only
        have hb := Lib.parseIntB_bounds hp
        rw [if_neg]
        intro e
        have := (refNumber_iff s.data.toList v).mpr ⟨e.symm, by simpa using hb.1, by have := hb.2; simp at this; omega⟩
        rw [hr] at this
        cases this
      | range => rfl
      | _ => rfl
theorem opOf_lb : opOf lb = none := by decide +kernel

/-- The page's blocks: what is read, the words that are left, how many ops there were. -/
def blk : Nat → Nat → Nat → List ByteArray → Ops → Except Int (Ops × List ByteArray × Nat)
  | 0, _, _, _, _ => .error 7
  | _ + 1, d, many, [], out => if 0 < d then .error 6 else .ok (out, [], many)
  | f + 1, d, many, w :: r, out =>
    if w = rb then (if d = 0 then .error 7 else .ok (out, r, many))
    else match opOf w with
      | none => .error 7
      | some p =>
        if 128 < many + 1 then .error 2
        else if p.1 = 28 ∨ p.1 = 29 then
          match r with
          | [] => .error 6
          | b :: r2 => if b ≠ lb then .error 7 else if 6 < d + 1 then .error 2
            else match blk f (d + 1) (many + 1) r2 .nil with
              | .error c => .error c
              | .ok x => blk f d x.2.2 x.2.1 (out.snoc p.1 p.2 x.1)
        else blk f d (many + 1) r (out.snoc p.1 p.2 .nil)
def refParsed (s : ByteArray) : Except Int Ops :=
  if 512 < s.size then .error 2 else match blk ((refSplit s).length + 1) 0 0 (refSplit s) .nil with
    | .error c => .error c
    | .ok x => .ok x.1

/-- What the program makes of how it ends. -/
def fin : Except Int St → Except Int Ops
  | .error c => .error c
  | .ok st => if st.heads ≠ [] then .error 6 else match st.opens with
    | [l] => .ok l
    | _ => .error 7
structure Sim (d : Nat) (ws : List ByteArray) (out : Ops) (os : List Ops) (hs : List (Int × Int)) (many : Nat) (x : Except Int (Ops × List ByteArray × Nat)) : Prop where mk ::
  err : ∀ c, x = .error c → fin (ws.foldlM wd ⟨out :: os, hs, false, many⟩) = .error c
  fits : ∀ t r m, x = .ok (t, r, m) → r.length ≤ ws.length ∧ m ≤ 128
  top : ∀ t r m, x = .ok (t, r, m) → d = 0 → ws.foldlM wd ⟨out :: os, hs, false, many⟩ = .ok ⟨[t], [], false, m⟩
  back : ∀ t r m, x = .ok (t, r, m) → ∀ p hs' l os', hs = p :: hs' → os = l :: os' → ws.foldlM wd ⟨out :: os, hs, false, many⟩ = r.foldlM wd ⟨l.snoc p.1 p.2 t :: os', hs', false, m⟩
theorem fold_cons {w : ByteArray} {r : List ByteArray} {st st' : St} (h : wd st w = .ok st') : (w :: r).foldlM wd st = r.foldlM wd st' := by
  rw [List.foldlM_cons, h]
  rfl
theorem fold_cons_err {w : ByteArray} {r : List ByteArray} {st : St} {c : Int} (h : wd st w = .error c) : (w :: r).foldlM wd st = .error c := by
  rw [List.foldlM_cons, h]
  rfl
theorem Sim.of_err {d : Nat} {ws : List ByteArray} {out : Ops} {os : List Ops} {hs : List (Int × Int)} {many : Nat} {c : Int} (h : fin (ws.foldlM wd ⟨out :: os, hs, false, many⟩) = .error c) : Sim d ws out os hs many (.error c) :=
  ⟨fun c' e => (by cases e; exact h), fun _ _ _ e => (by cases e), fun _ _ _ e => (by cases e), fun _ _ _ e => (by cases e)⟩
theorem Sim.step {d : Nat} {ws ws' : List ByteArray} {out out' : Ops} {os : List Ops} {hs : List (Int × Int)} {many many' : Nat} {x : Except Int (Ops × List ByteArray × Nat)} (h : Sim d ws' out' os hs many' x)
    (e : ws.foldlM wd ⟨out :: os, hs, false, many⟩ = ws'.foldlM wd ⟨out' :: os, hs, false, many'⟩) (hl : ws'.length ≤ ws.length) : Sim d ws out os hs many x :=
  ⟨fun c hc => by rw [e]; exact h.err c hc, fun t r m hx => ⟨Nat.le_trans (h.fits t r m hx).1 hl, (h.fits t r m hx).2⟩, fun t r m hx hd => by rw [e]; exact h.top t r m hx hd, fun t r m hx p hs' l os' h1 h2 => by rw [e]; exact h.back t r m hx p hs' l os' h1 h2⟩

theorem sim : ∀ (f d many : Nat) (ws : List ByteArray) (out : Ops) (os : List Ops) (hs : List (Int × Int)), ws.length < f → hs.length = d → os.length = d → d ≤ 6 → many ≤ 128 →
    Sim d ws out os hs many (blk f d many ws out) := by
  intro f
  induction f with
  | zero => intro d many ws out os hs h; omega
  | succ f ih =>
    intro d many ws out os hs hf hh ho hd hm
    cases ws with
    | nil =>
      rw [blk]
      by_cases h0 : 0 < d
      · rw [if_pos h0]
        refine .of_err ?_
        have hne : hs ≠ [] := fun e => by rw [e] at hh; simp at hh; omega
        show fin (.ok _) = _
        simp only [fin]
        rw [if_pos hne]
      · rw [if_neg h0]
        have hd0 : d = 0 := by omega
        subst hd0
        obtain rfl := List.length_eq_zero_iff.mp hh
        obtain rfl := List.length_eq_zero_iff.mp ho
        refine ⟨fun c e => (by cases e), fun t r m e => ?_, fun t r m e _ => ?_, fun t r m e p hs' l os' h1 h2 => by cases h1⟩
        · cases e
          exact ⟨Nat.le_refl _, hm⟩
        · cases e
          rfl
    | cons w r =>
      have hf' : r.length < f := by simp at hf; omega
      rw [blk.eq_def]
      simp only
      by_cases hrb : w = rb
      · subst hrb
        rw [if_pos rfl]
        by_cases hd0 : d = 0
        · rw [if_pos hd0]
          subst hd0
          obtain rfl := List.length_eq_zero_iff.mp hh
          refine .of_err ?_
          have hw : wd ⟨out :: os, [], false, many⟩ rb = .error 7 := by
            unfold wd
            rw [if_pos (.inr rfl), if_neg (show ¬ (false ≠ decide (rb = lb)) by decide), if_neg (by decide)]
          rw [fold_cons_err hw]
          rfl
        · rw [if_neg hd0]
          refine ⟨fun c e => (by cases e), fun t r' m e => ?_, fun t r' m e h0 => absurd h0 hd0, fun t r' m e p hs' l os' h1 h2 => ?_⟩
          · cases e
            exact ⟨by simp, hm⟩
          · cases e
            subst h1 h2
            refine fold_cons ?_
            unfold wd
            rw [if_pos (.inr rfl), if_neg (show ¬ (false ≠ decide (rb = lb)) by decide), if_neg (by decide)]
      · rw [if_neg hrb]
        by_cases hlb : w = lb
        · subst hlb
          rw [opOf_lb]
          refine .of_err ?_
          have hw : wd ⟨out :: os, hs, false, many⟩ lb = .error 7 := by
            unfold wd
            rw [if_pos (.inl rfl), if_pos (show false ≠ decide (lb = lb) by decide)]
          rw [fold_cons_err hw]
          rfl
        · have hbr : ¬ (w = lb ∨ w = rb) := fun e => e.elim hlb hrb
          cases hop : opOf w with
          | none =>
            refine .of_err ?_
            have hw : wd ⟨out :: os, hs, false, many⟩ w = .error 7 := by
              unfold wd
              rw [if_neg hbr, hop]
            rw [fold_cons_err hw]
            rfl
          | some p =>
            simp only
            by_cases hm1 : 128 < many + 1
            · rw [if_pos hm1]
              refine .of_err ?_
              have hw : wd ⟨out :: os, hs, false, many⟩ w = .error 2 := by
                unfold wd
                rw [if_neg hbr, hop]
                simp only
                rw [if_neg Bool.false_ne_true, if_pos (by omega)]
              rw [fold_cons_err hw]
              rfl
            · rw [if_neg hm1]
              by_cases hk : p.1 = 28 ∨ p.1 = 29
              · rw [if_pos hk]
                have hw : wd ⟨out :: os, hs, false, many⟩ w = .ok ⟨out :: os, p :: hs, true, many + 1⟩ := by
                  unfold wd
                  rw [if_neg hbr, hop]
                  simp only
                  rw [if_neg Bool.false_ne_true, if_neg (by omega), if_pos hk]
                cases r with
                | nil =>
                  refine .of_err ?_
                  rw [fold_cons hw]
                  rfl
                | cons b r2 =>
                  simp only
                  by_cases hb : b = lb
                  · subst hb
                    rw [if_neg (by simp)]
                    by_cases hd6 : 6 < d + 1
                    · rw [if_pos hd6]
                      refine .of_err ?_
                      have hw2 : wd ⟨out :: os, p :: hs, true, many + 1⟩ lb = .error 2 := by
                        unfold wd
                        rw [if_pos (.inl rfl), if_neg (show ¬ (true ≠ decide (lb = lb)) by decide), if_pos rfl, if_pos (by simp; omega)]
                      rw [fold_cons hw, fold_cons_err hw2]
                      rfl
                    · rw [if_neg hd6]
                      have hw2 : wd ⟨out :: os, p :: hs, true, many + 1⟩ lb = .ok ⟨.nil :: out :: os, p :: hs, false, many + 1⟩ := by
                        unfold wd
                        rw [if_pos (.inl rfl), if_neg (show ¬ (true ≠ decide (lb = lb)) by decide), if_pos rfl, if_neg (by simp; omega)]
                      have hi := ih (d + 1) (many + 1) r2 .nil (out :: os) (p :: hs) (by simp at hf'; omega) (by simp [hh]) (by simp [ho]) (by omega) (by omega)
                      cases hx : blk f (d + 1) (many + 1) r2 .nil with
                      | error c =>
                        refine .of_err ?_
                        rw [fold_cons hw, fold_cons hw2]
                        exact hi.err c hx
                      | ok x =>
                        obtain ⟨t, r3, m3⟩ := x
                        simp only
                        obtain ⟨hl3, hm3⟩ := hi.fits t r3 m3 hx
                        have hj := ih d m3 r3 (out.snoc p.1 p.2 t) os hs (by simp at hf'; omega) hh ho hd hm3
                        refine hj.step ?_ (by simp; omega)
                        rw [fold_cons hw, fold_cons hw2]
                        exact hi.back t r3 m3 hx p hs out os rfl rfl
                  · rw [if_pos hb]
                    refine .of_err ?_
                    have hw2 : wd ⟨out :: os, p :: hs, true, many + 1⟩ b = .error 7 := by
                      unfold wd
                      by_cases hbb : b = lb ∨ b = rb
                      · rw [if_pos hbb, if_pos (by simp [hb])]
                      · rw [if_neg hbb]
                        cases opOf b with
                        | none => rfl
                        | some q => simp
                    rw [fold_cons hw, fold_cons_err hw2]
                    rfl
              · rw [if_neg hk]
                have hw : wd ⟨out :: os, hs, false, many⟩ w = .ok ⟨out.snoc p.1 p.2 .nil :: os, hs, false, many + 1⟩ := by
                  unfold wd
                  rw [if_neg hbr, hop]
                  simp only
                  rw [if_neg Bool.false_ne_true, if_neg (by omega), if_neg hk]
                exact (ih d (many + 1) r (out.snoc p.1 p.2 .nil) os hs hf' hh ho hd (by omega)).step (fold_cons hw) (by simp)
/-- The page's parse is the program's. -/
theorem refParsed_eq (s : ByteArray) : refParsed s = parsed s := by
  unfold refParsed parsed
  split
  · rfl
  · rw [← refSplit_eq]
    have h := sim ((refSplit s).length + 1) 0 0 (refSplit s) .nil [] [] (by omega) rfl rfl (by omega) (by omega)
    have hst : st0 = ⟨[.nil], [], false, 0⟩ := rfl
    rw [hst]
    cases hx : blk ((refSplit s).length + 1) 0 0 (refSplit s) .nil with
    | error c =>
      have he := h.err c hx
      simp only
      rw [← he]
      cases (refSplit s).foldlM wd ⟨[.nil], [], false, 0⟩ <;> rfl
    | ok x =>
      obtain ⟨t, r, m⟩ := x
      rw [h.top t r m hx rfl]
      simp
end Go.Proofs.YtbadcpaopdbgnaaDoor.Lang
