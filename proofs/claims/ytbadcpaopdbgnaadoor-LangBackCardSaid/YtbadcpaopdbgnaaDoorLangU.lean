/-
  Walks: the page's words and numbers.
-/
import Derived.Test.YtbadcpaopdbgnaaDoorLangR
import Derived.Test.YtbadcpaopdbgnaaDoorLangT
import Derived.Laws.Bits64
namespace Go.Proofs.YtbadcpaopdbgnaaDoor.Lang
open Go.RowKit Go.Shelf
set_option linter.unusedVariables false
set_option linter.unusedSimpArgs false

theorem refwords_calls (w : World) : Calls Tryd.prog 29 #[] w fun e w' => e = .returned (.slice (some ⟨w.heap.size, 0, none⟩) 29 29) ∧ w' = w.alloc (.cells (wordsB.map Value.string).toArray 9) := by
  go_enter Tryd.func29, Tryd.ntmps29
  go_wp2
  go_ret
  exact ⟨rfl, rfl⟩

def numV (x : Option Int) : Value := match x with
  | some v => .tuple #[.int .i64 v, .bool true]
  | none => .tuple #[.int .i64 0, .bool false]
theorem xor_max (u : Nat) (hu : u < 2 ^ 64) : (18446744073709551615 ^^^ u) = 18446744073709551615 - u := by
  have h := (BitVec.toNat_not (x := BitVec.ofNat 64 u))
  have h2 : (~~~ (BitVec.ofNat 64 u)) = BitVec.allOnes 64 ^^^ BitVec.ofNat 64 u := by
    rw [BitVec.allOnes_xor]
  rw [h2, BitVec.toNat_xor] at h
  simp at h
  rw [Nat.mod_eq_of_lt hu] at h
  simpa using h
theorem neg_u64 (u : Nat) (h1 : 1 ≤ u) (h2 : u ≤ 9223372036854775808) : wrap64 (IntKind.u64.wrap (bits BinOp.xor IntKind.u64 IntKind.u64.max (u : Int) + 1)) = -(u : Int) := by
  have e : bits BinOp.xor IntKind.u64 IntKind.u64.max (u : Int) = ((18446744073709551615 ^^^ u : Nat) : Int) := bits_xor_u64_nat 18446744073709551615 u (by omega) (by omega)
  rw [e, xor_max u (by omega)]
  have e2 : IntKind.u64.wrap (((18446744073709551615 - u : Nat) : Int) + 1) = ((18446744073709551616 - u : Nat) : Int) := by
    simp [IntKind.wrap, IntKind.signed, IntKind.bits]
    omega
  rw [e2]
  unfold wrap64
  omega
theorem pow_le {u i : Nat} (h : u < 10 ^ i) (hi : i ≤ 18) : u ≤ 999999999999999999 := by
  have : 10 ^ i ≤ 10 ^ 18 := Nat.pow_le_pow_right (by omega) hi
  omega
theorem pow_le19 {u i : Nat} (h : u < 10 ^ i) (hi : i ≤ 19) : u ≤ 9999999999999999999 := by
  have : 10 ^ i ≤ 10 ^ 19 := Nat.pow_le_pow_right (by omega) hi
  omega
theorem digs_append (m : List UInt8) : ∀ (l : List UInt8) (acc : Nat), digs acc (l ++ m) = (digs acc l).bind fun u => digs u m
  | [], acc => rfl
  | c :: l, acc => by
    simp only [List.cons_append, digs]
    split
    · exact digs_append m l _
    · rfl
theorem digs_none {l : List UInt8} (i : Nat) (h : digs 0 (l.take i) = none) : digs 0 l = none := by
  rw [← List.take_append_drop i l, digs_append, h]
  rfl
theorem digs_take {b : ByteArray} {l : List UInt8} (hb : b.data.toList = l) {i u : Nat} (hi : i < b.size) {e : UInt8} (he : e = b[i]) (h : digs 0 (l.take i) = some u) :
    digs 0 (l.take (i + 1)) = if 48 ≤ e.toNat ∧ e.toNat ≤ 57 then some (u * 10 + (e.toNat - 48)) else none := by
  subst hb
  rw [List.take_succ_eq_append_getElem (by simpa using hi), digs_snoc, h, Option.bind_some, he]
  rfl
theorem refNumber_minus {c : UInt8} (r : List UInt8) (h : c.toNat = 45) : refNumber (c :: r) = refBody true r := by
  show (if c.toNat = 45 then refBody true r else refBody false (c :: r)) = _
  rw [if_pos h]
theorem refNumber_plain {c : UInt8} (r : List UInt8) (h : ¬ c.toNat = 45) : refNumber (c :: r) = refBody false (c :: r) := by
  show (if c.toNat = 45 then refBody true r else refBody false (c :: r)) = _
  rw [if_neg h]
def numEnd (sg : Bool) : Option Nat → Option Int
  | none => none
  | some u => if sg then (if 9223372036854775808 < u then none else some (-(u : Int))) else if 9223372036854775808 ≤ u then none else some (u : Int)
theorem refBody_cons (sg : Bool) (d : UInt8) (t : List UInt8) : refBody sg (d :: t) = if 19 < t.length + 1 then none else if d.toNat = 48 ∧ (t ≠ [] ∨ sg = true) then none else numEnd sg (digs 0 (d :: t)) := by
  unfold refBody numEnd
  cases digs 0 (d :: t) <;> rfl
theorem digs_pos {d : UInt8} {t : List UInt8} {u : Nat} (h : digs 0 (d :: t) = some u) (hd : d.toNat ≠ 48) : 1 ≤ u := by
  simp only [digs] at h
  split at h
  · have := digs_ge t _ u h
    omega
  · cases h
set_option maxRecDepth 100000 in
set_option maxHeartbeats 8000000 in
theorem number_calls (s : ByteArray) (w : World) (hs : s.size ≤ 1000000) : Calls Tryd.prog 37 #[.string s] w fun e w' => e = .returned (numV (refNumber s.data.toList)) ∧ w' = w := by
  obtain ⟨X, hX⟩ : ∃ X, X = refNumber s.data.toList := ⟨_, rfl⟩
  rw [← hX]
  cases hl : s.data.toList with
  | nil =>
    have h0 : s.size = 0 := by have := congrArg List.length hl; simpa using this
    have h1 : decide ((0 : Int) < (s.size : Int)) = false := decide_eq_false (by omega)
    have h2 : s.toList.isEmpty = true := by rw [ByteArray.toList_eq, hl]; rfl
    have HX := Aside.mk (show X = none by rw [hX, hl]; rfl)
    clear hX hl
    go_enter Tryd.func37, Tryd.ntmps37
    go_wp2
    go_ret2
    exact ⟨by rw [HX.out]; rfl, rfl⟩
  | cons c r =>
    have h0 : s.size = r.length + 1 := by have := congrArg List.length hl; simpa using this
    have h1 : decide ((0 : Int) < (s.size : Int)) = true := decide_eq_true (by omega)
    have h1' : (0 : Int) < (s.size : Int) := by omega
    have h1'' : 0 < s.size := by omega
    have hc : s[0]'(by omega) = c := by
      have e : s.data.toList[0]'(by rw [hl]; simp) = c := by simp [hl]
      exact e
    have HL := Aside.mk hl
    have hbl : (s.extract 1 s.size).data.toList = r := by rw [Lib.extract_data, hl, List.drop_succ_cons, List.drop_zero, List.take_of_length_le (by omega)]
    clear h0
    by_cases h45 : c.toNat = 45
    · have hc45 : ((c.toNat : Int) == 45) = true := by simp [h45]
      have HX := Aside.mk (show X = refBody true r by rw [hX, hl, refNumber_minus _ h45])
      have HBL := Aside.mk hbl
      clear hX hl h45 hbl
      go_enter Tryd.func37, Tryd.ntmps37
      go_upto_region 4 with (fail)
      clear hc45 hc h1 h1' h1''
      have hbsz : (s.extract 1 s.size).size ≤ 1000000 := by rw [ByteArray.size_extract]; omega
      generalize s.extract 1 s.size = b at HBL hbsz ⊢
      obtain ⟨rl, hrl⟩ : ∃ rl, rl = r := ⟨_, rfl⟩
      rw [← hrl] at HX HBL
      clear hrl HL
      cases hr : rl with
      | nil =>
        subst hr
        have hce : b.toList.isEmpty = true := by rw [ByteArray.toList_eq, HBL.out]; rfl
        have hb0 : b.size = 0 := by have := congrArg List.length HBL.out; simpa using this
        have HXN := Aside.mk (show X = none from HX.out)
        clear hb0
        go_wp2
        go_ret2
        exact ⟨by rw [HXN.out]; rfl, rfl⟩
      | cons d t =>
        subst hr
        have hce : b.toList.isEmpty = false := by rw [ByteArray.toList_eq, HBL.out]; rfl
        have hce2 : (b.toList = []) = False := by rw [ByteArray.toList_eq, HBL.out]; simp
        have hbs : b.size = t.length + 1 := by have := congrArg List.length HBL.out; simpa using this
        have HBS := Aside.mk hbs
        have hb1 : 0 < b.size := by omega
        have hb1' : (0 : Int) < (b.size : Int) := by omega
        have hd0 : b[0]'hb1 = d := by
          have e : b.data.toList[0]'(by rw [HBL.out]; simp) = d := by simp [HBL.out]
          exact e
        clear hbs
        by_cases h19 : 19 < b.size
        · have h19b : decide ((19 : Int) < (b.size : Int)) = true := decide_eq_true (by omega)
          have h19c : decide (19 < b.size) = true := decide_eq_true h19
          have HXN := Aside.mk (show X = none by rw [HX.out, refBody_cons, if_pos (by have := HBS.out; omega)])
          clear h19
          go_wp2
          go_ret2
          exact ⟨by rw [HXN.out]; rfl, rfl⟩
        · have h19b : decide ((19 : Int) < (b.size : Int)) = false := decide_eq_false (by omega)
          have h19c : decide (19 < b.size) = false := decide_eq_false h19
          by_cases hz : d.toNat = 48 ∧ (t ≠ [] ∨ true = true)
          · have hz1 : ((d.toNat : Int) == 48) = true := by simp [hz.1]
            have HXN := Aside.mk (show X = none by rw [HX.out, refBody_cons, if_neg (by have := HBS.out; omega), if_pos hz])
            go_wp2
            all_goals
              go_ret2
              exact ⟨by rw [HXN.out]; rfl, rfl⟩
          · have HNZ := Aside.mk hz
            have HXD := Aside.mk (show X = numEnd true (digs 0 (d :: t)) by rw [HX.out, refBody_cons, if_neg (by have := HBS.out; omega), if_neg hz])
            have hcase : (((d.toNat : Int) == 48) = false) ∨ (true = false ∧ ((d.toNat : Int) == 48) = true ∧ b.size = 1) := by
              by_cases h48 : d.toNat = 48
              · refine .inr ⟨?_, by simp [h48], ?_⟩
                · cases hs : (true : Bool) with
                  | true => exact absurd ⟨h48, .inr hs⟩ hz
                  | false => rfl
                · have ht : t = [] := Classical.byContradiction fun ht => hz ⟨h48, .inl ht⟩
                  have := HBS.out
                  rw [ht] at this
                  simpa using this
              · exact .inl (by simp; omega)
            clear hz
            have hz1 : (((d.toNat : Int) == 48) = false) := by
              rcases hcase with h | ⟨h, _⟩
              · exact h
              · cases h
            clear hcase
            go_upto_region 6 with (fail)
            all_goals
              clear hz1 hce hce2 hd0
              go_wp2
              go_loopg [6, 7] (b.size + 1) (fun kq v6 v7 w' => ∃ (i u : Nat), v7 = .int .i64 (i : Int) ∧ v6 = .int .u64 (u : Int) ∧ w' = w ∧ Aside (i + kq = b.size + 1 ∧ i ≤ b.size) ∧ Aside (digs 0 ((d :: t).take i) = some u ∧ u < 10 ^ i))
              case atStart => exact ⟨0, 0, rfl, rfl, rfl, ⟨by omega⟩, ⟨rfl, by simp⟩⟩
              case round =>
                obtain ⟨i, u, rfl, rfl, rfl, HI, HU⟩ := hrel
                cases gk with
                | zero => have := HI.out; omega
                | succ k1 =>
                  by_cases hi : i < b.size
                  · have hib := decide_eq_true (show (i : Int) < (b.size : Int) by omega)
                    have hib2 := decide_eq_true hi
                    have p1 := eq_true (show 0 ≤ (i : Int) by omega)
                    have q1 := eq_true (show (i : Int) < (b.size : Int) by omega)
                    have hub : u ≤ 999999999999999999 := pow_le HU.out.2 (by have := HI.out; omega)
                    obtain ⟨e, he⟩ : ∃ e, e = b[i] := ⟨_, rfl⟩
                    have hsn : digs 0 ((d :: t).take (i + 1)) = if 48 ≤ e.toNat ∧ e.toNat ≤ 57 then some (u * 10 + (e.toNat - 48)) else none := digs_take HBL.out hi he HU.out.1
                    have HSN := Aside.mk hsn
                    rw [← HBL.out] at HXD
                    have hx := he.symm
                    have he256 := UInt8.toNat_lt e
                    clear he hsn
                    by_cases hdg : 48 ≤ e.toNat ∧ e.toNat ≤ 57
                    · have hg1 : decide ((e.toNat : Int) < 48) = false := decide_eq_false (by omega)
                      have hg2 : decide ((57 : Int) < (e.toNat : Int)) = false := decide_eq_false (by omega)
                      have hg3 : decide (e.toNat < 48) = false := decide_eq_false (by omega)
                      have hg4 : decide (57 < e.toNat) = false := decide_eq_false (by omega)
                      have hg5 : (48 : Int) ≤ (e.toNat : Int) := by omega
                      have hg6 : (e.toNat : Int) ≤ 57 := by omega
                      have HDG := Aside.mk hdg
                      have hub' : (u : Int) ≤ 999999999999999999 := by omega
                      clear hdg
                      go_wp2
                      go_roundg k1
                      case measure => omega
                      case rel => exact ⟨i + 1, u * 10 + (e.toNat - 48), by simp; done, by congr 1; omega, rfl, ⟨by have := HI.out; omega⟩, ⟨by rw [HSN.out, if_pos HDG.out], by rw [Nat.pow_succ]; have := HU.out.2; omega⟩⟩
                    · have HXN := Aside.mk (show X = none by rw [HXD.out, digs_none (i + 1) (by rw [HBL.out, HSN.out, if_neg hdg])]; rfl)
                      by_cases hg1 : e.toNat < 48
                      · have hg2 : decide ((e.toNat : Int) < 48) = true := decide_eq_true (by omega)
                        have hg3 : decide (e.toNat < 48) = true := decide_eq_true hg1
                        go_wp2
                        go_ret2
                        exact ⟨by rw [HXN.out]; rfl, rfl⟩
                      · have hg2 : decide ((e.toNat : Int) < 48) = false := decide_eq_false (by omega)
                        have hg3 : decide (e.toNat < 48) = false := decide_eq_false hg1
                        have hg4 : decide ((57 : Int) < (e.toNat : Int)) = true := decide_eq_true (by omega)
                        have hg5 : decide (57 < e.toNat) = true := decide_eq_true (by omega)
                        go_wp2
                        go_ret2
                        exact ⟨by rw [HXN.out]; rfl, rfl⟩
                  · have hib := decide_eq_false (show ¬ (i : Int) < (b.size : Int) by omega)
                    have hib2 := decide_eq_false hi
                    have hfull : digs 0 (d :: t) = some u := by
                      have := HU.out.1
                      rwa [List.take_of_length_le (by have := HBS.out; have := HI.out; simp only [List.length_cons]; omega)] at this
                    rw [hfull] at HXD
                    have hub : u ≤ 9999999999999999999 := pow_le19 HU.out.2 (by have := HI.out; omega)
                    have hu1 : 1 ≤ u := digs_pos hfull (fun h => HNZ.out ⟨h, .inr (by first | rfl | trivial)⟩)
                    by_cases hbig : 9223372036854775808 < u
                    · have hbb := decide_eq_true (show (9223372036854775808 : Int) < (u : Int) by omega)
                      have hbb2 := decide_eq_true hbig
                      have HXN := Aside.mk (show X = none by rw [HXD.out]; simp [numEnd, hbig])
                      go_wp2
                      go_ret2
                      exact ⟨by rw [HXN.out]; rfl, rfl⟩
                    · have hbb := decide_eq_false (show ¬ (9223372036854775808 : Int) < (u : Int) by omega)
                      have hbb2 := decide_eq_false hbig
                      have HXN := Aside.mk (show X = some (-(u : Int)) by rw [HXD.out]; simp [numEnd, hbig])
                      go_wp2
                      go_ret2
                      exact ⟨by rw [HXN.out, neg_u64 u hu1 (by omega)]; rfl, rfl⟩
    · have hc45 : ((c.toNat : Int) == 45) = false := by simp; omega
      have HX := Aside.mk (show X = refBody false s.data.toList by rw [hX, hl, refNumber_plain _ h45])
      clear hX hl h45 hbl
      go_enter Tryd.func37, Tryd.ntmps37
      go_upto_region 4 with (fail)
      clear hc45 hc h1 h1' h1'' HL
      have hbsz := hs
      obtain ⟨rl, hrl⟩ : ∃ rl, rl = s.data.toList := ⟨_, rfl⟩
      rw [← hrl] at HX
      have HBL := Aside.mk hrl.symm
      clear hrl
      generalize s = b at HX HBL hbsz ⊢
      cases hr : rl with
      | nil =>
        subst hr
        have hce : b.toList.isEmpty = true := by rw [ByteArray.toList_eq, HBL.out]; rfl
        have hb0 : b.size = 0 := by have := congrArg List.length HBL.out; simpa using this
        have HXN := Aside.mk (show X = none from HX.out)
        clear hb0
        go_wp2
        go_ret2
        exact ⟨by rw [HXN.out]; rfl, rfl⟩
      | cons d t =>
        subst hr
        have hce : b.toList.isEmpty = false := by rw [ByteArray.toList_eq, HBL.out]; rfl
        have hce2 : (b.toList = []) = False := by rw [ByteArray.toList_eq, HBL.out]; simp
        have hbs : b.size = t.length + 1 := by have := congrArg List.length HBL.out; simpa using this
        have HBS := Aside.mk hbs
        have hb1 : 0 < b.size := by omega
        have hb1' : (0 : Int) < (b.size : Int) := by omega
        have hd0 : b[0]'hb1 = d := by
          have e : b.data.toList[0]'(by rw [HBL.out]; simp) = d := by simp [HBL.out]
          exact e
        clear hbs
        by_cases h19 : 19 < b.size
        · have h19b : decide ((19 : Int) < (b.size : Int)) = true := decide_eq_true (by omega)
          have h19c : decide (19 < b.size) = true := decide_eq_true h19
          have HXN := Aside.mk (show X = none by rw [HX.out, refBody_cons, if_pos (by have := HBS.out; omega)])
          clear h19
          go_wp2
          go_ret2
          exact ⟨by rw [HXN.out]; rfl, rfl⟩
        · have h19b : decide ((19 : Int) < (b.size : Int)) = false := decide_eq_false (by omega)
          have h19c : decide (19 < b.size) = false := decide_eq_false h19
          by_cases hz : d.toNat = 48 ∧ (t ≠ [] ∨ false = true)
          · have hz1 : ((d.toNat : Int) == 48) = true := by simp [hz.1]
            have HXN := Aside.mk (show X = none by rw [HX.out, refBody_cons, if_neg (by have := HBS.out; omega), if_pos hz])
            by_cases ht : 1 < b.size
            · have ht1 : decide ((1 : Int) < (b.size : Int)) = true := decide_eq_true (by omega)
              have ht2 : decide (1 < b.size) = true := decide_eq_true ht
              go_wp2
              go_ret2
              exact ⟨by rw [HXN.out]; rfl, rfl⟩
            · rcases hz.2 with h | h
              · cases t with
                | nil => exact absurd rfl h
                | cons _ _ => have := HBS.out; simp at this; omega
              · cases h
          · have HNZ := Aside.mk hz
            have HXD := Aside.mk (show X = numEnd false (digs 0 (d :: t)) by rw [HX.out, refBody_cons, if_neg (by have := HBS.out; omega), if_neg hz])
            have hcase : (((d.toNat : Int) == 48) = false) ∨ (false = false ∧ ((d.toNat : Int) == 48) = true ∧ b.size = 1) := by
              by_cases h48 : d.toNat = 48
              · refine .inr ⟨?_, by simp [h48], ?_⟩
                · cases hs : (false : Bool) with
                  | true => exact absurd ⟨h48, .inr hs⟩ hz
                  | false => rfl
                · have ht : t = [] := Classical.byContradiction fun ht => hz ⟨h48, .inl ht⟩
                  have := HBS.out
                  rw [ht] at this
                  simpa using this
              · exact .inl (by simp; omega)
            clear hz
            rcases hcase with hz1 | ⟨hsg, hz1, hb2⟩
            all_goals
              try (have ht1 : decide ((1 : Int) < (b.size : Int)) = false := decide_eq_false (by omega))
              try (have ht2 : decide (1 < b.size) = false := decide_eq_false (by omega))
              try clear hsg
              try clear hb2
              go_upto_region 6 with (fail)
            all_goals
              clear hz1 hce hce2 hd0
              go_wp2
              go_loopg [6, 7] (b.size + 1) (fun kq v6 v7 w' => ∃ (i u : Nat), v7 = .int .i64 (i : Int) ∧ v6 = .int .u64 (u : Int) ∧ w' = w ∧ Aside (i + kq = b.size + 1 ∧ i ≤ b.size) ∧ Aside (digs 0 ((d :: t).take i) = some u ∧ u < 10 ^ i))
              case atStart => exact ⟨0, 0, rfl, rfl, rfl, ⟨by omega⟩, ⟨rfl, by simp⟩⟩
              case round =>
                obtain ⟨i, u, rfl, rfl, rfl, HI, HU⟩ := hrel
                cases gk with
                | zero => have := HI.out; omega
                | succ k1 =>
                  by_cases hi : i < b.size
                  · have hib := decide_eq_true (show (i : Int) < (b.size : Int) by omega)
                    have hib2 := decide_eq_true hi
                    have p1 := eq_true (show 0 ≤ (i : Int) by omega)
                    have q1 := eq_true (show (i : Int) < (b.size : Int) by omega)
                    have hub : u ≤ 999999999999999999 := pow_le HU.out.2 (by have := HI.out; omega)
                    obtain ⟨e, he⟩ : ∃ e, e = b[i] := ⟨_, rfl⟩
                    have hsn : digs 0 ((d :: t).take (i + 1)) = if 48 ≤ e.toNat ∧ e.toNat ≤ 57 then some (u * 10 + (e.toNat - 48)) else none := digs_take HBL.out hi he HU.out.1
                    have HSN := Aside.mk hsn
                    rw [← HBL.out] at HXD
                    have hx := he.symm
                    have he256 := UInt8.toNat_lt e
                    clear he hsn
                    by_cases hdg : 48 ≤ e.toNat ∧ e.toNat ≤ 57
                    · have hg1 : decide ((e.toNat : Int) < 48) = false := decide_eq_false (by omega)
                      have hg2 : decide ((57 : Int) < (e.toNat : Int)) = false := decide_eq_false (by omega)
                      have hg3 : decide (e.toNat < 48) = false := decide_eq_false (by omega)
                      have hg4 : decide (57 < e.toNat) = false := decide_eq_false (by omega)
                      have hg5 : (48 : Int) ≤ (e.toNat : Int) := by omega
                      have hg6 : (e.toNat : Int) ≤ 57 := by omega
                      have HDG := Aside.mk hdg
                      have hub' : (u : Int) ≤ 999999999999999999 := by omega
                      clear hdg
                      go_wp2
                      go_roundg k1
                      case measure => omega
                      case rel => exact ⟨i + 1, u * 10 + (e.toNat - 48), by simp; done, by congr 1; omega, rfl, ⟨by have := HI.out; omega⟩, ⟨by rw [HSN.out, if_pos HDG.out], by rw [Nat.pow_succ]; have := HU.out.2; omega⟩⟩
                    · have HXN := Aside.mk (show X = none by rw [HXD.out, digs_none (i + 1) (by rw [HBL.out, HSN.out, if_neg hdg])]; rfl)
                      by_cases hg1 : e.toNat < 48
                      · have hg2 : decide ((e.toNat : Int) < 48) = true := decide_eq_true (by omega)
                        have hg3 : decide (e.toNat < 48) = true := decide_eq_true hg1
                        go_wp2
                        go_ret2
                        exact ⟨by rw [HXN.out]; rfl, rfl⟩
                      · have hg2 : decide ((e.toNat : Int) < 48) = false := decide_eq_false (by omega)
                        have hg3 : decide (e.toNat < 48) = false := decide_eq_false hg1
                        have hg4 : decide ((57 : Int) < (e.toNat : Int)) = true := decide_eq_true (by omega)
                        have hg5 : decide (57 < e.toNat) = true := decide_eq_true (by omega)
                        go_wp2
                        go_ret2
                        exact ⟨by rw [HXN.out]; rfl, rfl⟩
                  · have hib := decide_eq_false (show ¬ (i : Int) < (b.size : Int) by omega)
                    have hib2 := decide_eq_false hi
                    have hfull : digs 0 (d :: t) = some u := by
                      have := HU.out.1
                      rwa [List.take_of_length_le (by have := HBS.out; have := HI.out; simp only [List.length_cons]; omega)] at this
                    rw [hfull] at HXD
                    have hub : u ≤ 9999999999999999999 := pow_le19 HU.out.2 (by have := HI.out; omega)
                    by_cases hbig : 9223372036854775808 ≤ u
                    · have hbb := decide_eq_true (show (9223372036854775808 : Int) ≤ (u : Int) by omega)
                      have hbb2 := decide_eq_true hbig
                      have HXN := Aside.mk (show X = none by rw [HXD.out]; simp [numEnd, hbig])
                      go_wp2
                      go_ret2
                      exact ⟨by rw [HXN.out]; rfl, rfl⟩
                    · have hbb := decide_eq_false (show ¬ (9223372036854775808 : Int) ≤ (u : Int) by omega)
                      have hbb2 := decide_eq_false hbig
                      have HXN := Aside.mk (show X = some (u : Int) by rw [HXD.out]; simp [numEnd, hbig])
                      go_wp2
                      go_ret2
                      exact ⟨by rw [HXN.out]; rfl, rfl⟩
end Go.Proofs.YtbadcpaopdbgnaaDoor.Lang
