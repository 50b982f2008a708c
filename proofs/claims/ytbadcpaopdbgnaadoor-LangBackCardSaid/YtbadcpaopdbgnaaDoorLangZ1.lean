/-
  Walks: how many ops there are, in the program.
-/
import Derived.Test.YtbadcpaopdbgnaaDoorLangY
import Derived.Test.YtbadcpaopdbgnaaDoorLangP
namespace Go.Proofs.YtbadcpaopdbgnaaDoor.Lang
open Go.RowKit Go.Shelf
set_option linter.unusedVariables false
set_option linter.unusedSimpArgs false

theorem blockK_calls (k : Int) (w : World) : Calls Tryd.prog 35 #[.int .i64 k] w fun e w' => e = .returned (.bool (decide (k = 28 ∨ k = 29))) ∧ w' = w := by
  by_cases h1 : k = 28
  · subst h1
    go_enter Tryd.func35, Tryd.ntmps35
    go_wp2
    go_ret
    exact ⟨rfl, rfl⟩
  · by_cases h2 : k = 29
    · subst h2
      go_enter Tryd.func35, Tryd.ntmps35
      go_wp2
      go_ret
      exact ⟨rfl, rfl⟩
    · have e : decide (k = 28 ∨ k = 29) = false := decide_eq_false (fun h => h.elim h1 h2)
      have h1b : (k == 28) = false := by simpa using h1
      have h2b : (k == 29) = false := by simpa using h2
      rw [e]
      clear e h1 h2
      go_enter Tryd.func35, Tryd.ntmps35
      go_wp2
      go_ret
      exact ⟨rfl, rfl⟩
theorem drop_zero (l : Ops) : l.drop 0 = l := by cases l <;> rfl
theorem cnt_cons (k m : Int) (b r : Ops) (n d : Nat) : cnt (.cons k m b r) n d = if ¬ (1 ≤ k ∧ k ≤ 30 ∧ (m = 0 ∨ k = 1) ∧ (b.len = 0 ∨ k = 28 ∨ k = 29)) ∨ 128 < n + 1 ∨ ((k = 28 ∨ k = 29) ∧ d = 6) then 129 else cnt r (n + 1 + cnt b 0 (d + 1)) d := rfl
/-- The first thing that is wrong with an op, or none. -/
theorem op_ways (k m : Int) (bl : Nat) (n d : Nat) : 
    (¬ 1 ≤ k) ∨ (1 ≤ k ∧ ¬ k ≤ 30) ∨ (1 ≤ k ∧ k ≤ 30 ∧ m ≠ 0 ∧ k ≠ 1) ∨
    (1 ≤ k ∧ k ≤ 30 ∧ ((m = 0) ∨ (m ≠ 0 ∧ k = 1)) ∧ ((bl = 0) ∨ (bl ≠ 0 ∧ (k = 28 ∨ k = 29)) ∨ (bl ≠ 0 ∧ ¬ (k = 28 ∨ k = 29)))) := by
  omega

set_option maxRecDepth 100000 in
set_option maxHeartbeats 16000000 in
theorem lcount_calls : ∀ (N : Nat) (l : Ops) (v : Value) (d : Nat) (w : World), l.size < N → Rd w v l → (d ≤ 6 ∨ (d = 7 ∧ l = .nil)) → Calls Tryd.prog 32 #[v, .int .i64 (d : Int)] w fun e w' => e = .returned (.int .i64 (cnt l 0 d : Nat)) ∧ Below w.heap.size w w' := by
  intro N
  induction N with
  | zero => intro l v d w hN; omega
  | succ N ih =>
    intro l v d w hN h1 hd
    have H1 := Aside.mk h1
    have IH := Aside.mk ih
    have HD := Aside.mk hd
    have HS := Aside.mk hN
    obtain ⟨A1, c1, rfl, hb1, hc1⟩ := h1
    clear hc1 ih hN hd
    obtain ⟨n, hn⟩ : ∃ n, n = l.len := ⟨_, rfl⟩
    rw [← hn] at H1 ⊢
    have HNL := Aside.mk hn
    have hnb : n ≤ 9223372036854775807 := by omega
    obtain ⟨R, hR⟩ : ∃ R, R = cnt l 0 d := ⟨_, rfl⟩
    rw [← hR]
    have HR0 := Aside.mk hR.symm
    clear hn hb1 hR
    have hd7 : d ≤ 7 := by have := HD.out; omega
    go_enter Tryd.func32, Tryd.ntmps32
    go_wp2
    go_loopg [5, 11] (n + 1) (fun kq v5 v11 w' => ∃ (i m : Nat), v11 = .int .i64 (i : Int) ∧ v5 = .int .i64 (m : Int) ∧ Aside (i + kq = n + 1 ∧ i ≤ n) ∧ Aside (Below w.heap.size w w') ∧ Aside (cnt (l.drop i) m d = R) ∧ Aside (d ≤ 6 → m ≤ 129 * (8 - d)) ∧ Aside (d = 7 → m = 0))
    case atStart => exact ⟨0, 0, rfl, rfl, ⟨by omega⟩, ⟨Below.refl _ _⟩, ⟨by rw [drop_zero]; exact HR0.out⟩, ⟨fun _ => by omega⟩, ⟨fun _ => rfl⟩⟩
    case round =>
      obtain ⟨i, m, rfl, rfl, HI, HB, HR, HM, HM7⟩ := hrel
      have hm1032 : m ≤ 1032 := by
        have h1 := HM.out
        have h2 := HM7.out
        omega
      cases gk with
      | zero => have := HI.out; omega
      | succ k1 =>
        by_cases hi : i < n
        · have hib := decide_eq_true (show (i : Int) < (n : Int) by omega)
          have hib2 := decide_eq_true hi
          have p1 := eq_true (show 0 ≤ (i : Int) by omega)
          have q1 := eq_true (show (i : Int) < (n : Int) by omega)
          have hd6 : d ≤ 6 := by
            rcases HD.out with h | ⟨_, h⟩
            · exact h
            · have := HNL.out
              rw [h] at this
              simp [Ops.len] at this
              omega
          obtain ⟨⟨k, x, b⟩, hxa⟩ := Ops.get_lt (l := l) (i := i) (by have := HNL.out; omega)
          obtain ⟨ad1, _, e1, a0, a1, va, a2, hra⟩ := H1.out.get hxa
          cases e1
          obtain ⟨Ab, cb, rfl, hbb, -⟩ := id hra
          have HDR := Aside.mk (Ops.drop_get hxa)
          have hsz := Ops.get_size hxa
          have HRB := Aside.mk hra
          have HSZ := Aside.mk hsz
          have a0' := keep_below HB.out _ _ a0
          have a1' := keep_below HB.out _ _ a1
          have a2' := keep_below HB.out _ _ a2
          clear hra hxa hsz a0 a1 a2
          simp only at a0' a1' HDR HSZ a2' HRB hbb
          go_upto_region 5 with (fail)
          have HB1 := Aside.mk (HB.out.alloc HB.out.size (.cells #[.int .i64 k, .int .i64 x, .slice Ab b.len cb] 62))
          have hblk := heap_alloc_new wr (.cells #[.int .i64 k, .int .i64 x, .slice Ab b.len cb] 62)
          have HRB1 := Aside.mk (HRB.out.keep (keep_below HB1.out))
          obtain ⟨g7, hg7⟩ : ∃ g7, g7 = wr.heap.size := ⟨_, rfl⟩
          rw [← hg7] at hblk ⊢
          clear hg7 a0' a1' a2' HRB
          generalize wr.alloc (.cells #[.int .i64 k, .int .i64 x, .slice Ab b.len cb] 62) = W at HB1 hblk HRB1 ⊢
          obtain ⟨x0, x1, x2, -, -, -⟩ := blk3 hblk
          clear hblk
          have hbk := blockK_calls k
          have HBK := Aside.mk hbk
          clear hbk
          obtain ⟨bn, hbn⟩ : ∃ bn, bn = b.len := ⟨_, rfl⟩
          rw [← hbn] at x2 HRB1 hbb ⊢
          have HBN := Aside.mk hbn
          clear hbn
          have hwm : IntKind.i64.wrap ((m : Int) + 1) = (m : Int) + 1 := by
            rw [IntKind.wrap_i64]
            omega
          rcases op_ways k x bn m d with h1 | ⟨h1, h2⟩ | ⟨h1, h2, h3, h4⟩ | ⟨h1, h2, h3, h5⟩
          · have HRE := Aside.mk (show R = 129 by rw [← HR.out, HDR.out, cnt_cons, if_pos (.inl (by omega))])
            have e1 : decide ((1 : Int) ≤ k) = false := decide_eq_false h1
            clear h1
            go_wp2
            go_ret
            exact ⟨by rw [HRE.out]; rfl, HB1.out⟩
          · have HRE := Aside.mk (show R = 129 by rw [← HR.out, HDR.out, cnt_cons, if_pos (.inl (by omega))])
            have e1 : decide ((1 : Int) ≤ k) = true := decide_eq_true h1
            have e2 : decide (k ≤ (30 : Int)) = false := decide_eq_false h2
            clear h2
            go_wp2
            go_ret
            exact ⟨by rw [HRE.out]; rfl, HB1.out⟩
          · have HRE := Aside.mk (show R = 129 by rw [← HR.out, HDR.out, cnt_cons, if_pos (.inl (by omega))])
            have e1 : decide ((1 : Int) ≤ k) = true := decide_eq_true h1
            have e2 : decide (k ≤ (30 : Int)) = true := decide_eq_true h2
            have e3 : (x == 0) = false := by simpa using h3
            have e4 : (k == 1) = false := by simpa using h4
            clear h3 h4
            go_wp2
            go_ret
            exact ⟨by rw [HRE.out]; rfl, HB1.out⟩
          · have e1 : decide ((1 : Int) ≤ k) = true := decide_eq_true h1
            have e2 : decide (k ≤ (30 : Int)) = true := decide_eq_true h2
            have HPL := Aside.mk (show x = 0 ∨ k = 1 by omega)
            have HK1 := Aside.mk (And.intro h1 h2)
            clear h1 h2
            have e34 : (x == 0) = true ∨ ((x == 0) = false ∧ (k == 1) = true) := by
              rcases h3 with h | ⟨h, h'⟩
              · exact .inl (by simpa using h)
              · exact .inr ⟨by simpa using h, by simpa using h'⟩
            clear h3
            rcases h5 with h5 | ⟨h5, h6⟩ | ⟨h5, h6⟩
            · have e5 : ((bn : Int) == 0) = true := by simpa using h5
              have e5' : (bn == 0) = true := by simpa using h5
              have HOKP := Aside.mk (show 1 ≤ k ∧ k ≤ 30 ∧ (x = 0 ∨ k = 1) ∧ (b.len = 0 ∨ k = 28 ∨ k = 29) from ⟨HK1.out.1, HK1.out.2, HPL.out, .inl (by have := HBN.out; omega)⟩)
              clear h5
              rcases e34 with e3 | ⟨e3, e4⟩
              all_goals
                by_cases hm : 128 < m + 1
                · have e7 : decide ((128 : Int) < (m : Int) + 1) = true := decide_eq_true (by omega)
                  have HRE := Aside.mk (show R = 129 by rw [← HR.out, HDR.out, cnt_cons, if_pos (.inr (.inl hm))])
                  clear hm
                  go_wp2_with (first | (go_at_call 35; refine (HBK.out _).mono ?_; rintro e w' ⟨rfl, hw'⟩; replace hw' := hw'.symm; subst hw'))
                  go_ret
                  exact ⟨by rw [HRE.out]; rfl, HB1.out⟩
                · have e7 : decide ((128 : Int) < (m : Int) + 1) = false := decide_eq_false (by omega)
                  have HNM := Aside.mk hm
                  clear hm
                  by_cases h6 : k = 28 ∨ k = 29
                  · have e6 : decide (k = 28 ∨ k = 29) = true := decide_eq_true h6
                    have HK6 := Aside.mk h6
                    rw [e6] at HBK
                    clear e6 h6
                    by_cases h6 : d = 6
                    · have e8 : ((d : Int) == 6) = true := by simp [h6]
                      have HRE := Aside.mk (show R = 129 by rw [← HR.out, HDR.out, cnt_cons, if_pos (.inr (.inr ⟨HK6.out, h6⟩))])
                      clear h6
                      go_wp2_with (first | (go_at_call 35; refine (HBK.out _).mono ?_; rintro e w' ⟨rfl, hw'⟩; replace hw' := hw'.symm; subst hw'))
                      go_ret
                      exact ⟨by rw [HRE.out]; rfl, HB1.out⟩
                    · have e8 : ((d : Int) == 6) = false := by simp; omega
                      have HN6 := Aside.mk (show ¬ ((k = 28 ∨ k = 29) ∧ d = 6) from fun h => h6 h.2)
                      have HCD := Aside.mk (show d + 1 ≤ 6 ∨ (d + 1 = 7 ∧ b = .nil) from .inl (by omega))
                      have HCB := Aside.mk (show cnt b 0 (d + 1) ≤ 1032 by have := cnt_le b 0 (d + 1) (by omega) (by omega); omega)
                      have HCM := Aside.mk (show m + 1 + cnt b 0 (d + 1) ≤ 129 * (8 - d) by have := cnt_le b 0 (d + 1) (by omega) (by omega); have := HNM.out; omega)
                      clear h6
                      have hcall := IH.out b (.slice Ab bn cb) (d + 1) W (by have h1 := HSZ.out; have h2 := HS.out; omega) HRB1.out HCD.out
                      have HC := Aside.mk (show Calls Tryd.prog 32 #[.slice Ab bn cb, .int .i64 ((d : Int) + 1)] W _ from hcall)
                      have hcb : cnt b 0 (d + 1) ≤ 1032 := HCB.out
                      have HNX := Aside.mk (show cnt (l.drop (i + 1)) (m + 1 + cnt b 0 (d + 1)) d = R by rw [← HR.out, HDR.out, cnt_cons, if_neg (fun h => by rcases h with h | h | h; exact h HOKP.out; exact HNM.out h; exact HN6.out h)])
                      clear hcall
                      obtain ⟨cb2, hcb2⟩ : ∃ cb2, cb2 = cnt b 0 (d + 1) := ⟨_, rfl⟩
                      rw [← hcb2] at HC hcb HNX HCM
                      clear hcb2
                      go_wp2_with (first | (go_at_call 35; refine (HBK.out _).mono ?_; rintro e w' ⟨rfl, hw'⟩; replace hw' := hw'.symm; subst hw') | (go_at_call 32; refine HC.out.mono ?_; rintro e w5 ⟨rfl, hb⟩; have HB5 := Aside.mk hb; clear hb))
                      go_roundg k1
                      case measure => omega
                      case rel => exact ⟨i + 1, m + 1 + cb2, by simp; done, by first | (congr 1; done) | (congr 1; omega), ⟨by have := HI.out; omega⟩, ⟨HB1.out.trans (HB5.out.mono HB1.out.size)⟩, HNX, ⟨fun _ => HCM.out⟩, ⟨fun h => by omega⟩⟩
                  · have e6 : decide (k = 28 ∨ k = 29) = false := decide_eq_false h6
                    have HN6 := Aside.mk (show ¬ ((k = 28 ∨ k = 29) ∧ d = 6) from fun h => h6 h.1)
                    have hbnil : b = .nil := Ops.len_zero (by have := HOKP.out.2.2.2; omega)
                    have HCD := Aside.mk (show d + 1 ≤ 6 ∨ (d + 1 = 7 ∧ b = .nil) from (by rcases Nat.lt_or_ge d 6 with h | h; exact .inl (by omega); exact .inr ⟨by omega, hbnil⟩))
                    have HCB := Aside.mk (show cnt b 0 (d + 1) ≤ 1032 by rw [hbnil]; simp [cnt])
                    have HCM := Aside.mk (show m + 1 + cnt b 0 (d + 1) ≤ 129 * (8 - d) by rw [hbnil]; have := HNM.out; simp only [cnt]; omega)
                    rw [e6] at HBK
                    clear e6 h6 hbnil
                    have hcall := IH.out b (.slice Ab bn cb) (d + 1) W (by have h1 := HSZ.out; have h2 := HS.out; omega) HRB1.out HCD.out
                    have HC := Aside.mk (show Calls Tryd.prog 32 #[.slice Ab bn cb, .int .i64 ((d : Int) + 1)] W _ from hcall)
                    have hcb : cnt b 0 (d + 1) ≤ 1032 := HCB.out
                    have HNX := Aside.mk (show cnt (l.drop (i + 1)) (m + 1 + cnt b 0 (d + 1)) d = R by rw [← HR.out, HDR.out, cnt_cons, if_neg (fun h => by rcases h with h | h | h; exact h HOKP.out; exact HNM.out h; exact HN6.out h)])
                    clear hcall
                    obtain ⟨cb2, hcb2⟩ : ∃ cb2, cb2 = cnt b 0 (d + 1) := ⟨_, rfl⟩
                    rw [← hcb2] at HC hcb HNX HCM
                    clear hcb2
                    go_wp2_with (first | (go_at_call 35; refine (HBK.out _).mono ?_; rintro e w' ⟨rfl, hw'⟩; replace hw' := hw'.symm; subst hw') | (go_at_call 32; refine HC.out.mono ?_; rintro e w5 ⟨rfl, hb⟩; have HB5 := Aside.mk hb; clear hb))
                    go_roundg k1
                    case measure => omega
                    case rel => exact ⟨i + 1, m + 1 + cb2, by simp; done, by first | (congr 1; done) | (congr 1; omega), ⟨by have := HI.out; omega⟩, ⟨HB1.out.trans (HB5.out.mono HB1.out.size)⟩, HNX, ⟨fun _ => HCM.out⟩, ⟨fun h => by omega⟩⟩
            · have e5 : ((bn : Int) == 0) = false := by simpa using h5
              have e5' : (bn == 0) = false := by simpa using h5
              have HOKP := Aside.mk (show 1 ≤ k ∧ k ≤ 30 ∧ (x = 0 ∨ k = 1) ∧ (b.len = 0 ∨ k = 28 ∨ k = 29) from ⟨HK1.out.1, HK1.out.2, HPL.out, .inr h6⟩)
              have e6 : decide (k = 28 ∨ k = 29) = true := decide_eq_true h6
              rw [e6] at HBK
              have HK6 := Aside.mk h6
              clear h5 e6 h6
              rcases e34 with e3 | ⟨e3, e4⟩
              all_goals
                by_cases hm : 128 < m + 1
                · have e7 : decide ((128 : Int) < (m : Int) + 1) = true := decide_eq_true (by omega)
                  have HRE := Aside.mk (show R = 129 by rw [← HR.out, HDR.out, cnt_cons, if_pos (.inr (.inl hm))])
                  clear hm
                  go_wp2_with (first | (go_at_call 35; refine (HBK.out _).mono ?_; rintro e w' ⟨rfl, hw'⟩; replace hw' := hw'.symm; subst hw'))
                  go_ret
                  exact ⟨by rw [HRE.out]; rfl, HB1.out⟩
                · have e7 : decide ((128 : Int) < (m : Int) + 1) = false := decide_eq_false (by omega)
                  have HNM := Aside.mk hm
                  clear hm
                  by_cases h6 : d = 6
                  · have e8 : ((d : Int) == 6) = true := by simp [h6]
                    have HRE := Aside.mk (show R = 129 by rw [← HR.out, HDR.out, cnt_cons, if_pos (.inr (.inr ⟨HK6.out, h6⟩))])
                    clear h6
                    go_wp2_with (first | (go_at_call 35; refine (HBK.out _).mono ?_; rintro e w' ⟨rfl, hw'⟩; replace hw' := hw'.symm; subst hw'))
                    go_ret
                    exact ⟨by rw [HRE.out]; rfl, HB1.out⟩
                  · have e8 : ((d : Int) == 6) = false := by simp; omega
                    have HN6 := Aside.mk (show ¬ ((k = 28 ∨ k = 29) ∧ d = 6) from fun h => h6 h.2)
                    have HCD := Aside.mk (show d + 1 ≤ 6 ∨ (d + 1 = 7 ∧ b = .nil) from .inl (by omega))
                    have HCB := Aside.mk (show cnt b 0 (d + 1) ≤ 1032 by have := cnt_le b 0 (d + 1) (by omega) (by omega); omega)
                    have HCM := Aside.mk (show m + 1 + cnt b 0 (d + 1) ≤ 129 * (8 - d) by have := cnt_le b 0 (d + 1) (by omega) (by omega); have := HNM.out; omega)
                    clear h6
                    have hcall := IH.out b (.slice Ab bn cb) (d + 1) W (by have h1 := HSZ.out; have h2 := HS.out; omega) HRB1.out HCD.out
                    have HC := Aside.mk (show Calls Tryd.prog 32 #[.slice Ab bn cb, .int .i64 ((d : Int) + 1)] W _ from hcall)
                    have hcb : cnt b 0 (d + 1) ≤ 1032 := HCB.out
                    have HNX := Aside.mk (show cnt (l.drop (i + 1)) (m + 1 + cnt b 0 (d + 1)) d = R by rw [← HR.out, HDR.out, cnt_cons, if_neg (fun h => by rcases h with h | h | h; exact h HOKP.out; exact HNM.out h; exact HN6.out h)])
                    clear hcall
                    obtain ⟨cb2, hcb2⟩ : ∃ cb2, cb2 = cnt b 0 (d + 1) := ⟨_, rfl⟩
                    rw [← hcb2] at HC hcb HNX HCM
                    clear hcb2
                    go_wp2_with (first | (go_at_call 35; refine (HBK.out _).mono ?_; rintro e w' ⟨rfl, hw'⟩; replace hw' := hw'.symm; subst hw') | (go_at_call 32; refine HC.out.mono ?_; rintro e w5 ⟨rfl, hb⟩; have HB5 := Aside.mk hb; clear hb))
                    go_roundg k1
                    case measure => omega
                    case rel => exact ⟨i + 1, m + 1 + cb2, by simp; done, by first | (congr 1; done) | (congr 1; omega), ⟨by have := HI.out; omega⟩, ⟨HB1.out.trans (HB5.out.mono HB1.out.size)⟩, HNX, ⟨fun _ => HCM.out⟩, ⟨fun h => by omega⟩⟩
            · have e5 : ((bn : Int) == 0) = false := by simpa using h5
              have e5' : (bn == 0) = false := by simpa using h5
              have HRE := Aside.mk (show R = 129 by rw [← HR.out, HDR.out, cnt_cons, if_pos (.inl (by have := HBN.out; omega))])
              have e6 : decide (k = 28 ∨ k = 29) = false := decide_eq_false h6
              rw [e6] at HBK
              clear h5 e6 h6
              rcases e34 with e3 | ⟨e3, e4⟩
              all_goals
                go_wp2_with (first | (go_at_call 35; refine (HBK.out _).mono ?_; rintro e w' ⟨rfl, hw'⟩; replace hw' := hw'.symm; subst hw'))
                go_ret
                exact ⟨by rw [HRE.out]; rfl, HB1.out⟩
        · have hib := decide_eq_false (show ¬ (i : Int) < (n : Int) by omega)
          have hib2 := decide_eq_false hi
          have HRE := Aside.mk (show R = m by rw [← HR.out, Ops.drop_all (by have := HNL.out; omega)]; rfl)
          go_wp2
          go_ret
          exact ⟨by rw [HRE.out]; rfl, HB.out⟩

set_option maxRecDepth 100000 in
set_option maxHeartbeats 4000000 in
theorem Count_calls (l : Ops) (v : Value) (w : World) (h : Rd w v l) : Calls Tryd.prog 18 #[v] w fun e w' => e = .returned (.tuple #[.int .i64 (if okOps l 0 = true ∧ l.size ≤ 128 then (l.size : Int) else 0), .int .i64 (if okOps l 0 = true ∧ l.size ≤ 128 then 0 else 1)]) ∧ Below w.heap.size w w' := by
  have hc := lcount_calls (l.size + 1) l v 0 w (Nat.lt_succ_self _) h (.inl (by omega))
  have hs := cnt_spec l 0 0 (by omega)
  have hle := cnt_le l 0 0 (by omega) (by omega)
  have HC := Aside.mk (show Calls Tryd.prog 32 #[v, .int .i64 0] w _ from hc)
  by_cases hok : okOps l 0 = true ∧ l.size ≤ 128
  · rw [if_pos hok, if_pos hok]
    have e := hs.1 ⟨hok.1, by omega⟩
    rw [Nat.zero_add] at e
    rw [e] at HC
    have h1 : decide ((128 : Int) < (l.size : Int)) = false := decide_eq_false (by omega)
    have h1' : decide (128 < l.size) = false := decide_eq_false (by omega)
    generalize l.size = z at HC h1 h1'
    clear hc hs hle hok e h
    go_enter Tryd.func18, Tryd.ntmps18
    go_wp2_with (first | (go_at_call 32; refine HC.out.mono ?_; rintro e w5 ⟨rfl, hb⟩; have HB5 := Aside.mk hb; clear hb))
    go_ret2
    exact ⟨rfl, HB5.out⟩
  · rw [if_neg hok, if_neg hok]
    have e := hs.2 (fun h' => hok ⟨h'.1, by omega⟩)
    have h1 : decide ((128 : Int) < (cnt l 0 0 : Nat)) = true := decide_eq_true (by omega)
    have h1' : decide (128 < cnt l 0 0) = true := decide_eq_true (by omega)
    generalize cnt l 0 0 = z at HC h1 h1'
    clear hc hs hle hok e h
    go_enter Tryd.func18, Tryd.ntmps18
    go_wp2_with (first | (go_at_call 32; refine HC.out.mono ?_; rintro e w5 ⟨rfl, hb⟩; have HB5 := Aside.mk hb; clear hb))
    go_ret2
    exact ⟨rfl, HB5.out⟩
set_option maxRecDepth 100000 in
set_option maxHeartbeats 4000000 in
theorem Check_calls (l : Ops) (v : Value) (w : World) (h : Rd w v l) : Calls Tryd.prog 19 #[v] w fun e w' => e = .returned (.int .i64 (if okOps l 0 = true ∧ l.size ≤ 128 then 0 else 1)) ∧ Below w.heap.size w w' := by
  have HC := Aside.mk (Count_calls l v w h)
  generalize (if okOps l 0 = true ∧ l.size ≤ 128 then (l.size : Int) else 0) = z1 at HC
  generalize (if okOps l 0 = true ∧ l.size ≤ 128 then (0 : Int) else 1) = z2 at HC ⊢
  go_enter Tryd.func19, Tryd.ntmps19
  go_wp2_with (first | (go_at_call 18; refine HC.out.mono ?_; rintro e w5 ⟨rfl, hb⟩; have HB5 := Aside.mk hb; clear hb))
  go_ret
  exact ⟨rfl, HB5.out⟩
end Go.Proofs.YtbadcpaopdbgnaaDoor.Lang
