/-
  Walks: how many ops there are, by the page.
-/
import Derived.Test.YtbadcpaopdbgnaaDoorLangZ1
namespace Go.Proofs.YtbadcpaopdbgnaaDoor.Lang
open Go.RowKit Go.Shelf
set_option linter.unusedVariables false
set_option linter.unusedSimpArgs false

def rcF (l : Ops) (m d : Nat) : Nat × Bool := if 6 < d then (m, false) else rc l m d
theorem rc_cons (k n : Int) (b r : Ops) (m d : Nat) : rc (.cons k n b r) m d =
    if 128 < m + 1 then (m + 1, false)
    else if k < 1 ∨ 30 < k ∨ (k ≠ 1 ∧ n ≠ 0) ∨ (¬ (k = 28 ∨ k = 29) ∧ 0 < b.len) then (m + 1, false)
    else if k = 28 ∨ k = 29 then
      (if 6 < d + 1 then (m + 1, false) else if (rc b (m + 1) (d + 1)).2 then rc r (rc b (m + 1) (d + 1)).1 d else ((rc b (m + 1) (d + 1)).1, false))
    else rc r (m + 1) d := rfl
theorem rc_limit {k n : Int} {b r : Ops} {m d : Nat} (h : 128 < m + 1) : rc (.cons k n b r) m d = (m + 1, false) := by rw [rc_cons, if_pos h]
theorem rc_bad {k n : Int} {b r : Ops} {m d : Nat} (h : ¬ 128 < m + 1) (hb : k < 1 ∨ 30 < k ∨ (k ≠ 1 ∧ n ≠ 0) ∨ (¬ (k = 28 ∨ k = 29) ∧ 0 < b.len)) : rc (.cons k n b r) m d = (m + 1, false) := by rw [rc_cons, if_neg h, if_pos hb]
theorem rc_plain {k n : Int} {b r : Ops} {m d : Nat} (h : ¬ 128 < m + 1) (hb : ¬ (k < 1 ∨ 30 < k ∨ (k ≠ 1 ∧ n ≠ 0) ∨ (¬ (k = 28 ∨ k = 29) ∧ 0 < b.len))) (hk : ¬ (k = 28 ∨ k = 29)) : rc (.cons k n b r) m d = rc r (m + 1) d := by rw [rc_cons, if_neg h, if_neg hb, if_neg hk]
theorem rc_block {k n : Int} {b r : Ops} {m d : Nat} (h : ¬ 128 < m + 1) (hx : n = 0) (hk : k = 28 ∨ k = 29) : rc (.cons k n b r) m d = if (rcF b (m + 1) (d + 1)).2 then rc r (rcF b (m + 1) (d + 1)).1 d else ((rcF b (m + 1) (d + 1)).1, false) := by
  rw [rc_cons, if_neg h, if_neg (by omega), if_pos hk]
  unfold rcF
  by_cases h6 : 6 < d + 1
  · rw [if_pos h6, if_pos h6]
    rfl
  · rw [if_neg h6, if_neg h6]
theorem rcF_le {l : Ops} {m d : Nat} (h : (rcF l m d).2 = true) (hm : m ≤ 128) : (rcF l m d).1 ≤ 128 := by
  unfold rcF at h ⊢
  by_cases h6 : 6 < d
  · rw [if_pos h6] at h
    cases h
  · rw [if_neg h6] at h ⊢
    have hs := rc_spec l m d (by omega)
    by_cases hok : okOps l d = true ∧ m + l.size ≤ 128
    · rw [hs.1 hok]
      exact hok.2
    · rw [hs.2 hm hok] at h
      cases h

set_option maxRecDepth 100000 in
set_option maxHeartbeats 16000000 in
theorem rcount_calls : ∀ (N : Nat) (l : Ops) (v : Value) (d m : Nat) (w : World), l.size < N → Rd w v l → d ≤ 7 → m ≤ 128 → Calls Tryd.prog 27 #[v, .int .i64 (d : Int), .int .i64 (m : Int)] w fun e w' => e = .returned (.tuple #[.int .i64 ((rcF l m d).1 : Nat), .bool (rcF l m d).2]) ∧ Below w.heap.size w w' := by
  intro N
  induction N with
  | zero => intro l v d m w hN; omega
  | succ N ih =>
    intro l v d m0 w hN h1 hd hm0
    have H1 := Aside.mk h1
    have IH := Aside.mk ih
    have HS := Aside.mk hN
    obtain ⟨A1, c1, rfl, hb1, hc1⟩ := h1
    clear hc1 ih hN
    obtain ⟨n, hn⟩ : ∃ n, n = l.len := ⟨_, rfl⟩
    rw [← hn] at H1 ⊢
    have HNL := Aside.mk hn
    have hnb : n ≤ 9223372036854775807 := by omega
    clear hn hb1
    by_cases h6 : 6 < d
    · have e1 : decide ((6 : Int) < (d : Int)) = true := decide_eq_true (by omega)
      have e1' : decide (6 < d) = true := decide_eq_true h6
      have hR : rcF l m0 d = (m0, false) := by unfold rcF; rw [if_pos h6]
      rw [hR]
      clear hR h6
      go_enter Tryd.func27, Tryd.ntmps27
      go_wp2
      go_ret2
      exact ⟨rfl, Below.refl _ _⟩
    · have e1 : decide ((6 : Int) < (d : Int)) = false := decide_eq_false (by omega)
      have e1' : decide (6 < d) = false := decide_eq_false h6
      have hd6 : d ≤ 6 := by omega
      have hR : rcF l m0 d = rc l m0 d := by unfold rcF; rw [if_neg h6]
      rw [hR]
      obtain ⟨R, hR'⟩ : ∃ R, R = rc l m0 d := ⟨_, rfl⟩
      rw [← hR']
      have HR0 := Aside.mk hR'.symm
      clear hR hR' h6
      go_enter Tryd.func27, Tryd.ntmps27
      go_wp2
      clear e1 e1'
      go_loopg [2, 8] (n + 1) (fun kq v2 v8 w' => ∃ (i m : Nat), v8 = .int .i64 (i : Int) ∧ v2 = .int .i64 (m : Int) ∧ Aside (i + kq = n + 1 ∧ i ≤ n ∧ m ≤ 128) ∧ Aside (Below w.heap.size w w') ∧ Aside (rc (l.drop i) m d = R))
      case atStart => exact ⟨0, m0, rfl, rfl, ⟨by omega⟩, ⟨Below.refl _ _⟩, ⟨by rw [drop_zero]; exact HR0.out⟩⟩
      case round =>
        obtain ⟨i, m, rfl, rfl, HI, HB, HR⟩ := hrel
        have hm128 : m ≤ 128 := HI.out.2.2
        cases gk with
        | zero => have := HI.out; omega
        | succ k1 =>
          by_cases hi : i < n
          · have hib := decide_eq_true (show (i : Int) < (n : Int) by omega)
            have hib2 := decide_eq_true hi
            have p1 := eq_true (show 0 ≤ (i : Int) by omega)
            have q1 := eq_true (show (i : Int) < (n : Int) by omega)
            obtain ⟨⟨k, x, b⟩, hxa⟩ := Ops.get_lt (l := l) (i := i) (by have := HNL.out; omega)
            obtain ⟨ad1, _, ee, a0, a1, va, a2, hra⟩ := H1.out.get hxa
            cases ee
            obtain ⟨Ab, cb, rfl, hbb, -⟩ := id hra
            have HDR := Aside.mk (Ops.drop_get hxa)
            have hsz := Ops.get_size hxa
            have HRB := Aside.mk hra
            have HSZ := Aside.mk hsz
            have a0' := keep_below HB.out _ _ a0
            have a1' := keep_below HB.out _ _ a1
            have a2' := keep_below HB.out _ _ a2
            clear hra hxa hsz a0 a1 a2
            simp only at a0' a1' HDR HSZ a2' HRB hbb
            by_cases hm : 128 < m + 1
            · have e7 : decide ((128 : Int) < (m : Int) + 1) = true := decide_eq_true (by omega)
              have HRE := Aside.mk (show R = (m + 1, false) by rw [← HR.out, HDR.out, rc_limit hm])
              clear hm
              go_wp2
              go_ret2
              exact ⟨by rw [HRE.out]; rfl, HB.out⟩
            · have e7 : decide ((128 : Int) < (m : Int) + 1) = false := decide_eq_false (by omega)
              have HNM := Aside.mk hm
              clear hm
              go_upto_region 10 with (fail)
              have HB1 := Aside.mk (HB.out.alloc HB.out.size (.cells #[.int .i64 k, .int .i64 x, .slice Ab b.len cb] 62))
              have hblk := heap_alloc_new wr (.cells #[.int .i64 k, .int .i64 x, .slice Ab b.len cb] 62)
              have HRB1 := Aside.mk (HRB.out.keep (keep_below HB1.out))
              obtain ⟨g7, hg7⟩ : ∃ g7, g7 = wr.heap.size := ⟨_, rfl⟩
              rw [← hg7] at hblk ⊢
              clear hg7 a0' a1' a2' HRB e7
              generalize wr.alloc (.cells #[.int .i64 k, .int .i64 x, .slice Ab b.len cb] 62) = W at HB1 hblk HRB1 ⊢
              obtain ⟨x0, x1, x2, -, -, -⟩ := blk3 hblk
              clear hblk
              obtain ⟨bn, hbn⟩ : ∃ bn, bn = b.len := ⟨_, rfl⟩
              rw [← hbn] at x2 HRB1 hbb ⊢
              have HBN := Aside.mk hbn
              clear hbn
              by_cases hk28 : k = 28
              · have f28 : (k == 28) = true := by simpa using hk28
                have hkk : k = 28 ∨ k = 29 := .inl hk28
                clear hk28
                have HKK := Aside.mk hkk
                have g1 : decide (k < (1 : Int)) = false := decide_eq_false (by omega)
                have g2 : decide ((30 : Int) < k) = false := decide_eq_false (by omega)
                have g3 : (k != 1) = true := by simp; omega
                clear hkk
                by_cases hx : x = 0
                · have g4 : (x != 0) = false := by simp [hx]
                  obtain ⟨q, hq⟩ : ∃ q, q = rcF b (m + 1) (d + 1) := ⟨_, rfl⟩
                  have hcall := IH.out b (.slice Ab bn cb) (d + 1) (m + 1) W (by have h1 := HSZ.out; have h2 := HS.out; omega) HRB1.out (by omega) (by have := HNM.out; omega)
                  rw [← hq] at hcall
                  have HC := Aside.mk (show Calls Tryd.prog 27 #[.slice Ab bn cb, .int .i64 ((d : Int) + 1), .int .i64 ((m : Int) + 1)] W _ from hcall)
                  have HNX := Aside.mk (show (if q.2 then rc (l.drop (i + 1)) q.1 d else (q.1, false)) = R by rw [← HR.out, HDR.out, rc_block HNM.out hx HKK.out, ← hq])
                  have HQL := Aside.mk (fun h : q.2 = true => hq ▸ rcF_le (hq ▸ h) (by have := HNM.out; omega) : q.2 = true → q.1 ≤ 128)
                  clear hcall hq hx
                  obtain ⟨q1', q2'⟩ := q
                  cases q2' with
                  | true =>
                    have hql : q1' ≤ 128 := HQL.out rfl
                    go_wp2_with (first | (go_at_call 27; refine HC.out.mono ?_; rintro e w5 ⟨rfl, hb⟩; have HB5 := Aside.mk hb; clear hb))
                    go_roundg k1
                    case measure => omega
                    case rel => exact ⟨i + 1, q1', by simp; done, rfl, ⟨by have := HI.out; omega⟩, ⟨HB1.out.trans (HB5.out.mono HB1.out.size)⟩, ⟨by have := HNX.out; simpa using this⟩⟩
                  | false =>
                    have HRE := Aside.mk (show R = (q1', false) by have := HNX.out; simpa using this.symm)
                    go_wp2_with (first | (go_at_call 27; refine HC.out.mono ?_; rintro e w5 ⟨rfl, hb⟩; have HB5 := Aside.mk hb; clear hb))
                    go_ret2
                    exact ⟨by rw [HRE.out]; rfl, HB1.out.trans (HB5.out.mono HB1.out.size)⟩
                · have g4 : (x != 0) = true := by simpa using hx
                  have HRE := Aside.mk (show R = (m + 1, false) by rw [← HR.out, HDR.out, rc_bad HNM.out (by have := HKK.out; omega)])
                  clear hx
                  go_wp2
                  go_ret2
                  exact ⟨by rw [HRE.out]; rfl, HB1.out⟩
              · have f28 : (k == 28) = false := by simpa using hk28
                by_cases hk29 : k = 29
                · have f29 : (k == 29) = true := by simpa using hk29
                  have hkk : k = 28 ∨ k = 29 := .inr hk29
                  clear hk28 hk29
                  have HKK := Aside.mk hkk
                  have g1 : decide (k < (1 : Int)) = false := decide_eq_false (by omega)
                  have g2 : decide ((30 : Int) < k) = false := decide_eq_false (by omega)
                  have g3 : (k != 1) = true := by simp; omega
                  clear hkk
                  by_cases hx : x = 0
                  · have g4 : (x != 0) = false := by simp [hx]
                    obtain ⟨q, hq⟩ : ∃ q, q = rcF b (m + 1) (d + 1) := ⟨_, rfl⟩
                    have hcall := IH.out b (.slice Ab bn cb) (d + 1) (m + 1) W (by have h1 := HSZ.out; have h2 := HS.out; omega) HRB1.out (by omega) (by have := HNM.out; omega)
                    rw [← hq] at hcall
                    have HC := Aside.mk (show Calls Tryd.prog 27 #[.slice Ab bn cb, .int .i64 ((d : Int) + 1), .int .i64 ((m : Int) + 1)] W _ from hcall)
                    have HNX := Aside.mk (show (if q.2 then rc (l.drop (i + 1)) q.1 d else (q.1, false)) = R by rw [← HR.out, HDR.out, rc_block HNM.out hx HKK.out, ← hq])
                    have HQL := Aside.mk (fun h : q.2 = true => hq ▸ rcF_le (hq ▸ h) (by have := HNM.out; omega) : q.2 = true → q.1 ≤ 128)
                    clear hcall hq hx
                    obtain ⟨q1', q2'⟩ := q
                    cases q2' with
                    | true =>
                      have hql : q1' ≤ 128 := HQL.out rfl
                      go_wp2_with (first | (go_at_call 27; refine HC.out.mono ?_; rintro e w5 ⟨rfl, hb⟩; have HB5 := Aside.mk hb; clear hb))
                      go_roundg k1
                      case measure => omega
                      case rel => exact ⟨i + 1, q1', by simp; done, rfl, ⟨by have := HI.out; omega⟩, ⟨HB1.out.trans (HB5.out.mono HB1.out.size)⟩, ⟨by have := HNX.out; simpa using this⟩⟩
                    | false =>
                      have HRE := Aside.mk (show R = (q1', false) by have := HNX.out; simpa using this.symm)
                      go_wp2_with (first | (go_at_call 27; refine HC.out.mono ?_; rintro e w5 ⟨rfl, hb⟩; have HB5 := Aside.mk hb; clear hb))
                      go_ret2
                      exact ⟨by rw [HRE.out]; rfl, HB1.out.trans (HB5.out.mono HB1.out.size)⟩
                  · have g4 : (x != 0) = true := by simpa using hx
                    have HRE := Aside.mk (show R = (m + 1, false) by rw [← HR.out, HDR.out, rc_bad HNM.out (by have := HKK.out; omega)])
                    clear hx
                    go_wp2
                    go_ret2
                    exact ⟨by rw [HRE.out]; rfl, HB1.out⟩
                · have f29 : (k == 29) = false := by simpa using hk29
                  have HKN := Aside.mk (show ¬ (k = 28 ∨ k = 29) from fun h => h.elim hk28 hk29)
                  clear hk28 hk29
                  by_cases h1 : k < 1
                  · have g1 : decide (k < (1 : Int)) = true := decide_eq_true h1
                    have HRE := Aside.mk (show R = (m + 1, false) by rw [← HR.out, HDR.out, rc_bad HNM.out (.inl h1)])
                    clear h1
                    go_wp2
                    go_ret2
                    exact ⟨by rw [HRE.out]; rfl, HB1.out⟩
                  · have g1 : decide (k < (1 : Int)) = false := decide_eq_false h1
                    by_cases h2 : 30 < k
                    · have g2 : decide ((30 : Int) < k) = true := decide_eq_true h2
                      have HRE := Aside.mk (show R = (m + 1, false) by rw [← HR.out, HDR.out, rc_bad HNM.out (.inr (.inl h2))])
                      clear h1 h2
                      go_wp2
                      go_ret2
                      exact ⟨by rw [HRE.out]; rfl, HB1.out⟩
                    · have g2 : decide ((30 : Int) < k) = false := decide_eq_false h2
                      have HKB := Aside.mk (And.intro h1 h2)
                      clear h1 h2
                      have hw : (k ≠ 1 ∧ x ≠ 0) ∨ ((k = 1 ∨ (k ≠ 1 ∧ x = 0)) ∧ bn ≠ 0) ∨ ((k = 1 ∨ (k ≠ 1 ∧ x = 0)) ∧ bn = 0) := by omega
                      rcases hw with ⟨h3, h4⟩ | ⟨h3, h5⟩ | ⟨h3, h5⟩
                      · have g3 : (k != 1) = true := by simpa using h3
                        have g4 : (x != 0) = true := by simpa using h4
                        have HRE := Aside.mk (show R = (m + 1, false) by rw [← HR.out, HDR.out, rc_bad HNM.out (.inr (.inr (.inl ⟨h3, h4⟩)))])
                        clear h3 h4
                        go_wp2
                        go_ret2
                        exact ⟨by rw [HRE.out]; rfl, HB1.out⟩
                      · have g5 : decide ((0 : Int) < (bn : Int)) = true := decide_eq_true (by omega)
                        have g5' : decide (0 < bn) = true := decide_eq_true (by omega)
                        have HRE := Aside.mk (show R = (m + 1, false) by rw [← HR.out, HDR.out, rc_bad HNM.out (.inr (.inr (.inr ⟨HKN.out, by have := HBN.out; omega⟩)))])
                        have h34 : (k != 1) = false ∨ ((k != 1) = true ∧ (x != 0) = false) := by
                          rcases h3 with h | ⟨h, h'⟩
                          · exact .inl (by simp [h])
                          · exact .inr ⟨by simpa using h, by simp [h']⟩
                        clear h3 h5
                        rcases h34 with g3 | ⟨g3, g4⟩
                        all_goals
                          go_wp2
                          go_ret2
                          exact ⟨by rw [HRE.out]; rfl, HB1.out⟩
                      · have g5 : decide ((0 : Int) < (bn : Int)) = false := decide_eq_false (by omega)
                        have g5' : decide (0 < bn) = false := decide_eq_false (by omega)
                        have HNX := Aside.mk (show rc (l.drop (i + 1)) (m + 1) d = R by rw [← HR.out, HDR.out, rc_plain HNM.out (by have := HBN.out; have := HKB.out; omega) HKN.out])
                        have h34 : (k != 1) = false ∨ ((k != 1) = true ∧ (x != 0) = false) := by
                          rcases h3 with h | ⟨h, h'⟩
                          · exact .inl (by simp [h])
                          · exact .inr ⟨by simpa using h, by simp [h']⟩
                        clear h3 h5
                        rcases h34 with g3 | ⟨g3, g4⟩
                        all_goals
                          go_wp2
                          go_roundg k1
                          case measure => omega
                          case rel => exact ⟨i + 1, m + 1, by simp; done, rfl, ⟨by have := HI.out; have := HNM.out; omega⟩, HB1, HNX⟩
          · have hib := decide_eq_false (show ¬ (i : Int) < (n : Int) by omega)
            have hib2 := decide_eq_false hi
            have HRE := Aside.mk (show R = (m, true) by rw [← HR.out, Ops.drop_all (by have := HNL.out; omega)]; rfl)
            go_wp2
            go_ret2
            exact ⟨by rw [HRE.out]; rfl, HB.out⟩

set_option maxRecDepth 100000 in
set_option maxHeartbeats 4000000 in
theorem Ops_calls (l : Ops) (v : Value) (w : World) (h : Rd w v l) : Calls Tryd.prog 15 #[v] w fun e w' => (∃ z : Int, e = .returned (.tuple #[.int .i64 z, .bool (decide (okOps l 0 = true ∧ l.size ≤ 128))]) ∧ (okOps l 0 = true ∧ l.size ≤ 128 → z = (l.size : Int))) ∧ Below w.heap.size w w' := by
  have hc := rcount_calls (l.size + 1) l v 0 0 w (Nat.lt_succ_self _) h (by omega) (by omega)
  have hs := rc_spec l 0 0 (by omega)
  have hF : rcF l 0 0 = rc l 0 0 := rfl
  rw [hF] at hc
  have HC := Aside.mk (show Calls Tryd.prog 27 #[v, .int .i64 0, .int .i64 0] w _ from hc)
  by_cases hok : okOps l 0 = true ∧ l.size ≤ 128
  · rw [decide_eq_true hok]
    have e := hs.1 ⟨hok.1, by omega⟩
    rw [Nat.zero_add] at e
    rw [e] at HC
    clear hc hs hF e h
    generalize l.size = z at HC hok ⊢
    clear hok

    go_enter Tryd.func15, Tryd.ntmps15
    go_wp2_with (first | (go_at_call 27; refine HC.out.mono ?_; rintro e w5 ⟨rfl, hb⟩; have HB5 := Aside.mk hb; clear hb))
    go_ret2
    exact ⟨⟨_, rfl, fun _ => rfl⟩, HB5.out⟩
  · rw [decide_eq_false hok]
    have e := hs.2 (by omega) (fun h' => hok ⟨h'.1, by omega⟩)
    rw [e] at HC
    have HNO := Aside.mk hok
    clear hc hs hF e h hok
    generalize (rc l 0 0).1 = z at HC
    go_enter Tryd.func15, Tryd.ntmps15
    go_wp2_with (first | (go_at_call 27; refine HC.out.mono ?_; rintro e w5 ⟨rfl, hb⟩; have HB5 := Aside.mk hb; clear hb))
    go_ret2
    exact ⟨⟨_, rfl, fun h => absurd h HNO.out⟩, HB5.out⟩
end Go.Proofs.YtbadcpaopdbgnaaDoor.Lang
