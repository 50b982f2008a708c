/-
  The statement StreamExact over numbers and lists: whatever is called, the program's answers are the page's.
-/
import Derived.Test.YtbadcpaopdbgnaaPureStreamExactA
namespace Go.Proofs.Ytbadcpaopdbgnaa.PureStreamExact
open Go.RowKit Go.Proofs.Ytbadcpaopdbgnaa Go.Proofs.Ytbadcpaopdbgnaa.PStreamExact Go.Proofs.YtbadcpaopdbgnaaW.PrintWords Go.Proofs.YtbadcpaopdbgnaaW.PrintLast Go.Proofs.YtbadcpaopdbgnaaW.PrintMore
/-! ### StreamExact -/
section
variable (p0 : ByteArray) (p1 p2 p3 p4 p5 : Int) (p6 : ByteArray) (p7 : Bool) (L : List S38)
theorem j3_ok (k : Nat) (hk : 1100 ≤ k) (x5 : Int) (l : List Int) (hl : l.length ≤ 1000) (c : Int) (d : ByteArray) (a w b rl rs : Int) (rd : ByteArray) (rdn : Bool) (v0 : ByteArray) (v1 v2 v3 : Int) :
    thresherlaw20_StreamExact.j3 (k + 2) x5 l c c l p0 p1 p2 p3 p4 p5 p6 p7 L d a w b rl rs rd rdn v0 v1 v2 v3 v0 v1 v2 v3 =
      if c = 0 then thresherlaw20_StreamExact.l0 k (wrap64 (x5 + 1)) p0 p1 p2 p3 p4 p5 p6 p7 L v0 v1 v2 v3 rl rs rd rdn else thresherlaw20_StreamExact.l0 k (wrap64 (x5 + 1)) p0 p1 p2 p3 p4 p5 p6 p7 L d a w b rl rs rd rdn := by
  have hb : (!(v0.toList == v0.toList) || (!(v1 == v1) || (!(v2 == v2) || (!(v3 == v3))))) = false := by simp
  simp only [thresherlaw20_StreamExact.j3, thresherlaw20_num.f, Option.bind_some]
  rw [if_pos trivial, hb, if_neg Bool.false_ne_true, eqNumbers_same l hl (k + 1) (by omega)]
  simp only [Option.bind_some, Bool.not_true, thresherlaw20_StreamExact.j4]
  rw [if_neg Bool.false_ne_true]
theorem j5_ok (k : Nat) (x5 : Int) (c : Int) (d : ByteArray) (a w b rl rs : Int) (rd : ByteArray) (rdn : Bool) (v0 : ByteArray) (v1 v2 v3 : Int) :
    thresherlaw20_StreamExact.j5 (k + 2) x5 c c p0 p1 p2 p3 p4 p5 p6 p7 L d a w b rl rs rd rdn v0 v1 v2 v3 v0 v1 v2 v3 =
      if c = 0 then thresherlaw20_StreamExact.l0 k (wrap64 (x5 + 1)) p0 p1 p2 p3 p4 p5 p6 p7 L v0 v1 v2 v3 rl rs rd rdn else thresherlaw20_StreamExact.l0 k (wrap64 (x5 + 1)) p0 p1 p2 p3 p4 p5 p6 p7 L d a w b rl rs rd rdn := by
  have hb : (!(v0.toList == v0.toList) || (!(v1 == v1) || (!(v2 == v2) || (!(v3 == v3))))) = false := by simp
  simp only [thresherlaw20_StreamExact.j5, thresherlaw20_num.f, Option.bind_some]
  rw [if_pos trivial, hb]
  simp only [thresherlaw20_StreamExact.j6]
  rw [if_neg Bool.false_ne_true]
theorem j10_ok (k : Nat) (x5 : Int) (x23 : Int) (x24 : Bool) (c : Int) (d : ByteArray) (a w b rl rs : Int) (rd : ByteArray) (rdn : Bool) (v0 v1 : Int) (v2 : ByteArray) (v3 : Bool) :
    thresherlaw20_StreamExact.j10 (k + 2) x5 x23 x24 c c x23 x24 p0 p1 p2 p3 p4 p5 p6 p7 L d a w b rl rs rd rdn v0 v1 v2 v3 v0 v1 v2 v3 =
      if c = 0 ∨ c = 8 then thresherlaw20_StreamExact.l0 k (wrap64 (x5 + 1)) p0 p1 p2 p3 p4 p5 p6 p7 L d a w b v0 v1 v2 v3 else thresherlaw20_StreamExact.l0 k (wrap64 (x5 + 1)) p0 p1 p2 p3 p4 p5 p6 p7 L d a w b rl rs rd rdn := by
  have hb : (!(v0 == v0) || (!(v1 == v1) || (!(v2.toList == v2.toList) || (!(v3 == v3))))) = false := by simp
  have hx : (x24 != x24) = false := by simp
  simp only [thresherlaw20_StreamExact.j10, thresherlaw20_num.f, Option.bind_some]
  rw [if_pos trivial, hb, if_neg Bool.false_ne_true, if_pos trivial, hx]
  simp only [thresherlaw20_StreamExact.j11]
  rw [if_neg Bool.false_ne_true]
  by_cases h0 : c = 0
  · rw [if_pos h0, if_pos (Or.inl h0)]
  · rw [if_neg h0]
    by_cases h8 : c = 8
    · rw [if_pos h8, if_pos (Or.inr h8)]
    · rw [if_neg h8, if_neg (fun h => h.elim h0 h8)]
theorem j12_ok (k : Nat) (hk : 1001 ≤ k) (c : Int) (v0 : ByteArray) (v1 v2 v3 : Int) : thresherlaw20_StreamExact.j12 (k + 1) c c v0 v1 v2 v3 v0 v1 v2 v3 = some true := by
  have hb : (v0.toList == v0.toList && (v1 == v1 && (v2 == v2 && (v3 == v3)))) = true := by simp
  simp only [thresherlaw20_StreamExact.j12, thresherlaw20_num.f, Option.bind_some, stream_New.f, thresherref19_New.f]
  rw [if_pos trivial, hb, if_pos rfl, if_pos (by simp), wakes_true k hk]
  rfl
theorem end_ok (hp : p0.size ≤ 32768) (k : Nat) (hk : 1001 ≤ k) (x5 : Int) (d : ByteArray) (a w b rl rs : Int) (rd : ByteArray) (rdn : Bool) :
    thresherlaw20_StreamExact.j1 (k + 2) x5 false p0 p1 p2 p3 p4 p5 p6 p7 L d a w b rl rs rd rdn = some true := by
  simp only [thresherlaw20_StreamExact.j1]
  rw [if_neg Bool.false_ne_true, send_eq]
  by_cases h : (p0.size : Int) ≥ 1
  · have hs : snd p0 0 0 1 = true := decide_eq_true (by omega)
    rw [if_pos hs]
    simp only [Option.bind_some, thresherref19_Send.f]
    rw [if_pos h]
    exact j12_ok k hk 0 p0 0 0 1
  · have hs : ¬ snd p0 0 0 1 = true := fun e => h (of_decide_eq_true e).1
    rw [if_neg hs]
    simp only [Option.bind_some]
    rw [if_neg h]
    exact j12_ok k hk 1 (⟨#[]⟩ : ByteArray) 0 0 0
theorem j9_ok (k : Nat) (hk : 332000 ≤ k) (x5 : Int) (d : ByteArray) (a w b rl rs : Int) (rd : ByteArray) (rdn : Bool) (q0 q1 q2 q3 : Int) (q4 : ByteArray) (q5 : Bool) (P : Prop)
    (h : ∀ rl rs rd rdn, thresherlaw20_StreamExact.l0 k (wrap64 (x5 + 1)) p0 p1 p2 p3 p4 p5 p6 p7 L d a w b rl rs rd rdn = some true ∨ P) :
    thresherlaw20_StreamExact.j9 (k + 3) x5 p0 p1 p2 p3 p4 p5 p6 p7 L d a w b rl rs rd rdn q0 q1 q2 q3 q4 q5 = some true ∨ P := by
  simp only [thresherlaw20_StreamExact.j9]
  obtain ⟨m, hm⟩ : ∃ m, k + 2 = m + 5 := ⟨k - 3, by omega⟩
  obtain ⟨m', hm'⟩ : ∃ m, k + 2 = m + 3 := ⟨k - 1, by omega⟩
  have e1 := take_eq m (by omega) rl rs rd rdn q1 q2 q3 q4
  rw [← hm] at e1
  rw [e1, mayTake_eq (k + 2) (by omega)]
  simp only [Option.bind_some]
  by_cases hh : (hears rl rs rd rdn && mayT q1 q2 q4) = true
  · rw [if_pos hh]
    simp only [hh, if_true]
    have hh' := Bool.and_eq_true_iff.1 hh
    have e2 := rtake_eq m' (by omega) rl rs rd rdn q1 q2 q3 q4 hh'.1 hh'.2
    rw [← hm'] at e2
    rw [e2]
    simp only [Option.bind_some]
    rw [j10_ok]
    split
    · exact h _ _ _ _
    · exact h _ _ _ _
  · rw [if_neg hh, if_neg hh, j10_ok, if_neg (show ¬ ((1 : Int) = 0 ∨ (1 : Int) = 8) from by omega)]
    exact h _ _ _ _
theorem tick_case (k : Nat) (hk : 332000 ≤ k) (i : Nat) (d : ByteArray) (a w b rl rs : Int) (rd : ByteArray) (rdn : Bool) (q0 q1 q2 q3 : Int) (q4 : ByteArray) (q5 : Bool)
    (h : ∀ d a w b rl rs rd rdn k', k ≤ k' → thresherlaw20_StreamExact.l0 k' (wrap64 ((i : Int) + 1)) p0 p1 p2 p3 p4 p5 p6 p7 L d a w b rl rs rd rdn = some true) (v : Int) :
    thresherlaw20_StreamExact.j2 (k + 5) (i : Int) (snd d a w b) v true p0 p1 p2 p3 p4 p5 p6 p7 L d a w b rl rs rd rdn q0 q1 q2 q3 q4 q5 = some true := by
  simp only [thresherlaw20_StreamExact.j2]
  rw [if_pos trivial, tick_eq (k + 4) (by omega)]
  by_cases hs : snd d a w b = true
  · rw [if_pos hs]
    simp only [Option.bind_some]
    rw [if_pos hs, rtick_eq (k + 4) (by omega) d a w b hs]
    simp only [Option.bind_some]
    rw [j3_ok p0 p1 p2 p3 p4 p5 p6 p7 L (k + 2) (by omega) _ _ (by have := tick_length d a w b; omega), if_pos rfl]
    exact h _ _ _ _ _ _ _ _ _ (by omega)
  · rw [if_neg hs]
    simp only [Option.bind_some]
    rw [if_neg hs, j3_ok p0 p1 p2 p3 p4 p5 p6 p7 L (k + 2) (by omega) _ _ (by simp), if_neg (by omega)]
    exact h _ _ _ _ _ _ _ _ _ (by omega)
theorem ack_case (k : Nat) (i : Nat) (d : ByteArray) (a w b rl rs : Int) (rd : ByteArray) (rdn : Bool) (q0 q1 q2 q3 : Int) (q4 : ByteArray) (q5 : Bool)
    (h : ∀ d a w b rl rs rd rdn k', k ≤ k' → thresherlaw20_StreamExact.l0 k' (wrap64 ((i : Int) + 1)) p0 p1 p2 p3 p4 p5 p6 p7 L d a w b rl rs rd rdn = some true) :
    thresherlaw20_StreamExact.j2 (k + 5) (i : Int) (snd d a w b) 2 false p0 p1 p2 p3 p4 p5 p6 p7 L d a w b rl rs rd rdn q0 q1 q2 q3 q4 q5 = some true := by
  simp only [thresherlaw20_StreamExact.j2]
  rw [if_neg Bool.false_ne_true, if_pos trivial, ack_eq]
  by_cases hs : snd d a w b = true
  · rw [if_pos hs]
    simp only [Option.bind_some]
    rw [if_pos hs, rack_eq]
    simp only [Option.bind_some]
    rw [j5_ok p0 p1 p2 p3 p4 p5 p6 p7 L (k + 2), if_pos rfl]
    exact h _ _ _ _ _ _ _ _ _ (by omega)
  · rw [if_neg hs]
    simp only [Option.bind_some]
    rw [if_neg hs, j5_ok p0 p1 p2 p3 p4 p5 p6 p7 L (k + 2), if_neg (by omega)]
    exact h _ _ _ _ _ _ _ _ _ (by omega)
theorem j7_no (k : Nat) (x5 : Int) (e : ByteArray) (d : ByteArray) (a w b rl rs : Int) (rd : ByteArray) (rdn : Bool) (q0 q1 q2 q3 : Int) (q4 : ByteArray) (q5 : Bool) :
    thresherlaw20_StreamExact.j7 (k + 1) x5 e 1 1 e false p0 p1 p2 p3 p4 p5 p6 p7 L d a w b rl rs rd rdn q0 q1 q2 q3 q4 q5 = thresherlaw20_StreamExact.l0 k (wrap64 (x5 + 1)) p0 p1 p2 p3 p4 p5 p6 p7 L d a w b rl rs rd rdn := by
  simp only [thresherlaw20_StreamExact.j7, thresherlaw20_num.f]
  rw [if_neg Bool.false_ne_true]
  simp only [Option.bind_some, if_true]
theorem chunk_case (k : Nat) (i : Nat) (d : ByteArray) (a w b rl rs : Int) (rd : ByteArray) (rdn : Bool) (q0 q1 q2 q3 : Int) (q4 : ByteArray) (q5 : Bool)
    (h : ∀ d a w b rl rs rd rdn k', k ≤ k' → thresherlaw20_StreamExact.l0 k' (wrap64 ((i : Int) + 1)) p0 p1 p2 p3 p4 p5 p6 p7 L d a w b rl rs rd rdn = some true) :
    thresherlaw20_StreamExact.j2 (k + 5) (i : Int) (snd d a w b) 3 false p0 p1 p2 p3 p4 p5 p6 p7 L d a w b rl rs rd rdn q0 q1 q2 q3 q4 q5 = some true := by
  simp only [thresherlaw20_StreamExact.j2]
  rw [if_neg Bool.false_ne_true, if_neg (show ¬ (3 : Int) = 2 from by omega), if_pos trivial, chunk_eq]
  by_cases hs : snd d a w b = true
  · have hs' := of_decide_eq_true hs
    by_cases hc : 0 ≤ q1 ∧ q1 ≤ (d.size : Int) - 1
    · rw [if_pos (show snd d a w b = true ∧ 0 ≤ q1 ∧ q1 ≤ (d.size : Int) - 1 from ⟨hs, hc⟩)]
      simp only [Option.bind_some]
      rw [if_pos hs, num_eq, wrapOk ((d.size : Int) - 1) (by omega) (by omega)]
      simp only [Option.bind_some]
      rw [decide_eq_true hc]
      simp only [thresherlaw20_StreamExact.j7, thresherlaw20_num.f]
      rw [if_pos trivial, rchunk_eq d a w b q1 (by omega) hc.1 hc.2]
      simp only [Option.bind_some, if_true]
      exact h _ _ _ _ _ _ _ _ _ (by omega)
    · rw [if_neg (show ¬ (snd d a w b = true ∧ 0 ≤ q1 ∧ q1 ≤ (d.size : Int) - 1) from fun e => hc e.2)]
      simp only [Option.bind_some]
      rw [if_pos hs, num_eq, wrapOk ((d.size : Int) - 1) (by omega) (by omega)]
      simp only [Option.bind_some]
      rw [decide_eq_false hc, j7_no]
      exact h _ _ _ _ _ _ _ _ _ (by omega)
  · rw [if_neg (show ¬ (snd d a w b = true ∧ 0 ≤ q1 ∧ q1 ≤ (d.size : Int) - 1) from fun e => hs e.1)]
    simp only [Option.bind_some]
    rw [if_neg hs, j7_no]
    exact h _ _ _ _ _ _ _ _ _ (by omega)
theorem nine_case (k : Nat) (hk : 332000 ≤ k) (i : Nat) (d : ByteArray) (a w b rl rs : Int) (rd : ByteArray) (rdn : Bool) (q0 q1 q2 q3 : Int) (q4 : ByteArray) (q5 : Bool)
    (h : ∀ d a w b rl rs rd rdn k', k ≤ k' → thresherlaw20_StreamExact.l0 k' (wrap64 ((i : Int) + 1)) p0 p1 p2 p3 p4 p5 p6 p7 L d a w b rl rs rd rdn = some true) :
    thresherlaw20_StreamExact.j9 (k + 3) (i : Int) p0 p1 p2 p3 p4 p5 p6 p7 L d a w b rl rs rd rdn q0 q1 q2 q3 q4 q5 = some true :=
  (j9_ok p0 p1 p2 p3 p4 p5 p6 p7 L k hk (i : Int) d a w b rl rs rd rdn q0 q1 q2 q3 q4 q5 False (fun _ _ _ _ => Or.inl (h _ _ _ _ _ _ _ _ _ (Nat.le_refl k)))).resolve_right id
theorem eight_case (k : Nat) (hk : 332000 ≤ k) (i : Nat) (d : ByteArray) (a w b rl rs : Int) (rd : ByteArray) (rdn : Bool) (q0 q1 q2 q3 : Int) (q4 : ByteArray) (q5 : Bool)
    (h : ∀ d a w b rl rs rd rdn k', k ≤ k' → thresherlaw20_StreamExact.l0 k' (wrap64 ((i : Int) + 1)) p0 p1 p2 p3 p4 p5 p6 p7 L d a w b rl rs rd rdn = some true) (x : Bool) (hx : x = true → snd d a w b = true) :
    thresherlaw20_StreamExact.j8 (k + 4) (i : Int) x p0 p1 p2 p3 p4 p5 p6 p7 L d a w b rl rs rd rdn q0 q1 q2 q3 q4 q5 = some true := by
  simp only [thresherlaw20_StreamExact.j8]
  cases x
  · rw [if_neg Bool.false_ne_true]
    exact nine_case p0 p1 p2 p3 p4 p5 p6 p7 L k hk i d a w b rl rs rd rdn q0 q1 q2 q3 q4 q5 h
  · have hs' := of_decide_eq_true (hx rfl)
    obtain ⟨u, hu, hu0, hu1⟩ := within0 q1 (d.size : Int) (by omega) (by omega)
    rw [if_pos rfl, hu]
    simp only [Option.bind_some]
    rw [ref_crc d (by omega) (k + 3) (by omega)]
    simp only [Option.bind_some]
    rw [rchunk_eq d a w b u (by omega) hu0 (by omega)]
    simp only [Option.bind_some]
    exact nine_case p0 p1 p2 p3 p4 p5 p6 p7 L k hk i d a w b rl rs rd rdn _ _ _ _ _ _ h
theorem take_case (k : Nat) (hk : 332000 ≤ k) (i : Nat) (d : ByteArray) (a w b rl rs : Int) (rd : ByteArray) (rdn : Bool) (q0 q1 q2 q3 : Int) (q4 : ByteArray) (q5 : Bool)
    (h : ∀ d a w b rl rs rd rdn k', k ≤ k' → thresherlaw20_StreamExact.l0 k' (wrap64 ((i : Int) + 1)) p0 p1 p2 p3 p4 p5 p6 p7 L d a w b rl rs rd rdn = some true) (v : Int) (h2 : ¬ v = 2) (h3 : ¬ v = 3) :
    thresherlaw20_StreamExact.j2 (k + 5) (i : Int) (snd d a w b) v false p0 p1 p2 p3 p4 p5 p6 p7 L d a w b rl rs rd rdn q0 q1 q2 q3 q4 q5 = some true := by
  simp only [thresherlaw20_StreamExact.j2]
  rw [if_neg Bool.false_ne_true, if_neg h2, if_neg h3]
  cases q5
  · rw [if_neg Bool.false_ne_true]
    exact eight_case p0 p1 p2 p3 p4 p5 p6 p7 L k hk i d a w b rl rs rd rdn _ _ _ _ _ _ h false (fun e => absurd e Bool.false_ne_true)
  · rw [if_pos rfl]
    exact eight_case p0 p1 p2 p3 p4 p5 p6 p7 L k hk i d a w b rl rs rd rdn _ _ _ _ _ _ h _ id
theorem round_ok (k : Nat) (hk : 332000 ≤ k) (i : Nat) (hi : i < L.length) (d : ByteArray) (a w b rl rs : Int) (rd : ByteArray) (rdn : Bool)
    (h : ∀ d a w b rl rs rd rdn k', k ≤ k' → thresherlaw20_StreamExact.l0 k' (wrap64 ((i : Int) + 1)) p0 p1 p2 p3 p4 p5 p6 p7 L d a w b rl rs rd rdn = some true) :
    thresherlaw20_StreamExact.j1 (k + 6) (i : Int) true p0 p1 p2 p3 p4 p5 p6 p7 L d a w b rl rs rd rdn = some true := by
  simp only [thresherlaw20_StreamExact.j1]
  rw [if_pos trivial, if_pos (show (0 : Int) ≤ (i : Int) from by omega), if_pos (show (i : Int) < (L.length : Int) from by omega), sender_eq]
  simp only [Option.bind_some]
  obtain ⟨v, hv, hv0, hv8⟩ := within0 (rd_T38 L (i : Int)).f0 8 (by omega) (by omega)
  rw [hv]
  simp only [Option.bind_some]
  by_cases h0 : v = 0
  · rw [if_pos h0, show (v == 0) = true from beq_iff_eq.2 h0]
    exact tick_case p0 p1 p2 p3 p4 p5 p6 p7 L k hk i d a w b rl rs rd rdn _ _ _ _ _ _ h v
  · rw [if_neg h0]
    by_cases h1 : v = 1
    · rw [show (v == 1) = true from beq_iff_eq.2 h1]
      exact tick_case p0 p1 p2 p3 p4 p5 p6 p7 L k hk i d a w b rl rs rd rdn _ _ _ _ _ _ h v
    · rw [show (v == 1) = false from beq_eq_false_iff_ne.2 h1]
      by_cases h2 : v = 2
      · rw [h2]
        exact ack_case p0 p1 p2 p3 p4 p5 p6 p7 L k i d a w b rl rs rd rdn _ _ _ _ _ _ h
      · by_cases h3 : v = 3
        · rw [h3]
          exact chunk_case p0 p1 p2 p3 p4 p5 p6 p7 L k i d a w b rl rs rd rdn _ _ _ _ _ _ h
        · exact take_case p0 p1 p2 p3 p4 p5 p6 p7 L k hk i d a w b rl rs rd rdn _ _ _ _ _ _ h v h2 h3
theorem loop_ok (hp : p0.size ≤ 32768) (dd : Nat) : ∀ (i k : Nat) (d : ByteArray) (a w b rl rs : Int) (rd : ByteArray) (rdn : Bool), i + dd = 15 → 332000 + 8 * dd + 8 ≤ k → thresherlaw20_StreamExact.l0 k (i : Int) p0 p1 p2 p3 p4 p5 p6 p7 L d a w b rl rs rd rdn = some true := by
  induction dd with
  | zero =>
    intro i k d a w b rl rs rd rdn hi hk
    obtain ⟨k, rfl⟩ : ∃ m, k = m + 3 := ⟨k - 3, by omega⟩
    simp only [thresherlaw20_StreamExact.l0]
    rw [decide_eq_false (show ¬ (i : Int) < 15 from by omega)]
    split
    · exact end_ok p0 p1 p2 p3 p4 p5 p6 p7 L hp k (by omega) _ d a w b rl rs rd rdn
    · exact end_ok p0 p1 p2 p3 p4 p5 p6 p7 L hp k (by omega) _ d a w b rl rs rd rdn
  | succ dd ih =>
    intro i k d a w b rl rs rd rdn hi hk
    obtain ⟨k, rfl⟩ : ∃ m, k = m + 7 := ⟨k - 7, by omega⟩
    simp only [thresherlaw20_StreamExact.l0]
    rw [decide_eq_true (show (i : Int) < 15 from by omega)]
    by_cases hl : (i : Int) < (L.length : Int)
    · rw [if_pos hl]
      refine round_ok p0 p1 p2 p3 p4 p5 p6 p7 L k (by omega) i (by omega) d a w b rl rs rd rdn (fun d a w b rl rs rd rdn k' hk' => ?_)
      rw [wrapN i (by omega)]
      exact ih (i + 1) k' d a w b rl rs rd rdn (by omega) (by omega)
    · rw [if_neg hl]
      exact end_ok p0 p1 p2 p3 p4 p5 p6 p7 L hp (k + 4) (by omega) _ d a w b rl rs rd rdn
end
theorem exact_all (L : List S38) (hL : L.length ≤ 140737488351232) (hz : ∀ x ∈ L, x.f4.size ≤ 140737488351232) (p0 : ByteArray) (p1 p2 p3 p4 p5 : Int) (p6 : ByteArray) (p7 : Bool) (h0 : p0.size ≤ 140737488351232) (h6 : p6.size ≤ 140737488351232) (k : Nat) (hk : L.length + 400000 ≤ k) :
    thresherlaw20_StreamExact.f k p0 p1 p2 p3 p4 p5 p6 p7 L = some true := by
  obtain ⟨b, hb, hn⟩ := heavy_eq L hL hz p0 p1 p2 p3 p4 p5 p6 p7 h0 h6 k (by omega)
  unfold thresherlaw20_StreamExact.f
  rw [hb]
  simp only [Option.bind_some]
  cases b
  · rw [if_neg Bool.false_ne_true]
    have := hn rfl
    exact loop_ok p0 p1 p2 p3 p4 p5 p6 p7 L (by omega) 15 0 k _ _ _ _ _ _ _ _ rfl (by omega)
  · rfl
end Go.Proofs.Ytbadcpaopdbgnaa.PureStreamExact
namespace Go.Proofs.Ytbadcpaopdbgnaa.Pure
open Go.Proofs.Ytbadcpaopdbgnaa.PStreamExact
theorem StreamExact : ∀ (a0_0 : ByteArray) (a0_1 : Int) (a0_2 : Int) (a0_3 : Int) (a0_4 : Int) (a0_5 : Int) (a0_6 : ByteArray) (a0_7 : Bool) (l0_8 : List S38), a0_0.size ≤ 140737488351232 → (Lit.int .i64 a0_1).wf = true → (Lit.int .i64 a0_2).wf = true → (Lit.int .i64 a0_3).wf = true → (Lit.int .i64 a0_4).wf = true → (Lit.int .u32 a0_5).wf = true → a0_6.size ≤ 140737488351232 → True → (l0_8.length * 56 ≤ 140737488351232 ∧ ∀ x1 ∈ l0_8, ((Lit.int .i64 x1.f0).wf = true ∧ (Lit.int .i64 x1.f1).wf = true ∧ (Lit.int .i64 x1.f2).wf = true ∧ (Lit.int .u32 x1.f3).wf = true ∧ x1.f4.size ≤ 140737488351232 ∧ True)) → ∃ k, thresherlaw20_StreamExact.f k a0_0 a0_1 a0_2 a0_3 a0_4 a0_5 a0_6 a0_7 l0_8 = some true :=
  fun p0 p1 p2 p3 p4 p5 p6 p7 L h0 _ _ _ _ _ h6 _ hL => ⟨L.length + 400000, PureStreamExact.exact_all L (by omega) (fun x hx => (hL.2 x hx).2.2.2.2.1) p0 p1 p2 p3 p4 p5 p6 p7 h0 h6 _ (Nat.le_refl _)⟩
end Go.Proofs.Ytbadcpaopdbgnaa.Pure
