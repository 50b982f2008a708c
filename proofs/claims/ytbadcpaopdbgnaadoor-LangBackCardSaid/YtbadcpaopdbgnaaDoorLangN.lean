/-
  Walks: how much a text, how much ops weigh: some number.
-/
import Derived.Test.YtbadcpaopdbgnaaDoorLangM
namespace Go.Proofs.YtbadcpaopdbgnaaDoor.Lang
open Go.RowKit Go.Shelf
set_option linter.unusedVariables false
set_option linter.unusedSimpArgs false

/-- A slice that reads as texts. -/
def RdS (w : World) (v : Value) (L : List ByteArray) : Prop := ∃ A c, v = .slice A L.length c ∧ L.length ≤ 9223372036854775807 ∧ ∀ i, (hi : i < L.length) → ∃ ad, A = some ad ∧ w.cell? (ad.add i) = some (.string (L[i]'hi))

set_option maxRecDepth 100000 in
set_option maxHeartbeats 8000000 in
theorem tw_calls (L : List ByteArray) (v : Value) (w : World) (h : RdS w v L) : Calls Tryd.prog 20 #[v] w fun e w' => (∃ r, e = .returned (.int .i64 r)) ∧ ∃ q, w' = w.drewN q := by
  obtain ⟨A, c, rfl, hb, hc⟩ := h
  obtain ⟨n, hn⟩ : ∃ n, n = L.length := ⟨_, rfl⟩
  have HC := Aside.mk hc
  have HN := Aside.mk hn
  rw [← hn] at hb ⊢
  clear hc hn
  go_enter Tryd.func20, Tryd.ntmps20
  go_wp2
  go_loopg [3, 4] (n + 1) (fun kq v3 v4 w' => ∃ (i : Nat) (r : Int), v4 = .int .i64 (i : Int) ∧ v3 = .int .i64 r ∧ w' = w ∧ Aside (i + kq = n + 1 ∧ i ≤ n))
  case atStart => exact ⟨0, _, rfl, rfl, rfl, ⟨by omega⟩⟩
  case round =>
    obtain ⟨i, r, rfl, rfl, rfl, HI⟩ := hrel
    cases gk with
    | zero => have := HI.out; omega
    | succ k1 =>
      by_cases hi : i < n
      · have hib := decide_eq_true (show (i : Int) < (n : Int) by omega)
        have hib2 := decide_eq_true hi
        have p1 := eq_true (show 0 ≤ (i : Int) by omega)
        have q1 := eq_true (show (i : Int) < (n : Int) by omega)
        have hwi : IntKind.i64.wrap ((i : Int) + 1) = (i : Int) + 1 := by
          rw [IntKind.wrap_i64]
          omega
        obtain ⟨ad, rfl, hx⟩ := HC.out i (by have := HN.out; omega)
        obtain ⟨x, hxx⟩ : ∃ x, x = L[i]'(by have := HN.out; omega) := ⟨_, rfl⟩
        rw [← hxx] at hx
        clear hxx
        by_cases hr : r < 1048576
        · have hrb := decide_eq_true hr
          go_wp2
          go_roundg k1
          case measure => omega
          case rel => exact ⟨i + 1, _, by simp; done, rfl, rfl, ⟨by have := HI.out; omega⟩⟩
        · have hrb := decide_eq_false hr
          go_wp2
          go_ret
          exact ⟨⟨_, rfl⟩, 0, rfl⟩
      · have hib := decide_eq_false (show ¬ (i : Int) < (n : Int) by omega)
        have hib2 := decide_eq_false hi
        go_wp2
        go_ret
        exact ⟨⟨_, rfl⟩, 0, rfl⟩

set_option maxRecDepth 100000 in
set_option maxHeartbeats 8000000 in
theorem ow_calls : ∀ (N : Nat) (l : Ops) (v : Value) (d : Int) (w : World), l.size < N → Rd w v l → Calls Tryd.prog 21 #[v, .int .i64 d] w fun e w' => (∃ r, e = .returned (.int .i64 r)) ∧ ∃ q, w' = w.drewN q := by
  intro N
  induction N with
  | zero => intro l v d w hN; omega
  | succ N ih =>
    intro l v d w hN h1
    have H1 := Aside.mk h1
    have IH := Aside.mk ih
    clear ih
    obtain ⟨A1, c1, rfl, hb1, hc1⟩ := h1
    clear hc1
    by_cases hd : d = 0
    · subst hd
      go_enter Tryd.func21, Tryd.ntmps21
      go_wp2
      go_ret
      exact ⟨⟨_, rfl⟩, 0, rfl⟩
    · have hd1 : (d == 0) = false := by simpa using hd
      clear hd
      obtain ⟨n, hn⟩ : ∃ n, n = l.len := ⟨_, rfl⟩
      rw [← hn]
      have HNL := Aside.mk hn
      have hnb : n ≤ 9223372036854775807 := by omega
      clear hn hb1
      go_enter Tryd.func21, Tryd.ntmps21
      go_wp2
      go_loopg [5, 6] (n + 1) (fun kq v5 v6 w' => ∃ (i q : Nat) (r : Int), v6 = .int .i64 (i : Int) ∧ v5 = .int .i64 r ∧ w' = w.drewN q ∧ Aside (i + kq = n + 1 ∧ i ≤ n))
      case atStart => exact ⟨0, 0, _, rfl, rfl, rfl, ⟨by omega⟩⟩
      case round =>
        obtain ⟨i, q, r, rfl, rfl, rfl, HI⟩ := hrel
        cases gk with
        | zero => have := HI.out; omega
        | succ k1 =>
          by_cases hi : i < n
          · have hib := decide_eq_true (show (i : Int) < (n : Int) by omega)
            have hib2 := decide_eq_true hi
            have p1 := eq_true (show 0 ≤ (i : Int) by omega)
            have q1 := eq_true (show (i : Int) < (n : Int) by omega)
            have hwi : IntKind.i64.wrap ((i : Int) + 1) = (i : Int) + 1 := by
              rw [IntKind.wrap_i64]
              omega
            obtain ⟨⟨ka, na, ba⟩, hxa⟩ := Ops.get_lt (l := l) (i := i) (by have := HNL.out; omega)
            obtain ⟨ad1, _, e1, a0, a1, va, a2, hra⟩ := H1.out.get hxa
            cases e1
            obtain ⟨Aa, ca, rfl, -, -⟩ := id hra
            have hsz := Ops.get_size hxa
            have HCL := Aside.mk (fun (d : Int) (q : Nat) => IH.out ba (.slice Aa ba.len ca) d (w.drewN q) (by simp only at hsz; omega) (hra.drewN q))
            clear hra hxa hsz
            by_cases hr : r < 1048576
            · have hrb := decide_eq_true hr
              go_wp2_with (first | (go_at_call 21; refine (HCL.out _ _).mono ?_; rintro e w2 ⟨⟨r2, rfl⟩, q2, rfl⟩))
              go_roundg k1
              case measure => omega
              case rel => exact ⟨i + 1, _, _, by simp; done, rfl, rfl, ⟨by have := HI.out; omega⟩⟩
            · have hrb := decide_eq_false hr
              go_wp2
              go_ret
              exact ⟨⟨_, rfl⟩, _, rfl⟩
          · have hib := decide_eq_false (show ¬ (i : Int) < (n : Int) by omega)
            have hib2 := decide_eq_false hi
            go_wp2
            go_ret
            exact ⟨⟨_, rfl⟩, _, rfl⟩
end Go.Proofs.YtbadcpaopdbgnaaDoor.Lang
