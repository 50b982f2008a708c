/-
  Ops that are read, wherever they lie; whether two are the same.
-/
import Derived.Test.YtbadcpaopdbgnaaDoorLangC
namespace Go.Proofs.YtbadcpaopdbgnaaDoor.Lang
open Go.RowKit Go.Shelf
set_option linter.unusedVariables false
set_option linter.unusedSimpArgs false

namespace Ops
def get : Ops → Nat → Option (Int × Int × Ops)
  | nil, _ => none
  | cons k n b _, 0 => some (k, n, b)
  | cons _ _ _ r, i + 1 => r.get i
theorem get_lt : ∀ {l : Ops} {i : Nat}, i < l.len → ∃ x, l.get i = some x
  | nil, i, h => by simp [len] at h
  | cons k n b r, 0, _ => ⟨_, rfl⟩
  | cons k n b r, i + 1, h => get_lt (l := r) (by simp [len] at h; omega)
theorem ext : ∀ {l m : Ops}, l.len = m.len → (∀ i, i < l.len → l.get i = m.get i) → l = m
  | nil, nil, _, _ => rfl
  | nil, cons .., h, _ => by simp [len] at h
  | cons .., nil, h, _ => by simp [len] at h
  | cons k n b r, cons k' n' b' r', h, hg => by
    have h0 := hg 0 (by simp [len])
    simp only [get, Option.some.injEq, Prod.mk.injEq] at h0
    obtain ⟨rfl, rfl, rfl⟩ := h0
    congr 1
    exact ext (by simpa [len] using h) (fun i hi => by have := hg (i + 1) (by simp [len]; omega); simpa [get] using this)
def size : Ops → Nat
  | nil => 0
  | cons _ _ b r => b.size + r.size + 1
theorem get_size : ∀ {l : Ops} {i : Nat} {x : Int × Int × Ops}, l.get i = some x → x.2.2.size < l.size
  | nil, _, _, h => by simp [get] at h
  | cons k n b r, 0, x, h => by
    simp only [get, Option.some.injEq] at h
    subst h
    simp only [size]
    omega
  | cons k n b r, i + 1, x, h => by
    have := get_size (l := r) (by simpa [get] using h)
    simp only [size]
    omega
end Ops

/-- From ad on, at the place i, lie ops. -/
def CellsAt (w : World) (ad : Addr) : Nat → Ops → Prop
  | _, .nil => True
  | i, .cons k n b r => w.cell? (ad.add (i * 3)) = some (.int .i64 k) ∧ w.cell? ⟨(ad.add (i * 3)).block, (ad.add (i * 3)).off + 1, none⟩ = some (.int .i64 n) ∧
      (∃ A c, w.cell? ⟨(ad.add (i * 3)).block, (ad.add (i * 3)).off + 2, none⟩ = some (.slice A b.len c) ∧ b.len ≤ 9223372036854775807 ∧ (0 < b.len → ∃ ad', A = some ad' ∧ CellsAt w ad' 0 b)) ∧ CellsAt w ad (i + 1) r
/-- A slice that reads as ops. -/
def Rd (w : World) (v : Value) (l : Ops) : Prop := ∃ A c, v = .slice A l.len c ∧ l.len ≤ 9223372036854775807 ∧ (0 < l.len → ∃ ad, A = some ad ∧ CellsAt w ad 0 l)

theorem CellsAt.get {w : World} {ad : Addr} : ∀ {l : Ops} {i j : Nat} {x : Int × Int × Ops}, CellsAt w ad i l → l.get j = some x →
    w.cell? (ad.add ((i + j) * 3)) = some (.int .i64 x.1) ∧ w.cell? ⟨(ad.add ((i + j) * 3)).block, (ad.add ((i + j) * 3)).off + 1, none⟩ = some (.int .i64 x.2.1) ∧ ∃ v, w.cell? ⟨(ad.add ((i + j) * 3)).block, (ad.add ((i + j) * 3)).off + 2, none⟩ = some v ∧ Rd w v x.2.2
  | .nil, _, _, _, _, h => by simp [Ops.get] at h
  | .cons k n b r, i, 0, x, hc, h => by
    simp only [Ops.get, Option.some.injEq] at h
    subst h
    obtain ⟨h1, h2, ⟨A, c, h3, hb, h4⟩, _⟩ := hc
    exact ⟨h1, h2, _, h3, A, c, rfl, hb, h4⟩
  | .cons k n b r, i, j + 1, x, hc, h => by
    have := CellsAt.get hc.2.2.2 (j := j) (by simpa [Ops.get] using h)
    rwa [show i + 1 + j = i + (j + 1) by omega] at this
theorem Rd.drewN {w : World} {v : Value} {l : Ops} (h : Rd w v l) (q : Nat) : Rd (w.drewN q) v l := by
  obtain ⟨A, c, rfl, hlb, hc⟩ := h
  refine ⟨A, c, rfl, hlb, fun hp => ?_⟩
  obtain ⟨ad, rfl, hcc⟩ := hc hp
  refine ⟨ad, rfl, ?_⟩
  have key : ∀ (l : Ops) (ad : Addr) (i : Nat), CellsAt w ad i l → CellsAt (w.drewN q) ad i l := by
    intro l
    induction l with
    | nil => intro _ _ _; trivial
    | cons k n b r ihb ihr =>
      intro ad i hc
      obtain ⟨h1, h2, ⟨A, c, h3, hb, h4⟩, h5⟩ := hc
      exact ⟨h1, h2, ⟨A, c, h3, hb, fun hp => by obtain ⟨ad', rfl, h6⟩ := h4 hp; exact ⟨ad', rfl, ihb _ _ h6⟩⟩, ihr _ _ h5⟩
  exact key _ _ _ hcc

theorem Rd.get {w : World} {v : Value} {l : Ops} (h : Rd w v l) {i : Nat} {x : Int × Int × Ops} (hg : l.get i = some x) : ∃ ad c, v = .slice (some ad) l.len c ∧
    w.cell? (ad.add (i * 3)) = some (.int .i64 x.1) ∧ w.cell? ⟨(ad.add (i * 3)).block, (ad.add (i * 3)).off + 1, none⟩ = some (.int .i64 x.2.1) ∧ ∃ v, w.cell? ⟨(ad.add (i * 3)).block, (ad.add (i * 3)).off + 2, none⟩ = some v ∧ Rd w v x.2.2 := by
  obtain ⟨A, c, rfl, hlb, hc⟩ := h
  have hp : 0 < l.len := by
    cases l with
    | nil => simp [Ops.get] at hg
    | cons => simp [Ops.len]
  obtain ⟨ad, rfl, hcc⟩ := hc hp
  have := hcc.get hg
  rw [Nat.zero_add] at this
  exact ⟨ad, c, rfl, this⟩

theorem quiet_plus {P : Program} {f : FuncId} {args : Array Value} {w : World} {q n : Nat} {v : Value}
    (h : Calls P f args (w.drewN (q + n)) fun e w' => e = .returned v ∧ ∃ m, w' = (w.drewN (q + n)).drewN m) : Calls P f args (w.drewN (q + n)) fun e w'' => e = .returned v ∧ ∃ m, w'' = w.drewN (q + m) :=
  h.mono fun _ _ ⟨he, m, hm⟩ => ⟨he, n + m, by rw [hm, World.drewN_drewN, Nat.add_assoc]⟩
set_option maxRecDepth 100000 in
set_option maxHeartbeats 8000000 in
/-- 'EqOps'. -/
theorem eq_calls : ∀ (N : Nat) (l m : Ops) (v1 v2 : Value) (w : World), l.size < N → Rd w v1 l → Rd w v2 m → Calls Tryd.prog 11 #[v1, v2] w fun e w' => e = .returned (.bool (decide (l = m))) ∧ ∃ q, w' = w.drewN q := by
  intro N
  induction N with
  | zero => intro l m v1 v2 w hN; omega
  | succ N ih =>
    intro l m v1 v2 w hN h1 h2
    have H1 := Aside.mk h1
    have H2 := Aside.mk h2
    obtain ⟨A1, c1, rfl, hb1, hc1⟩ := h1
    obtain ⟨A2, c2, rfl, hb2, hc2⟩ := h2
    clear hc1 hc2
    by_cases hl : l.len = m.len
    · have IH := Aside.mk ih
      have HLM := Aside.mk hl
      clear ih
      obtain ⟨n, hn⟩ : ∃ n, n = l.len := ⟨_, rfl⟩
      rw [← hl, ← hn]
      have HNL := Aside.mk hn
      have hnb : n ≤ 9223372036854775807 := by omega
      clear hl hn hb1 hb2
      go_enter Tryd.func11, Tryd.ntmps11
      go_wp2
      go_loopg [5] (n + 1) (fun kq v5 w' => ∃ (i q : Nat), v5 = .int .i64 (i : Int) ∧ w' = w.drewN q ∧ Aside (i + kq = n + 1 ∧ i ≤ n ∧ ∀ j, j < i → l.get j = m.get j))
      case atStart => exact ⟨0, 0, rfl, rfl, ⟨by omega, by omega, fun j h => by omega⟩⟩
      case round =>
        obtain ⟨i, q, rfl, rfl, HI⟩ := hrel
        cases gk with
        | zero => have := HI.out; omega
        | succ k1 =>
          by_cases hi : i < n
          · have hib := decide_eq_true (show (i : Int) < (n : Int) by omega)
            have hib2 := decide_eq_true hi
            have p1 := eq_true (show 0 ≤ (i : Int) by omega)
            have q1 := eq_true (show (i : Int) < (n : Int) by omega)
            have hwi : IntKind.i64.wrap ((i : Int) + 1) = (i : Int) + 1 := by
              rw [IntKind.wrap_i64]
              omega
            obtain ⟨⟨ka, na, ba⟩, hxa⟩ := Ops.get_lt (l := l) (i := i) (by have := HNL.out; omega)
            obtain ⟨⟨kb, nb, bb⟩, hxb⟩ := Ops.get_lt (l := m) (i := i) (by have := HNL.out; have := HLM.out; omega)
            obtain ⟨ad1, _, e1, a0, a1, va, a2, hra⟩ := H1.out.get hxa
            obtain ⟨ad2, _, e2, b0, b1, vb, b2, hrb⟩ := H2.out.get hxb
            cases e1
            cases e2
            obtain ⟨Aa, ca, rfl, -, -⟩ := id hra
            obtain ⟨Ab, cb, rfl, -, -⟩ := id hrb
            have HRA := Aside.mk hra
            have HRB := Aside.mk hrb
            have HXA := Aside.mk hxa
            have HXB := Aside.mk hxb
            clear hra hrb hxa hxb
            simp only at a0 a1 b0 b1
            by_cases hk : ka = kb
            · have hkb : (ka != kb) = false := by simp [hk]
              have HK := Aside.mk hk
              clear hk
              by_cases hn2 : na = nb
              · have hnb2 : (na != nb) = false := by simp [hn2]
                have HN2 := Aside.mk hn2
                clear hn2
                have hsz := Ops.get_size HXA.out
                have hcall := fun (r : Nat) => IH.out ba bb (.slice Aa ba.len ca) (.slice Ab bb.len cb) (w.drewN r) (by simp only at hsz; omega) (HRA.out.drewN r) (HRB.out.drewN r)
                have HCL := Aside.mk hcall
                clear hcall hsz
                by_cases hbb : ba = bb
                · have hbd : decide (ba = bb) = true := decide_eq_true hbb
                  rw [hbd] at HCL
                  have HG := Aside.mk (show l.get i = m.get i by rw [HXA.out, HXB.out, HK.out, HN2.out, hbb])
                  clear hbb hbd
                  go_upto_region 6 with (fail)
                  go_quiet (first | (go_at_call 11; exact quiet_plus (HCL.out _)))
                  go_wp2
                  go_roundg k1
                  case measure => omega
                  case rel => exact ⟨i + 1, _, by simp; done, rfl, ⟨by have := HI.out; omega, by omega, fun j hj => by
                    by_cases e : j = i
                    · rw [e]; exact HG.out
                    · exact HI.out.2.2 j (by omega)⟩⟩
                · have hbd : decide (ba = bb) = false := decide_eq_false hbb
                  rw [hbd] at HCL
                  have HE := Aside.mk (show l ≠ m by rintro rfl; rw [HXA.out] at HXB; have := HXB.out; simp at this; exact hbb this.2.2)
                  clear hbb hbd
                  go_upto_region 6 with (fail)
                  go_quiet (first | (go_at_call 11; exact quiet_plus (HCL.out _)))
                  go_wp2
                  go_ret
                  exact ⟨by rw [decide_eq_false HE.out]; rfl, _, rfl⟩
              · have hnb2 : (na != nb) = true := by simpa using hn2
                have HE := Aside.mk (show l ≠ m by rintro rfl; rw [HXA.out] at HXB; have := HXB.out; simp at this; exact hn2 this.2.1)
                clear hn2
                go_upto_region 6 with (fail)
                go_quiet (fail)
                go_wp2
                go_ret
                exact ⟨by rw [decide_eq_false HE.out]; rfl, _, rfl⟩
            · have hkb : (ka != kb) = true := by simpa using hk
              have HE := Aside.mk (show l ≠ m by rintro rfl; rw [HXA.out] at HXB; have := HXB.out; simp at this; exact hk this.1)
              clear hk
              go_upto_region 6 with (fail)
              go_quiet (fail)
              go_wp2
              go_ret
              exact ⟨by rw [decide_eq_false HE.out]; rfl, _, rfl⟩
          · have hib := decide_eq_false (show ¬ (i : Int) < (n : Int) by omega)
            have hib2 := decide_eq_false hi
            have HE := Aside.mk (Ops.ext (l := l) (m := m) HLM.out (fun j hj => HI.out.2.2 j (by have := HNL.out; omega)))
            go_wp2
            go_ret
            exact ⟨by rw [decide_eq_true HE.out]; rfl, _, rfl⟩
    · have hd1 : ((l.len : Int) != (m.len : Int)) = true := by simp; omega
      have hd2 : (l.len != m.len) = true := by simp [hl]
      have HE := Aside.mk (show l ≠ m by rintro rfl; exact hl rfl)
      clear hl
      go_enter Tryd.func11, Tryd.ntmps11
      go_wp2
      go_ret
      exact ⟨by rw [decide_eq_false HE.out]; rfl, 0, rfl⟩
end Go.Proofs.YtbadcpaopdbgnaaDoor.Lang
