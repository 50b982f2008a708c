/-
  What the argument's reading tells: texts, ops.
-/
import Derived.Test.YtbadcpaopdbgnaaDoorLangO
import Derived.Deep.Slices
import Derived.ChangeArms
namespace Go.Proofs.YtbadcpaopdbgnaaDoor.Lang
open Go.ChangeShapes Go.WideShapes Go.RowKit
set_option linter.unusedVariables false
set_option linter.unusedSimpArgs false

theorem add_zero' (a : Addr) : a.add 0 = a := by unfold Addr.add; simp
theorem add_pos' (a : Addr) (j : Nat) (h : 0 < j) : a.add j = ⟨a.block, a.off + j, none⟩ := by
  unfold Addr.add
  rw [if_neg (by omega)]
theorem fields61 : ∃ fs : Array Field, Tryd.prog.underlying 62 = some (.struct fs) ∧ fs.size = 3 ∧ (fs[0]?.map (fun f => (f.type, f.offset))) = some (3, 0) ∧ (fs[1]?.map (fun f => (f.type, f.offset))) = some (2, 1) ∧ (fs[2]?.map (fun f => (f.type, f.offset))) = some (23, 2) :=
  ⟨_, Tryd.underlying62, by kernel_rfl, by kernel_rfl, by kernel_rfl, by kernel_rfl⟩
theorem cells62 : Tryd.prog.cellsOf 62 = 3 := by kernel_rfl
theorem cells23 : Tryd.prog.cellsOf 23 = 1 := by kernel_rfl
theorem cells3 : Tryd.prog.cellsOf 3 = 1 := by kernel_rfl
theorem cells2 : Tryd.prog.cellsOf 2 = 1 := by kernel_rfl
theorem cells9 : Tryd.prog.cellsOf 9 = 1 := by kernel_rfl
section
variable {H : Type} {enc : TypeId × Value → H} {w : World} {base : Nat} {spare : Nat → Bool} {held : Bool}
set_option maxRecDepth 100000 in
theorem open_op {n : Nat} {cs : List Value} {x : DataW H × List MemPlace} (h : DataW.trod enc Tryd.prog w base spare held n 62 cs = some x) :
    ∃ (k m : Int) (v : Value) (n' : Nat) (y : DataW H × List MemPlace), n = n' + 1 ∧ cs = [.int .i64 k, .int .i64 m, v] ∧ DataW.trod enc Tryd.prog w base spare held n' 23 [v] = some y := by
  obtain ⟨fs, hu, hs, f0, f1, f2⟩ := fields61
  obtain ⟨xs, n', rfl, rfl, hl, hxl, hf⟩ := DataW.trod_struct hu h
  rw [cells62] at hl
  obtain ⟨g0, e0, h0⟩ := Option.map_eq_some_iff.mp f0
  obtain ⟨g1, e1, h1⟩ := Option.map_eq_some_iff.mp f1
  obtain ⟨g2, e2, h2⟩ := Option.map_eq_some_iff.mp f2
  simp only [Prod.mk.injEq] at h0 h1 h2
  match cs, hl with
  | [c0, c1, c2], _ =>
    match xs, (show xs.length = 3 by rw [hxl]; exact hs) with
    | [x0, x1, x2], _ =>
      have t0 := hf 0 g0 e0
      have t1 := hf 1 g1 e1
      have t2 := hf 2 g2 e2
      rw [h0.1, h0.2, cells3] at t0
      rw [h1.1, h1.2, cells2] at t1
      rw [h2.1, h2.2, cells23] at t2
      have t0' : DataW.trod enc Tryd.prog w base spare held n' 3 [c0] = some x0 := t0
      have t1' : DataW.trod enc Tryd.prog w base spare held n' 2 [c1] = some x1 := t1
      have t2' : DataW.trod enc Tryd.prog w base spare held n' 23 [c2] = some x2 := t2
      obtain ⟨k, ek, -, -⟩ := DataW.trod_int Tryd.underlying3 t0'
      obtain ⟨m, em, -, -⟩ := DataW.trod_int Tryd.underlying2 t1'
      simp only [List.cons.injEq, and_true] at ek em
      subst ek em
      exact ⟨k, m, c2, n', x2, rfl, rfl, t2'⟩
/-- An op at place i, its block being read. -/
def OneAt (w : World) (ad : Addr) (i : Nat) : Prop :=
  ∃ (k n : Int) (b : Ops), w.cell? (ad.add (i * 3)) = some (.int .i64 k) ∧ w.cell? ⟨(ad.add (i * 3)).block, (ad.add (i * 3)).off + 1, none⟩ = some (.int .i64 n) ∧
      (∃ A c, w.cell? ⟨(ad.add (i * 3)).block, (ad.add (i * 3)).off + 2, none⟩ = some (.slice A b.len c) ∧ b.len ≤ 9223372036854775807 ∧ (0 < b.len → ∃ ad', A = some ad' ∧ CellsAt w ad' 0 b))
theorem cells_of_ones {ad : Addr} {len : Nat} (h : ∀ i, i < len → OneAt w ad i) : ∀ d, d ≤ len → ∃ l : Ops, l.len = d ∧ CellsAt w ad (len - d) l
  | 0, _ => ⟨.nil, rfl, trivial⟩
  | d + 1, hd => by
    obtain ⟨l, hl, hc⟩ := cells_of_ones h d (by omega)
    obtain ⟨k, n, b, h1, h2, h3⟩ := h (len - (d + 1)) (by omega)
    refine ⟨.cons k n b l, by simp [Ops.len, hl], h1, h2, h3, ?_⟩
    rwa [show len - (d + 1) + 1 = len - d by omega]
set_option maxRecDepth 100000 in
theorem open_ops : ∀ (N n : Nat) (cs : List Value) (x : DataW H × List MemPlace), n ≤ N → DataW.trod enc Tryd.prog w base spare held n 23 cs = some x → ∃ (l : Ops) (v : Value), cs = [v] ∧ Rd w v l := by
  intro N
  induction N with
  | zero =>
    intro n cs x hn h
    obtain rfl : n = 0 := by omega
    simp [DataW.trod] at h
  | succ N ih =>
    intro n cs x hn h
    rcases DataW.trod_slice Tryd.underlying23 h with ⟨rfl, _⟩ | ⟨a, len, cap, elems, rest, n', rfl, rfl, _, hb, hl, hm, hlen, hel, _, _⟩
    · exact ⟨.nil, _, rfl, none, 0, rfl, by simp [Ops.len], fun h => by simp [Ops.len] at h⟩
    · rw [cells62] at hel
      have hone : ∀ i, i < len → OneAt w a i := fun i hi => by
        have h1 := hel i hi
        rw [List.getElem?_eq_getElem (by omega)] at h1
        obtain ⟨cs', h2, h3⟩ := Option.bind_eq_some_iff.mp h1
        obtain ⟨k, m, v, n2, y, rfl, rfl, h4⟩ := open_op h3
        obtain ⟨-, -, h5⟩ := World.cells?_some h2
        obtain ⟨b, v', e, A, c, rfl, hbl, hbc⟩ := ih n2 [v] y (by omega) h4
        simp only [List.cons.injEq, and_true] at e
        subst e
        refine ⟨k, m, b, ?_, ?_, A, c, ?_, hbl, hbc⟩
        · have := h5 0 (by omega)
          rwa [add_zero'] at this
        · have := h5 1 (by omega)
          rwa [add_pos' _ 1 (by omega)] at this
        · have := h5 2 (by omega)
          rwa [add_pos' _ 2 (by omega)] at this
      obtain ⟨l, hll, hlc⟩ := cells_of_ones hone len (Nat.le_refl _)
      rw [Nat.sub_self] at hlc
      exact ⟨l, _, rfl, some a, cap, by rw [hll], by rw [hll]; unfold maxLen at hm; omega, fun _ => ⟨a, rfl, hlc⟩⟩
set_option maxRecDepth 100000 in
theorem open_texts {n : Nat} {cs : List Value} {x : DataW H × List MemPlace} (h : DataW.trod enc Tryd.prog w base spare held n 22 cs = some x) : ∃ (L : List ByteArray) (v : Value), cs = [v] ∧ RdS w v L := by
  rcases DataW.trod_slice Tryd.underlying22 h with ⟨rfl, _⟩ | ⟨a, len, cap, elems, rest, n', rfl, rfl, _, hb, hl, hm, hlen, hel, _, _⟩
  · exact ⟨[], _, rfl, none, 0, rfl, by simp, fun i hi => by simp at hi⟩
  · rw [cells9] at hel
    have hone : ∀ i, i < len → ∃ s : ByteArray, w.cell? (a.add i) = some (.string s) := fun i hi => by
      have h1 := hel i hi
      rw [List.getElem?_eq_getElem (by omega)] at h1
      obtain ⟨cs', h2, h3⟩ := Option.bind_eq_some_iff.mp h1
      obtain ⟨-, -, h5⟩ := World.cells?_some h2
      obtain ⟨s, rfl, -, -⟩ := DataW.trod_string Tryd.underlying9 h3
      have := h5 0 (by omega)
      rw [add_zero', Nat.mul_one] at this
      exact ⟨s, this⟩
    have hex : ∀ d, d ≤ len → ∃ L : List ByteArray, L.length = d ∧ ∀ i (hi : i < L.length), w.cell? (a.add i) = some (.string L[i]) := by
      intro d
      induction d with
      | zero => exact fun _ => ⟨[], rfl, fun i hi => by simp at hi⟩
      | succ d ih =>
        intro hd
        obtain ⟨L, hL, hc⟩ := ih (by omega)
        obtain ⟨s, hs⟩ := hone d (by omega)
        refine ⟨L ++ [s], by simp [hL], fun i hi => ?_⟩
        by_cases h : i < L.length
        · rw [List.getElem_append_left h]
          exact hc i h
        · have : i = d := by simp at hi; omega
          subst this
          rw [List.getElem_append_right (by omega)]
          simpa [hL] using hs
    obtain ⟨L, hL, hc⟩ := hex len (Nat.le_refl _)
    exact ⟨L, _, rfl, some a, cap, by rw [hL], by rw [hL]; unfold maxLen at hm; omega, fun i hi => ⟨a, rfl, hc i hi⟩⟩
set_option maxRecDepth 100000 in
/-- The argument: texts and ops. -/
theorem open_ask {n : Nat} {v0 v1 : Value} {x : DataW H × List MemPlace} (h : DataW.trod enc Tryd.prog w base spare held n 25 [v0, v1] = some x) : ∃ (L : List ByteArray) (l : Ops), RdS w v0 L ∧ Rd w v1 l := by
  obtain ⟨fs, hu, hs, f0, f1⟩ : ∃ fs : Array Field, Tryd.prog.underlying 25 = some (.struct fs) ∧ fs.size = 2 ∧ (fs[0]?.map (fun f => (f.type, f.offset))) = some (22, 0) ∧ (fs[1]?.map (fun f => (f.type, f.offset))) = some (23, 1) :=
    ⟨_, Tryd.underlying25, by kernel_rfl, by kernel_rfl, by kernel_rfl⟩
  obtain ⟨xs, n', rfl, rfl, hl, hxl, hf⟩ := DataW.trod_struct hu h
  obtain ⟨g0, e0, h0⟩ := Option.map_eq_some_iff.mp f0
  obtain ⟨g1, e1, h1⟩ := Option.map_eq_some_iff.mp f1
  simp only [Prod.mk.injEq] at h0 h1
  match xs, (show xs.length = 2 by rw [hxl]; exact hs) with
  | [x0, x1], _ =>
    have t0 := hf 0 g0 e0
    have t1 := hf 1 g1 e1
    rw [h0.1, h0.2, show Tryd.prog.cellsOf 22 = 1 by kernel_rfl] at t0
    rw [h1.1, h1.2, cells23] at t1
    have t0' : DataW.trod enc Tryd.prog w base spare held n' 22 [v0] = some x0 := t0
    have t1' : DataW.trod enc Tryd.prog w base spare held n' 23 [v1] = some x1 := t1
    obtain ⟨L, v, e, hL⟩ := open_texts t0'
    obtain ⟨l, v', e', hl'⟩ := open_ops n' n' _ _ (Nat.le_refl _) t1'
    simp only [List.cons.injEq, and_true] at e e'
    subst e e'
    exact ⟨L, l, hL, hl'⟩
end
end Go.Proofs.YtbadcpaopdbgnaaDoor.Lang
