/-
  What the argument's reading tells, with its weights: the ops' numbers in their range, every list of ops within its weight.
-/
import Derived.Test.YtbadcpaopdbgnaaDoorLangOpen
import Derived.Test.YtbadcpaopdbgnaaDoorLangY
import Derived.SizedLaws
namespace Go.Proofs.YtbadcpaopdbgnaaDoor.Lang
open Go.ChangeShapes Go.WideShapes Go.RowKit
set_option linter.unusedVariables false
set_option linter.unusedSimpArgs false

theorem weights_all {H : Type} {P : Program} {e : TypeId} : ∀ (l : List (DataW H)) (d : DataW H), d ∈ l → ∀ m ∈ d.weights P e, m ∈ DataW.weightsAll P e l
  | [], _, h, _, _ => by cases h
  | a :: r, d, h, m, hm => by
    simp only [DataW.weightsAll, List.mem_append]
    rcases List.mem_cons.1 h with rfl | h
    · exact Or.inl hm
    · exact Or.inr (weights_all r d h m hm)

/-- The weights of one argument among all. -/
theorem weights_of {H : Type} {P : Program} {ts : List TypeId} {ds : List (DataW H)} (h : (DataW.weightsEach P ts ds).all (· ≤ reachBytes) = true) {j : Nat} {t : TypeId} {d : DataW H} (ht : ts[j]? = some t) (hd : ds[j]? = some d) : ∀ m ∈ d.weights P t, m ≤ reachBytes := fun m hm => by
  have := List.all_eq_true.1 h m (DataW.weights_mem_each ht hd m hm)
  simpa using this
theorem fields62 : ∃ fs : Array Field, Tryd.prog.underlying 62 = some (.struct fs) ∧ fs.size = 3 ∧ (fs[0]?.map (fun f => (f.type, f.offset))) = some (3, 0) ∧ (fs[1]?.map (fun f => (f.type, f.offset))) = some (2, 1) ∧ (fs[2]?.map (fun f => (f.type, f.offset))) = some (23, 2) ∧ fs.toList.map Field.type = [3, 2, 23] :=
  ⟨_, Tryd.underlying62, by kernel_rfl, by kernel_rfl, by kernel_rfl, by kernel_rfl, by kernel_rfl⟩
theorem bytes62 : Tryd.prog.bytesOf 62 = 40 := by kernel_rfl
theorem num_range {k : IntKind} {m : Int} (hk : k = .i64) (h : (Lit.int k m).wf = true) : -9223372036854775808 ≤ m ∧ m ≤ 9223372036854775807 := by
  subst hk
  have h1 : (decide (IntKind.i64.min ≤ m) && decide (m ≤ IntKind.i64.max)) = true := h
  simp only [Bool.and_eq_true, decide_eq_true_eq] at h1
  have e1 : IntKind.i64.min = -9223372036854775808 := by decide
  have e2 : IntKind.i64.max = 9223372036854775807 := by decide
  rw [e1, e2] at h1
  exact h1
section
variable {H : Type} {enc : TypeId × Value → H} {w : World} {base : Nat} {spare : Nat → Bool} {held : Bool}
set_option maxRecDepth 100000 in
theorem open_op2 {n : Nat} {cs : List Value} {x : DataW H × List MemPlace} (h : DataW.trod enc Tryd.prog w base spare held n 62 cs = some x) (hw : ∀ m ∈ x.1.weights Tryd.prog 62, m ≤ reachBytes) :
    ∃ (k m : Int) (v : Value) (n' : Nat) (y : DataW H × List MemPlace), n = n' + 1 ∧ cs = [.int .i64 k, .int .i64 m, v] ∧ (-9223372036854775808 ≤ m ∧ m ≤ 9223372036854775807) ∧ DataW.trod enc Tryd.prog w base spare held n' 23 [v] = some y ∧ ∀ m ∈ y.1.weights Tryd.prog 23, m ≤ reachBytes := by
  obtain ⟨fs, hu, hs, f0, f1, f2, hty⟩ := fields62
  obtain ⟨xs, n', rfl, rfl, hl, hxl, hf⟩ := DataW.trod_struct hu h
  rw [cells62] at hl
  obtain ⟨g0, e0, h0⟩ := Option.map_eq_some_iff.mp f0
  obtain ⟨g1, e1, h1⟩ := Option.map_eq_some_iff.mp f1
  obtain ⟨g2, e2, h2⟩ := Option.map_eq_some_iff.mp f2
  simp only [Prod.mk.injEq] at h0 h1 h2
  match cs, hl with
  | [c0, c1, c2], _ =>
    match xs, (show xs.length = 3 by rw [hxl]; exact hs) with
    | [x0, x1, x2], _ =>
      have t0 := hf 0 g0 e0
      have t1 := hf 1 g1 e1
      have t2 := hf 2 g2 e2
      rw [h0.1, h0.2, cells3] at t0
      rw [h1.1, h1.2, cells2] at t1
      rw [h2.1, h2.2, cells23] at t2
      have t0' : DataW.trod enc Tryd.prog w base spare held n' 3 [c0] = some x0 := t0
      have t1' : DataW.trod enc Tryd.prog w base spare held n' 2 [c1] = some x1 := t1
      have t2' : DataW.trod enc Tryd.prog w base spare held n' 23 [c2] = some x2 := t2
      obtain ⟨k, ek, -, -⟩ := DataW.trod_int Tryd.underlying3 t0'
      obtain ⟨m, em, -, hm⟩ := DataW.trod_int Tryd.underlying2 t1'
      simp only [List.cons.injEq, and_true] at ek em
      subst ek em
      refine ⟨k, m, c2, n', x2, rfl, rfl, num_range rfl hm, t2', fun q hq => hw q ?_⟩
      simp only [DataW.weights, hu, hty, List.map_cons, List.map_nil, DataW.weightsEach, List.mem_append]
      exact Or.inr (Or.inr (Or.inl hq))
/-- An op at place i, its block being read, with its bounds. -/
def OneAt2 (w : World) (ad : Addr) (i : Nat) : Prop :=
  ∃ (k n : Int) (b : Ops), w.cell? (ad.add (i * 3)) = some (.int .i64 k) ∧ w.cell? ⟨(ad.add (i * 3)).block, (ad.add (i * 3)).off + 1, none⟩ = some (.int .i64 n) ∧
      (∃ A c, w.cell? ⟨(ad.add (i * 3)).block, (ad.add (i * 3)).off + 2, none⟩ = some (.slice A b.len c) ∧ b.len ≤ 9223372036854775807 ∧ (0 < b.len → ∃ ad', A = some ad' ∧ CellsAt w ad' 0 b)) ∧
      (-9223372036854775808 ≤ n ∧ n ≤ 9223372036854775807) ∧ nums b ∧ short b ∧ b.len ≤ 3518437208780
theorem cells_of_ones2 {ad : Addr} {len : Nat} (h : ∀ i, i < len → OneAt2 w ad i) : ∀ d, d ≤ len → ∃ l : Ops, l.len = d ∧ CellsAt w ad (len - d) l ∧ nums l ∧ short l
  | 0, _ => ⟨.nil, rfl, trivial, trivial, trivial⟩
  | d + 1, hd => by
    obtain ⟨l, hl, hc, hnu, hsh⟩ := cells_of_ones2 h d (by omega)
    obtain ⟨k, n, b, h1, h2, h3, hn, hb1, hb2, hb3⟩ := h (len - (d + 1)) (by omega)
    refine ⟨.cons k n b l, by simp [Ops.len, hl], ⟨h1, h2, h3, ?_⟩, ⟨hn, hb1, hnu⟩, ⟨hb3, hb2, hsh⟩⟩
    rwa [show len - (d + 1) + 1 = len - d by omega]
set_option maxRecDepth 100000 in
theorem open_ops2 : ∀ (N n : Nat) (cs : List Value) (x : DataW H × List MemPlace), n ≤ N → DataW.trod enc Tryd.prog w base spare held n 23 cs = some x → (∀ m ∈ x.1.weights Tryd.prog 23, m ≤ reachBytes) → ∃ (l : Ops) (v : Value), cs = [v] ∧ Rd w v l ∧ nums l ∧ short l ∧ l.len ≤ 3518437208780 := by
  intro N
  induction N with
  | zero =>
    intro n cs x hn h
    obtain rfl : n = 0 := by omega
    simp [DataW.trod] at h
  | succ N ih =>
    intro n cs x hn h hw
    rcases DataW.trod_slice Tryd.underlying23 h with ⟨rfl, _⟩ | ⟨a, len, cap, elems, rest, n', rfl, rfl, rfl, hb, hl, hm, hlen, hel, _, _⟩
    · exact ⟨.nil, _, rfl, ⟨none, 0, rfl, by simp [Ops.len], fun h => by simp [Ops.len] at h⟩, trivial, trivial, by simp [Ops.len]⟩
    · rw [cells62] at hel
      have hsz : len ≤ 3518437208780 := by
        have z := hw _ (by simp only [DataW.weights, Tryd.underlying23]; exact List.mem_cons_self)
        rw [bytes62] at z
        simp only [List.length_map, hlen] at z
        have z2 : (len + rest.length) * 40 ≤ 140737488351232 := by simpa [reachBytes] using z
        omega
      have hone : ∀ i, i < len → OneAt2 w a i := fun i hi => by
        have h1 := hel i hi
        rw [List.getElem?_eq_getElem (by omega)] at h1
        obtain ⟨cs', h2, h3⟩ := Option.bind_eq_some_iff.mp h1
        obtain ⟨k, m, v, n2, y, rfl, rfl, hmr, h4, hyw⟩ := open_op2 h3 (fun q hq => hw q (by
          simp only [DataW.weights, Tryd.underlying23, List.mem_cons, List.mem_append]
          exact Or.inr (Or.inl (weights_all _ _ (List.mem_map.2 ⟨_, List.getElem_mem _, rfl⟩) q hq))))
        obtain ⟨-, -, h5⟩ := World.cells?_some h2
        obtain ⟨b, v', e, ⟨A, c, rfl, hbl, hbc⟩, hnu, hsh, hbl2⟩ := ih n2 [v] y (by omega) h4 hyw
        simp only [List.cons.injEq, and_true] at e
        subst e
        refine ⟨k, m, b, ?_, ?_, ⟨A, c, ?_, hbl, hbc⟩, hmr, hnu, hsh, hbl2⟩
        · have := h5 0 (by omega)
          rwa [add_zero'] at this
        · have := h5 1 (by omega)
          rwa [add_pos' _ 1 (by omega)] at this
        · have := h5 2 (by omega)
          rwa [add_pos' _ 2 (by omega)] at this
      obtain ⟨l, hll, hlc, hnu, hsh⟩ := cells_of_ones2 hone len (Nat.le_refl _)
      rw [Nat.sub_self] at hlc
      exact ⟨l, _, rfl, ⟨some a, cap, by rw [hll], by rw [hll]; unfold maxLen at hm; omega, fun _ => ⟨a, rfl, hlc⟩⟩, hnu, hsh, by omega⟩
set_option maxRecDepth 100000 in
/-- The argument: texts and ops. -/
theorem open_ask2 {n : Nat} {v0 v1 : Value} {x : DataW H × List MemPlace} (h : DataW.trod enc Tryd.prog w base spare held n 25 [v0, v1] = some x) (hw : ∀ m ∈ x.1.weights Tryd.prog 25, m ≤ reachBytes) : ∃ (L : List ByteArray) (l : Ops), RdS w v0 L ∧ Rd w v1 l ∧ nums l ∧ short l ∧ l.len ≤ 3518437208780 := by
  obtain ⟨fs, hu, hs, f0, f1, hty⟩ : ∃ fs : Array Field, Tryd.prog.underlying 25 = some (.struct fs) ∧ fs.size = 2 ∧ (fs[0]?.map (fun f => (f.type, f.offset))) = some (22, 0) ∧ (fs[1]?.map (fun f => (f.type, f.offset))) = some (23, 1) ∧ fs.toList.map Field.type = [22, 23] :=
    ⟨_, Tryd.underlying25, by kernel_rfl, by kernel_rfl, by kernel_rfl, by kernel_rfl⟩
  obtain ⟨xs, n', rfl, rfl, hl, hxl, hf⟩ := DataW.trod_struct hu h
  obtain ⟨g0, e0, h0⟩ := Option.map_eq_some_iff.mp f0
  obtain ⟨g1, e1, h1⟩ := Option.map_eq_some_iff.mp f1
  simp only [Prod.mk.injEq] at h0 h1
  match xs, (show xs.length = 2 by rw [hxl]; exact hs) with
  | [x0, x1], _ =>
    have t0 := hf 0 g0 e0
    have t1 := hf 1 g1 e1
    rw [h0.1, h0.2, show Tryd.prog.cellsOf 22 = 1 by kernel_rfl] at t0
    rw [h1.1, h1.2, cells23] at t1
    have t0' : DataW.trod enc Tryd.prog w base spare held n' 22 [v0] = some x0 := t0
    have t1' : DataW.trod enc Tryd.prog w base spare held n' 23 [v1] = some x1 := t1
    obtain ⟨L, v, e, hL⟩ := open_texts t0'
    obtain ⟨l, v', e', hl', hnu, hsh, hlo⟩ := open_ops2 n' n' _ _ (Nat.le_refl _) t1' (fun q hq => hw q (by
      simp only [DataW.weights, hu, hty, List.map_cons, List.map_nil, DataW.weightsEach, List.mem_append]
      exact Or.inr (Or.inl hq)))
    simp only [List.cons.injEq, and_true] at e e'
    subst e e'
    exact ⟨L, l, hL, hl', hnu, hsh, hlo⟩
end
end Go.Proofs.YtbadcpaopdbgnaaDoor.Lang
