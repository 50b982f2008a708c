/-
  What is read stays where old memory stands; a row of ops of one's own is read; whether an ask is heavy.
-/
import Derived.Test.YtbadcpaopdbgnaaDoorLangN
import Derived.Test.YtbadcpaopdbgnaaDoorLangE
namespace Go.Proofs.YtbadcpaopdbgnaaDoor.Lang
open Go.RowKit Go.Shelf
set_option linter.unusedVariables false
set_option linter.unusedSimpArgs false

theorem CellsAt.keep {w w' : World} (hk : ∀ a x, w.cell? a = some x → w'.cell? a = some x) : ∀ {l : Ops} {ad : Addr} {i : Nat}, CellsAt w ad i l → CellsAt w' ad i l := by
  intro l
  induction l with
  | nil => intro _ _ _; trivial
  | cons k n b r ihb ihr =>
    intro ad i hc
    obtain ⟨h1, h2, ⟨A, c, h3, hb, h4⟩, h5⟩ := hc
    exact ⟨hk _ _ h1, hk _ _ h2, ⟨A, c, hk _ _ h3, hb, fun hp => by obtain ⟨ad', rfl, h6⟩ := h4 hp; exact ⟨ad', rfl, ihb h6⟩⟩, ihr h5⟩
theorem Rd.keep {w w' : World} (hk : ∀ a x, w.cell? a = some x → w'.cell? a = some x) {v : Value} {l : Ops} (h : Rd w v l) : Rd w' v l := by
  obtain ⟨A, c, rfl, hb, hc⟩ := h
  refine ⟨A, c, rfl, hb, fun hp => ?_⟩
  obtain ⟨ad, rfl, hcc⟩ := hc hp
  exact ⟨ad, rfl, hcc.keep hk⟩
theorem RdS.keep {w w' : World} (hk : ∀ a x, w.cell? a = some x → w'.cell? a = some x) {v : Value} {L : List ByteArray} (h : RdS w v L) : RdS w' v L := by
  obtain ⟨A, c, rfl, hb, hc⟩ := h
  refine ⟨A, c, rfl, hb, fun i hi => ?_⟩
  obtain ⟨ad, rfl, hx⟩ := hc i hi
  exact ⟨ad, rfl, hk _ _ hx⟩
theorem keep_below {w w' : World} (hb : Below w.heap.size w w') : ∀ a x, w.cell? a = some x → w'.cell? a = some x := fun a x h => (hb.cell (World.block_lt_of_cell? w a h)).trans h

/-- An owned row of ops is read. -/
theorem OpsAt.cells {w : World} {B : Nat} : ∀ {l : Ops} {xs : List Value} {F : List Nat} {g i : Nat}, OpsAt w B l xs F → (∀ j x, xs[j]? = some x → w.cell? ⟨g, i * 3 + j, none⟩ = some x) → CellsAt w ⟨g, 0, none⟩ i l
  | .nil, _, _, _, _, _, _ => trivial
  | .cons k n b r, _, _, g, i, h, hc => by
    obtain ⟨v, ys, xs', Fb, Fr, rfl, rfl, ho, hb, hr⟩ := h
    have e : (⟨g, 0, none⟩ : Addr).add (i * 3) = ⟨g, i * 3, none⟩ := addr_add g _
    refine ⟨by rw [e]; exact hc 0 _ rfl, by rw [e]; exact hc 1 _ rfl, ?_, ?_⟩
    · obtain ⟨A, c, rfl⟩ := own_slice ho
      refine ⟨A, c, by rw [e]; exact hc 2 _ rfl, ?_, fun hp => ?_⟩
      · rcases ho.2 with ⟨h', h0⟩ | ⟨g', cap', cur, h', _, _, hnc, hm, _⟩
        · omega
        · unfold maxLen at hm; omega
      · rcases ho.2 with ⟨h', h0⟩ | ⟨g', cap', cur, h', _, _, hnc, hm, _⟩
        · omega
        · simp only [Value.slice.injEq] at h'
          obtain ⟨rfl, -, rfl⟩ := h'
          refine ⟨_, rfl, hb.cells (fun j x hx => ?_)⟩
          rw [Nat.zero_mul, Nat.zero_add]
          exact own_cell ho hx
    · refine hr.cells (fun j x hx => ?_)
      rw [show (i + 1) * 3 + j = i * 3 + (j + 3) by omega]
      exact hc (j + 3) x (by simpa using hx)
theorem SliceAt.rd {w : World} {B : Nat} {l : Ops} {v : Value} {F : List Nat} (h : SliceAt w B l v F) : Rd w v l := by
  obtain ⟨xs, F', rfl, ho, hb⟩ := h
  obtain ⟨A, c, rfl⟩ := own_slice ho
  refine ⟨A, c, rfl, ?_, fun hp => ?_⟩
  · rcases ho.2 with ⟨h', h0⟩ | ⟨g', cap', cur, h', _, _, hnc, hm, _⟩
    · omega
    · unfold maxLen at hm; omega
  · rcases ho.2 with ⟨h', h0⟩ | ⟨g', cap', cur, h', _, _, hnc, hm, _⟩
    · omega
    · simp only [Value.slice.injEq] at h'
      obtain ⟨rfl, -, rfl⟩ := h'
      refine ⟨_, rfl, hb.cells (fun j x hx => ?_)⟩
      rw [Nat.zero_mul, Nat.zero_add]
      exact own_cell ho hx
end Go.Proofs.YtbadcpaopdbgnaaDoor.Lang
