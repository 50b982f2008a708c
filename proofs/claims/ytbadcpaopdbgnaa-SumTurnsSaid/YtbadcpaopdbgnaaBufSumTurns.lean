import Derived.Test.YtbadcpaopdbgnaaPSumTurnsx1
import Derived.StillTailTactics
import Derived.Test.YtbadcpaopdbgnaaCrc
namespace Go.Proofs.Ytbadcpaopdbgnaa.PSumTurns
open Go.RowKit Go.Proofs.YtbadcpaopdbgnaaW.PrintWords Go.Proofs.YtbadcpaopdbgnaaW.PrintLast Go.Proofs.YtbadcpaopdbgnaaW.PrintMore
set_option linter.unusedVariables false
set_option linter.unusedSimpArgs false

/-- The bytes of a conversion's own row, as they stand: what lay there ahead of the call is as it was. -/
structure Buf (w W : World) (b : Nat) (L : List Int) : Prop where
  below : Below w.heap.size w W
  hb : w.heap.size ≤ b
  cell : ∀ j, j < L.length → W.cell? ⟨b, j, none⟩ = some (.int .u8 (L.getD j 0))
  live : ∀ j, j < L.length → W.frozen? ⟨b, j, none⟩ = false

theorem Buf.conv {w W : World} (h : Below w.heap.size w W) (s : ByteArray) : Buf w (Lib.bytesWorld W 5 s) W.heap.size (bytesOf s) := by
  refine ⟨bytes_below h h.size 5 s, h.size, fun j hj => ?_, fun j hj => ?_⟩
  · rw [bytesOf_length] at hj
    rw [Lib.bytesWorld_cell W 5 s j hj]
    have h' : j < s.data.toList.length := by rw [data_length]; exact hj
    simp [bytesOf, List.getD_eq_getElem?_getD, List.getElem?_eq_getElem h']
  · rw [bytesOf_length] at hj
    have hs : j < (Lib.bytesCells W 5 s).size := by
      simp [Lib.bytesCells]
      have := data_length s
      rw [Array.length_toList] at this
      omega
    simp [World.frozen?, Lib.bytesWorld_at_new]
    omega
theorem Buf.drewN {w W : World} {b : Nat} {L : List Int} (h : Buf w W b L) (n : Nat) : Buf w (W.drewN n) b L := ⟨pw_below_drewN h.below n, h.hb, h.cell, h.live⟩
theorem Buf.drew {w W : World} {b : Nat} {L : List Int} (h : Buf w W b L) : Buf w W.drew b L := ⟨h.below.drew, h.hb, h.cell, h.live⟩
theorem Buf.set {w W : World} {b : Nat} {L : List Int} (h : Buf w W b L) (j : Nat) (hj : j < L.length) (v : Int) : Buf w (W.setCell ⟨b, j, none⟩ (.int .u8 v)) b (L.set j v) := by
  refine ⟨h.below.setCell h.hb _, h.hb, fun i hi => ?_, fun i hi => ?_⟩
  · rw [List.length_set] at hi
    by_cases e : i = j
    · subst e
      rw [World.cell?_setCell_same _ _ _ (h.cell i hi)]
      simp [List.getD_eq_getElem?_getD, hj]
    · rw [World.cell?_setCell_other _ _ _ _ (by first | (simp; done) | (simp; omega)), h.cell i hi]
      simp [List.getD_eq_getElem?_getD, List.getElem?_set, Ne.symm e]
  · rw [List.length_set] at hi
    rw [World.frozen?_setCell]
    exact h.live i hi
end Go.Proofs.Ytbadcpaopdbgnaa.PSumTurns
