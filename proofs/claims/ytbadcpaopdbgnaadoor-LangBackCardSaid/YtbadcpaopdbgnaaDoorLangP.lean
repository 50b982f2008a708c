/-
  Walk: whether an ask is heavy: some bool, and the old memory stays.
-/
import Derived.Test.YtbadcpaopdbgnaaDoorLangO
namespace Go.Proofs.YtbadcpaopdbgnaaDoor.Lang
open Go.RowKit Go.Shelf
set_option linter.unusedVariables false
set_option linter.unusedSimpArgs false

theorem below_draw' {B : Nat} {w W : World} (h : Below B w W) (n : Nat) : Below B w (W.drewN n) := ⟨h.os, h.tape, h.output, h.size, h.block⟩
set_option maxRecDepth 100000 in
set_option maxHeartbeats 8000000 in
theorem heavy_calls (LS : List ByteArray) (LO : Ops) (vS vL : Value) (w : World) (hS : RdS w vS LS) (hL : Rd w vL LO) : Calls Tryd.prog 7 #[.agg #[vS, vL]] w fun e w' => (∃ b, e = .returned (.bool b)) ∧ Below w.heap.size w w' := by
  have HS := Aside.mk hS
  have HL := Aside.mk hL
  clear hS hL
  go_enter Tryd.func7, Tryd.ntmps7
  go_wp2_with (first
    | (go_at_call 20; refine (tw_calls LS vS _ (HS.out.keep (keep_below ((Below.refl _ w).alloc (Nat.le_refl _) _)))).mono ?_; rintro e w' ⟨⟨r, rfl⟩, q, rfl⟩)
    | (go_at_call 21; refine (ow_calls _ LO vL _ _ (Nat.lt_succ_self _) ((HL.out.keep (keep_below ((Below.refl _ w).alloc (Nat.le_refl _) _))).drewN _)).mono ?_; rintro e w' ⟨⟨r2, rfl⟩, q2, rfl⟩))
  · go_wp2
    (try simp only [Exit.inBlock, Exit.then])
    have hb := below_draw' ((Below.refl w.heap.size w).alloc (Nat.le_refl _) (.cells #[vS, vL] 25)) (q + q2)
    go_ret
    exact ⟨⟨_, rfl⟩, hb⟩
  · (try simp only [Exit.inBlock, Exit.then])
    have hb := below_draw' ((Below.refl w.heap.size w).alloc (Nat.le_refl _) (.cells #[vS, vL] 25)) q
    go_ret
    exact ⟨Or.inr rfl, hb⟩
end Go.Proofs.YtbadcpaopdbgnaaDoor.Lang
