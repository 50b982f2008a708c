/-
  Walk: ops as text, in the program.
-/
import Derived.Test.YtbadcpaopdbgnaaDoorLangZ6
namespace Go.Proofs.YtbadcpaopdbgnaaDoor.Lang
open Go.RowKit Go.Shelf
set_option linter.unusedVariables false
set_option linter.unusedSimpArgs false

/-- What 'Text' tells. -/
def textOf (l : Ops) : ByteArray × Int :=
  if okOps l 0 = true ∧ l.size ≤ 128 then (if 512 < (rtG l true).length then (⟨#[]⟩, 2) else (⟨(rtG l true).toArray⟩, 0)) else (⟨#[]⟩, 1)
theorem join_calls (w : World) (A : Option Addr) (c : Nat) (L : List ByteArray) (B : Nat) (ho : w.ownsRow B 9 1 (.slice A L.length c) L.length (L.map Value.string)) (hl : L.length ≤ 512) (hlen : (Lib.join (datas L) [32]).length ≤ 100000) :
    Calls Tryd.prog 30 #[.slice A L.length c, .string ⟨#[32]⟩] w fun e w' => e = .returned (.string ⟨(Lib.join (datas L) [32]).toArray⟩) ∧ Below w.heap.size w w' := by
  rcases ho.2 with ⟨h', h0⟩ | ⟨g, cap, cur, h', hb, hg, hnc, _⟩
  · obtain rfl := List.length_eq_zero_iff.mp h0
    exact (Tryd.strings_Join_none A c ⟨#[32]⟩ w).mono fun e w' ⟨he, hw⟩ => ⟨he, hw ▸ Below.refl _ _⟩
  · simp only [Value.slice.injEq] at h'
    obtain ⟨rfl, -, rfl⟩ := h'
    refine Tryd.strings_Join g 0 c L ⟨#[32]⟩ w (fun j x hx => ?_) (blk_lt' hg) (by omega) hnc (by show (Lib.join (datas L) [32]).length ≤ _; omega)
    rw [Nat.zero_add]
    exact own_cell ho (by rw [List.getElem?_map, hx]; rfl)
set_option maxRecDepth 100000 in
set_option maxHeartbeats 8000000 in
theorem Text_calls (l : Ops) (v : Value) (w : World) (h : Rd w v l) (hnu : nums l) (hL : Laid w) : Calls Tryd.prog 17 #[v] w fun e w' => e = .returned (.tuple #[.string (textOf l).1, .int .i64 (textOf l).2]) ∧ Below w.heap.size w w' := by
  have HCK := Aside.mk (Check_calls l v w h)
  have HR := Aside.mk h
  have HL := Aside.mk hL
  by_cases hok : okOps l 0 = true ∧ l.size ≤ 128
  · rw [if_pos hok] at HCK
    have HLY := Aside.mk (fun (W : World) (h : Rd W v l) (h' : Laid W) => lay_calls (l.size + 1) l v 0 W (Nat.lt_succ_self _) h hok.1 hnu hok.2 h')
    have hrj := (rt_join l 0 hok.1).2.1
    have hrl := rt_len l 0 true hok.1 hnu
    have HLN := Aside.mk (show (layW l).length ≤ 512 by have := layW_len l; have := hok.2; omega)
    obtain ⟨T, hT⟩ : ∃ T : ByteArray, T = ⟨(rtG l true).toArray⟩ := ⟨_, rfl⟩
    have hTs : T.size = (rtG l true).length := by rw [hT, size_arr']
    have HJ := Aside.mk (fun (W : World) (A : Option Addr) (c B : Nat) (ho : W.ownsRow B 9 1 (.slice A (layW l).length c) (layW l).length ((layW l).map Value.string)) => (join_calls W A c (layW l) B ho HLN.out (by rw [← hrj]; have := hok.2; omega)))
    rw [← hrj, ← hT] at HJ
    have htx : textOf l = if 512 < T.size then (⟨#[]⟩, 2) else (T, 0) := by
      unfold textOf
      rw [if_pos hok, hTs, hT]
    have hTb : T.size ≤ 100000 := by rw [hTs]; have := hok.2; omega
    rw [htx]
    clear hok hrj hrl hT hTs htx h hnu hL
    by_cases h5 : 512 < T.size
    · have e1 : decide ((512 : Int) < (T.size : Int)) = true := decide_eq_true (by omega)
      have e1' : decide (512 < T.size) = true := decide_eq_true h5
      rw [if_pos h5]
      clear h5
      go_enter Tryd.func17, Tryd.ntmps17
      go_wp2_with (first
        | (go_at_call 19; refine HCK.out.mono ?_; rintro e w1 ⟨rfl, hb⟩; have HB1 := Aside.mk hb; clear hb)
        | (go_at_call 31; refine (HLY.out _ (HR.out.keep (keep_below HB1.out)) (HL.out.below HB1.out)).mono ?_; rintro e w2 ⟨⟨A, c, rfl, ho⟩, hb⟩; have HB2 := Aside.mk hb; have HO2 := Aside.mk ho; clear hb ho)
        | (go_at_call 30; refine (HJ.out _ A c _ HO2.out).mono ?_; rintro e w3 ⟨rfl, hb⟩; have HB3 := Aside.mk hb; clear hb))
      go_ret2
      exact ⟨rfl, (HB1.out.trans (HB2.out.mono HB1.out.size)).trans (HB3.out.mono (Nat.le_trans HB1.out.size HB2.out.size))⟩
    · have e1 : decide ((512 : Int) < (T.size : Int)) = false := decide_eq_false (by omega)
      have e1' : decide (512 < T.size) = false := decide_eq_false h5
      rw [if_neg h5]
      clear h5
      go_enter Tryd.func17, Tryd.ntmps17
      go_wp2_with (first
        | (go_at_call 19; refine HCK.out.mono ?_; rintro e w1 ⟨rfl, hb⟩; have HB1 := Aside.mk hb; clear hb)
        | (go_at_call 31; refine (HLY.out _ (HR.out.keep (keep_below HB1.out)) (HL.out.below HB1.out)).mono ?_; rintro e w2 ⟨⟨A, c, rfl, ho⟩, hb⟩; have HB2 := Aside.mk hb; have HO2 := Aside.mk ho; clear hb ho)
        | (go_at_call 30; refine (HJ.out _ A c _ HO2.out).mono ?_; rintro e w3 ⟨rfl, hb⟩; have HB3 := Aside.mk hb; clear hb))
      go_ret2
      exact ⟨rfl, (HB1.out.trans (HB2.out.mono HB1.out.size)).trans (HB3.out.mono (Nat.le_trans HB1.out.size HB2.out.size))⟩
  · rw [if_neg hok] at HCK
    have htx : textOf l = (⟨#[]⟩, 1) := by unfold textOf; rw [if_neg hok]
    rw [htx]
    clear hok htx h hnu hL
    go_enter Tryd.func17, Tryd.ntmps17
    go_wp2_with (first | (go_at_call 19; refine HCK.out.mono ?_; rintro e w1 ⟨rfl, hb⟩; have HB1 := Aside.mk hb; clear hb))
    go_ret2
    exact ⟨rfl, HB1.out⟩
end Go.Proofs.YtbadcpaopdbgnaaDoor.Lang
