/-
  Walks over package lang: a word.
-/
import Derived.Test.YtbadcpaopdbgnaaDoorLangE
namespace Go.Proofs.YtbadcpaopdbgnaaDoor.Lang
open Go.RowKit Go.Shelf
set_option linter.unusedVariables false
set_option linter.unusedSimpArgs false

set_option maxRecDepth 100000 in
set_option maxHeartbeats 4000000 in
/-- A bracket goes on to 'bracket'. -/
theorem word_bracket (w : World) (pa : Nat) (s : ByteArray) (v : Value) (R : World → Prop) (hs : s = ⟨#[91]⟩ ∨ s = ⟨#[93]⟩) (h : Calls Tryd.prog 33 #[.pointer (some ⟨pa, 0, none⟩), .string s] w fun e w' => e = .returned v ∧ R w') :
    Calls Tryd.prog 24 #[.pointer (some ⟨pa, 0, none⟩), .string s] w fun e w' => e = .returned v ∧ R w' := by
  have H := Aside.mk h
  clear h
  rcases hs with rfl | rfl
  · go_enter Tryd.func24, Tryd.ntmps24
    go_wp2_with (first | (go_at_call 33; refine H.out.mono ?_; rintro e w' ⟨rfl, hr⟩; have HR := Aside.mk hr; clear hr))
    go_ret
    exact ⟨rfl, HR.out⟩
  · go_enter Tryd.func24, Tryd.ntmps24
    go_wp2_with (first | (go_at_call 33; refine H.out.mono ?_; rintro e w' ⟨rfl, hr⟩; have HR := Aside.mk hr; clear hr))
    go_ret
    exact ⟨rfl, HR.out⟩

set_option maxRecDepth 100000 in
set_option maxHeartbeats 4000000 in
/-- A word where a bracket is waited for, or one that is no op. -/
theorem word_bad (w : World) (hL : Laid w) (pa : Nat) (vo vh many : Value) (waits : Bool) (s : ByteArray) (hsz : s.size ≤ 281474976710656) (h91 : s ≠ ⟨#[91]⟩) (h93 : s ≠ ⟨#[93]⟩)
    (hp : w.heap[pa]? = some (.cells #[vo, vh, .bool waits, many] 52 (0, 0))) (hb : waits = true ∨ opOf s = none) :
    Calls Tryd.prog 24 #[.pointer (some ⟨pa, 0, none⟩), .string s] w fun e w' => e = .returned (.int .i64 7) ∧ Upd w w' [] := by
  have h1 := sc_false (l := [91]) h91
  have h2 := sc_false (l := [93]) h93
  have hop := op_calls s w hL hsz
  obtain ⟨ok, hok⟩ : ∃ ok, ok = (opOf s).isSome := ⟨_, rfl⟩
  rw [← hok] at hop
  have HOP := Aside.mk hop
  have HP := Aside.mk hp
  have hbad : waits = true ∨ ok = false := hb.imp id (fun h => by rw [hok, h]; rfl)
  clear hop hp h91 h93 hb hok
  go_enter Tryd.func24, Tryd.ntmps24
  rcases hbad with rfl | rfl
  · go_wp2_with (first | (go_at_call 34; refine HOP.out.mono ?_; rintro e w' ⟨p, rfl, -, hb⟩; have HB := Aside.mk hb; have hp' := (hb.block pa (blk_lt' HP.out)).trans HP.out; have hp2 : ∀ o, (w'.alloc o).heap[pa]? = some (.cells #[vo, vh, .bool true, many] 52 (0, 0)) := fun o => (heap_alloc_old w' o (blk_lt' hp')).trans hp'; have c2 : ∀ o, (w'.alloc o).cell? ⟨pa, 2, none⟩ = some (.bool true) := fun o => (blk4 (hp2 o)).2.2.1; clear hp' hp2 hb; unfold opR))
    go_ret
    exact ⟨rfl, (Upd.of_below HB.out []).trans (Upd.alloc _ _ []) (fun g hg _ => hg)⟩
  · cases waits
    · go_wp2_with (first | (go_at_call 34; refine HOP.out.mono ?_; rintro e w' ⟨p, rfl, -, hb⟩; have HB := Aside.mk hb; have hp' := (hb.block pa (blk_lt' HP.out)).trans HP.out; have hp2 : ∀ o, (w'.alloc o).heap[pa]? = some (.cells #[vo, vh, .bool false, many] 52 (0, 0)) := fun o => (heap_alloc_old w' o (blk_lt' hp')).trans hp'; have c2 : ∀ o, (w'.alloc o).cell? ⟨pa, 2, none⟩ = some (.bool false) := fun o => (blk4 (hp2 o)).2.2.1; clear hp' hp2 hb; unfold opR))
      go_ret
      exact ⟨rfl, (Upd.of_below HB.out []).trans (Upd.alloc _ _ []) (fun g hg _ => hg)⟩
    · go_wp2_with (first | (go_at_call 34; refine HOP.out.mono ?_; rintro e w' ⟨p, rfl, -, hb⟩; have HB := Aside.mk hb; have hp' := (hb.block pa (blk_lt' HP.out)).trans HP.out; have hp2 : ∀ o, (w'.alloc o).heap[pa]? = some (.cells #[vo, vh, .bool true, many] 52 (0, 0)) := fun o => (heap_alloc_old w' o (blk_lt' hp')).trans hp'; have c2 : ∀ o, (w'.alloc o).cell? ⟨pa, 2, none⟩ = some (.bool true) := fun o => (blk4 (hp2 o)).2.2.1; clear hp' hp2 hb; unfold opR))
      go_ret
      exact ⟨rfl, (Upd.of_below HB.out []).trans (Upd.alloc _ _ []) (fun g hg _ => hg)⟩
end Go.Proofs.YtbadcpaopdbgnaaDoor.Lang
